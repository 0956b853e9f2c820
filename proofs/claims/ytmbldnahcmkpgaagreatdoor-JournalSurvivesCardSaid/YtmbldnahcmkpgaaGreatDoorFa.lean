/- Laws of the walk over whatever program: what a call appends to a slice of its own, in the short form in which these proofs use them. Abstract values and memory, and what they stand for in a world: the ground of the walks over them. States of abstract values; what one operation does to them; the rule of the frame. The table of types; operations over memory: load, store, alloc, box, places. Operations: places in arrays and slices, slices, numbers, strings, conversions. Operations: numbers, tests, strings, conversions, new slices. Operations: the rest: conversions, lengths, values built, new slices, append, copy. -/
import Derived.WalkKit
import Derived.Deep.AppendSrc
import Derived.Deep.Draws
import Derived.IntWalk
set_option linter.unusedSimpArgs false
set_option linter.unusedVariables false
namespace Go.L
open Go.RowKit
def Info (P : Program) (t e : TypeId) (z : Value) (size bytes : Nat) : Prop :=
  P.underlying t = some (.slice e)∧(P.info? e).map (fun i=>(i.zero,i.size,i.bytes)) = some (some z,size,bytes)∧z.cells.size = size∧0 < size
theorem add_lit (b o j : Nat) : (⟨b,o,none⟩ : Addr).add j = ⟨b,o + j,none⟩:=by unfold Addr.add;split <;> simp_all
theorem app1 {P : Program} {w W : World} {ops : Array Oper} {rest : List Oper} {o : Oper} {a : Act} {Q : Exit→Act→World→Prop} {B t e : Nat} {z : Value} {size bytes : Nat}
    {v : Value} {n : Nat} {xs : List Value} (hI : Info P t e z size bytes) (hown : w.ownsRow B e size v n xs) (hb : Below B W w) (hB : B ≤ w.heap.size)
    (hn : (n + 1) * bytes ≤ 140737488355328) (h63 : n + 1 ≤ maxLen) {news : List Value} (hgd : o.guard = none) (s x : Operand)
    (ho : o.op = .call { callee:=.builtin .append,args:=#[s,x],argTypes:=#[t,t] })
    (hs : a.eval s = v) (hx : a.eval x = .slice (some ⟨w.heap.size,0,none⟩) 1 1) (hl : news.length = size) (h1 : ∀ u ∈ news,u.oneCell' = true)
    (h : ∀ v' w',w'.ownsRow B e size v' (n + 1) (xs ++ news)→Below B W w'→wpList P ops Q rest (a.put o.dst v') w') :
    wpList P ops Q (o::rest) a (w.alloc (.cells news.toArray e (0,0))):=by
  obtain ⟨ht,hi,hz,hsz⟩:=hI
  obtain ⟨i,hi1,hz0,hz1,hz2⟩:=info_parts hi
  refine wpList_append_own _ hgd s x t ho B e i z size bytes ht hi1 hz0 hz1 hz2 hz hsz v n xs hs (hown.alloc _) ⟨w.heap.size,0,none⟩ 1 1 news hx (by omega) ?_ h1 h63 hn (by simp;omega) ?_
  · intro j u hj
    rw [add_lit,Nat.zero_add,cell_of_row _ _ j news.toArray e (0,0) (heap_alloc_new w _)]
    simpa using hj
  · intro v' w' h2 h3 _
    refine h v' w' h2 ?_
    refine (hb.alloc hB _).grown h3 (by simp;omega) ?_
    intro k hk
    exact (hown.lt k hk).1
section
variable {w w' W : World} {B C e n : Nat} {size : Nat} {v : Value} {xs : List Value}
theorem own_form (h : w.ownsRow B e size v n xs) : ∃ a cap,v = .slice a n cap∧n ≤ cap∧cap ≤ maxLen:=by
  rcases h.2 with ⟨rfl,rfl⟩ | ⟨g,cap,cur,rfl,_,_,h1,h2,_⟩
  · exact ⟨none,0,rfl,Nat.le_refl _,by unfold maxLen;omega⟩
  · exact ⟨_,_,rfl,h1,h2⟩
theorem own_some {a : Option Addr} {m cap : Nat} (h : w.ownsRow B e size (.slice a m cap) n xs) (hn : 0 < n) :
    ∃ g,a = some ⟨g,0,none⟩∧B ≤ g∧g < w.heap.size∧∀ j u,xs[j]? = some u→w.cell? ⟨g,j,none⟩ = some u:=by
  rcases h.2 with ⟨hv,h0⟩ | ⟨g,cap,cur,hv,hb,hg,h1,h2,_⟩
  · omega
  · simp only [Value.slice.injEq] at hv
    obtain ⟨rfl,_,_⟩:=hv
    refine ⟨g,rfl,hb,(Array.getElem?_eq_some_iff.1 hg).1,fun j u hu=>?_⟩
    have:=h.cells (g:=g) rfl j u hu
    rwa [add_lit,Nat.zero_add] at this
end
def Rd (w : World) (C : Nat) (v : Value) (n : Nat) (xs : List Value) : Prop :=
  ∃ a cap,v = .slice a n cap∧n ≤ maxLen∧(xs ≠ []→∃ b off,a = some ⟨b,off,none⟩∧b < C∧∀ j u,xs[j]? = some u→w.cell? ⟨b,off + j,none⟩ = some u)
theorem Rd.below {w w' : World} {C D n : Nat} {v : Value} {xs : List Value} (h : Rd w C v n xs) (hb : Below D w w') (hC : C ≤ D) : Rd w' C v n xs:=by
  obtain ⟨a,cap,rfl,hn,h⟩:=h
  refine ⟨a,cap,rfl,hn,fun hx=>?_⟩
  obtain ⟨b,off,rfl,hlt,hc⟩:=h hx
  exact ⟨b,off,rfl,hlt,fun j u hu=>(hb.cell (p:=⟨b,off + j,none⟩) (by show b < D;omega)).trans (hc j u hu)⟩
theorem own_rd {w : World} {B e size n : Nat} {v : Value} {xs : List Value} (h : w.ownsRow B e size v n xs) (hsz : 0 < size) : Rd w w.heap.size v n xs:=by
  obtain ⟨a,cap,rfl,h1,h2⟩:=own_form h
  refine ⟨a,cap,rfl,by omega,fun hx=>?_⟩
  have hn : 0 < n:=by
    rcases Nat.eq_zero_or_pos n with h0 | h0
    · subst h0;exact absurd (List.eq_nil_of_length_eq_zero (by simpa using h.1)) hx
    · exact h0
  obtain ⟨g,rfl,_,hg,hc⟩:=own_some h hn
  exact ⟨g,0,rfl,hg,fun j u hu=>by rw [Nat.zero_add];exact hc j u hu⟩
theorem conv_string {P : Program} {w : World} {src dst e C : Nat} (hs : P.underlying src = some (.slice e)) (he : P.underlying e = some (.int .u8)) (hd : P.underlying dst = some .string)
    {v : Value} {l : List UInt8} (h : Rd w C v l.length (l.map fun b=>.int .u8 b.toNat)) : (convert src dst v).run P w = .ok (.string ⟨l.toArray⟩) w:=by
  obtain ⟨a,cap,rfl,_,h⟩:=h
  by_cases h0 : l = []
  · subst h0
    rw [run_convert_bytes_string w src dst e a _ cap hs he hd]
    cases a <;> simp [Conv.bytesToString,loadCells,loadCellsFrom] <;> rfl
  · obtain ⟨b,off,rfl,_,hc⟩:=h (by simpa using h0)
    refine run_convert_bytes_back w src dst e ⟨b,off,none⟩ cap l hs he hd fun j hj=>?_
    rw [add_lit]
    exact hc j _ (by simp [hj])
def Blk (w : World) (g : Nat) (cs : List Value) (t : TypeId) : Prop:=∃ fz : Nat × Nat,w.heap[g]? = some (.cells cs.toArray t fz)∧(fz = (0,0) ∨ cs.length ≤ fz.1)
section
variable {w : World} {g h : Nat} {cs : List Value} {t : TypeId}
theorem Blk.of (hb : w.heap[g]? = some (.cells cs.toArray t (0,0))) : Blk w g cs t:=⟨_,hb,.inl rfl⟩
theorem Blk.cell (hb : Blk w g cs t) {i : Nat} {v : Value} (hv : cs[i]? = some v) : w.cell? ⟨g,i,none⟩ = some v:=by
  obtain ⟨fz,hb,_⟩:=hb
  rw [cell_of_row w g i _ t fz hb];simpa using hv
theorem Blk.free (hb : Blk w g cs t) {i : Nat} (hi : i < cs.length) : w.frozen? ⟨g,i,none⟩ = false:=by
  obtain ⟨⟨lo,up⟩,hb,h⟩:=hb
  simp only [World.frozen?,hb]
  rcases h with h | h
  · cases h;simp
  · simp only at h
    have : ¬ lo ≤ i:=by omega
    simp [this]
theorem Blk.lt (hb : Blk w g cs t) : g < w.heap.size:=by
  obtain ⟨fz,hb,_⟩:=hb
  exact lt_of_block hb
theorem Blk.row (hb : Blk w g cs t) (cs' : List Value) (hl : cs'.length = cs.length) : Blk (w.setRow g cs'.toArray) g cs' t:=by
  obtain ⟨fz,hb,h⟩:=hb
  exact ⟨fz,setRow_heap w g cs.toArray cs'.toArray t fz hb,by rw [hl];exact h⟩
theorem Blk.setCell (hb : Blk w g cs t) (i : Nat) (v : Value) : w.setCell ⟨g,i,none⟩ v = w.setRow g (cs.set i v).toArray:=by
  obtain ⟨fz,hb,h⟩:=hb
  rw [setCell_eq_setRow w g i cs.toArray t fz v hb];simp
theorem Blk.set (hb : Blk w g cs t) (i : Nat) (v : Value) : Blk (w.setCell ⟨g,i,none⟩ v) g (cs.set i v) t:=by
  rw [hb.setCell];exact hb.row _ (by simp)
theorem Blk.self (hb : Blk w g cs t) : w.setRow g cs.toArray = w:=by
  obtain ⟨fz,hb,h⟩:=hb
  exact setRow_self w g _ t fz hb
theorem Blk.other (hb : Blk w g cs t) (i : Nat) (v : Value) (hne : g ≠ h) : Blk (w.setCell ⟨h,i,none⟩ v) g cs t:=by
  unfold Blk at *;rw [Below.heap_setCell _ _ _ _ (by simpa using hne)];exact hb
theorem Blk.alloc (hb : Blk w g cs t) (o : Obj) : Blk (w.alloc o) g cs t:=by
  have hlt:=hb.lt
  unfold Blk at *;rw [Below.heap_alloc _ _ _ hlt];exact hb
theorem Blk.new (w : World) (cs : List Value) (t : TypeId) : Blk (w.alloc (.cells cs.toArray t)) w.heap.size cs t:=.of (heap_alloc_new w _)
theorem Blk.drew (hb : Blk w g cs t) : Blk w.drew g cs t:=hb
theorem Blk.drewN (hb : Blk w g cs t) (n : Nat) : Blk (w.drewN n) g cs t:=hb
theorem Blk.below {w' : World} {C : Nat} (hb : Blk w g cs t) (h : Below C w w') (hC : g < C) : Blk w' g cs t:=by
  unfold Blk at *;rw [h.block g hC];exact hb
theorem Blk.at (hb : Blk w g cs t) : ∃ fz,w.heap[g]? = some (.cells cs.toArray t fz):=by
  obtain ⟨fz,hb,_⟩:=hb
  exact ⟨fz,hb⟩
end
theorem run_storeBlk (P : Program) (g o : Nat) (t : TypeId) : ∀ (vs : List Value) (i : Nat) (cs : List Value) (w : World),Blk w g cs t→o + i + vs.length ≤ cs.length→(∀ v ∈ vs,v.oneCell' = true) →
    (storeCells ⟨g,o,none⟩ vs i).run P w = .ok () (w.setRow g (cs.take (o + i) ++ vs ++ cs.drop (o + i + vs.length)).toArray)
  | [],i,cs,w,hb,_,_=>by
    rw [List.append_nil,List.length_nil,Nat.add_zero,List.take_append_drop,hb.self]
    rfl
  | v :: vs,i,cs,w,hb,hl,h1=>by
    rw [List.length_cons] at hl
    have hst : (store ((⟨g,o,none⟩ : Addr).add i) v).run P w = .ok () (w.setCell ⟨g,o + i,none⟩ v):=by
      rw [add_lit,run_store P w _ v _ (h1 v (by simp)),hb.cell (List.getElem?_eq_getElem (show o + i < cs.length by omega))]
      simp [hb.free (show o + i < cs.length by omega)]
    have ih:=run_storeBlk P g o t vs (i + 1) _ _ (hb.set (o + i) v) (by simp;omega) fun u hu=>h1 u (by simp [hu])
    have hlist : (cs.set (o + i) v).take (o + (i + 1)) ++ vs ++ (cs.set (o + i) v).drop (o + (i + 1) + vs.length) = cs.take (o + i) ++ v::vs ++ cs.drop (o + i + (v::vs).length):=by
      have e1 : (cs.set (o + i) v).take (o + (i + 1)) = cs.take (o + i) ++ [v]:=by
        rw [← Nat.add_assoc,List.take_add_one,List.take_set_of_le (by omega),List.getElem?_set]
        simp [show o + i < cs.length by omega]
      have e2 : (cs.set (o + i) v).drop (o + (i + 1) + vs.length) = cs.drop (o + i + (v::vs).length):=by
        rw [List.drop_set_of_lt (by omega),List.length_cons]
        congr 1;omega
      rw [e1,e2];simp
    simp only [storeCells,Sem.run_bind,hst,Result.andThen_ok,ih,hlist]
    rw [hb.setCell,setRow_setRow]
def AggT (P : Program) (ty n : Nat) : Prop:=∃ d,P.underlying ty = some d∧(match d with | .struct _ | .array _ _=>true | _=>false) = true∧(P.info? ty).map (·.size) = some n
section
variable {P : Program} {w : World} {ops : Array Oper} {rest : List Oper} {o : Oper} {a : Act} {Q : Exit→Act→World→Prop} {g t ty n : Nat} {cs vs : List Value}
theorem run_ldAt (hT : AggT P ty n) (b off : Nat) (hl : vs.length = n) (hc : ∀ j u,vs[j]? = some u→w.cell? ⟨b,off + j,none⟩ = some u) :
    (loadVar ty ⟨b,off,none⟩).run P w = .ok (.agg vs.toArray) w:=by
  obtain ⟨d,hu,hd,hi⟩:=hT
  have hl2 : (loadCells ⟨b,off,none⟩ vs.length).run P w = .ok vs.toArray w :=
    run_loadCells_list (P:=P) w ⟨b,off,none⟩ vs (fun j v hv=>by rw [add_lit];exact hc j v hv)
  subst hl
  cases hq : P.info? ty with
  | none=>simp [hq] at hi
  | some i =>
    simp only [hq,Option.map_some,Option.some.injEq] at hi
    rw [← hi] at hl2
    cases d <;> simp at hd <;> simp [loadVar,isAgg,run_underlying hu,sizeOf,typeInfo,hq,hl2]
theorem ldAt (hT : AggT P ty n) (vs : List Value) (hl : vs.length = n) {b off : Nat} (hc : ∀ j u,vs[j]? = some u→w.cell? ⟨b,off + j,none⟩ = some u) (hgd : o.guard = none)
    (x : Operand) (ho : o.op = .load ty x) (hx : a.eval x = .pointer (some ⟨b,off,none⟩)) (h : wpList P ops Q rest (a.put o.dst (.agg vs.toArray)) w) :
    wpList P ops Q (o::rest) a w:=by
  refine wpList_plain hgd fun K hK=>?_
  unfold Oper.wp execOp
  simp only [ho,hx,Instr.loadAt,Instr.sureAddr,Sem.run_bind,Sem.run_pure,Result.andThen_ok,run_ldAt hT b off hl hc]
  exact hK _ _ h
theorem ldAll (hT : AggT P ty n) (hb : Blk w g cs t) (hl : cs.length = n) (hgd : o.guard = none)
    (x : Operand) (ho : o.op = .load ty x) (hx : a.eval x = .pointer (some ⟨g,0,none⟩)) (h : wpList P ops Q rest (a.put o.dst (.agg cs.toArray)) w) :
    wpList P ops Q (o::rest) a w :=
  ldAt hT cs hl (fun j u hu=>by rw [Nat.zero_add];exact hb.cell hu) hgd x ho hx h
theorem run_stAt (hi : (P.info? ty).map (·.size) = some n) (hb : Blk w g cs t) (off : Nat) (hl : vs.length = n) (h1 : ∀ u ∈ vs,u.oneCell' = true) (hfit : off + n ≤ cs.length) :
    (storeVar ty ⟨g,off,none⟩ (.agg vs.toArray)).run P w = .ok () (w.setRow g (cs.take off ++ vs ++ cs.drop (off + n)).toArray):=by
  subst hl
  have hst:=run_storeBlk P g off t vs 0 cs w hb (by omega) h1
  simp only [Nat.add_zero] at hst
  cases hq : P.info? ty with
  | none=>simp [hq] at hi
  | some i =>
    simp only [hq,Option.map_some,Option.some.injEq] at hi
    simp [storeVar,Value.cells,sizeOf,typeInfo,hq,hi,hst]
theorem stAt (hi : (P.info? ty).map (·.size) = some n) (hb : Blk w g cs t) {off : Nat} (vs : List Value) (hl : vs.length = n) (h1 : ∀ u ∈ vs,u.oneCell' = true) (hfit : off + n ≤ cs.length)
    (hgd : o.guard = none) (hdst : o.dst = none) (x y : Operand) (ho : o.op = .store ty x y) (hx : a.eval x = .pointer (some ⟨g,off,none⟩)) (hy : a.eval y = .agg vs.toArray)
    (h : wpList P ops Q rest a (w.setRow g (cs.take off ++ vs ++ cs.drop (off + n)).toArray)) : wpList P ops Q (o::rest) a w:=by
  refine wpList_plain hgd fun K hK=>?_
  unfold Oper.wp execOp
  simp only [ho,hx,hy,Instr.storeAt,Instr.sureAddr,Sem.run_bind,Sem.run_pure,Result.andThen_ok,run_stAt hi hb off hl h1 hfit]
  rw [Oper.upon_skip,hdst];exact hK _ _ h
theorem stAll (hi : (P.info? ty).map (·.size) = some n) (hb : Blk w g cs t) (vs : List Value) (hl : vs.length = n) (h1 : ∀ u ∈ vs,u.oneCell' = true) (hfit : cs.length = n)
    (hgd : o.guard = none) (hdst : o.dst = none) (x y : Operand) (ho : o.op = .store ty x y) (hx : a.eval x = .pointer (some ⟨g,0,none⟩)) (hy : a.eval y = .agg vs.toArray)
    (h : wpList P ops Q rest a (w.setRow g vs.toArray)) : wpList P ops Q (o::rest) a w:=by
  refine stAt hi hb vs hl h1 (by omega) hgd hdst x y ho hx hy ?_
  have : cs.drop (0 + n) = []:=by apply List.drop_of_length_le;omega
  rw [this,List.take_zero,List.nil_append,List.append_nil];exact h
theorem below_row {B : Nat} {w0 : World} (hb : Below B w0 w) (hBg : B ≤ g) (vs : Array Value) : Below B w0 (w.setRow g vs) :=
  hb.trans ⟨rfl,rfl,rfl,by simp [World.setRow],fun k hk=>setRow_other w g k vs (by omega)⟩
theorem res_cell {fn : Func} {p : Tmp} (hr : fn.results = #[.cell p ty]) (hT : AggT P ty n) (hb : Blk w g cs t) (hl : cs.length = n) (tmps : Array Value)
    (hp : tmps.getD p undef = .pointer (some ⟨g,0,none⟩)) : (results fn tmps).run P w = .ok (.agg cs.toArray) w:=by
  have hp' : tmps[p]?.getD undef = .pointer (some ⟨g,0,none⟩):=by simpa using hp
  have hl2:=run_ldAt (w:=w) hT g 0 hl (fun j u hu=>by rw [Nat.zero_add];exact hb.cell hu)
  simp [results,hr,hp',asAddr,hl2]
end
section
variable {P : Program} {w : World} {ops : Array Oper} {rest : List Oper} {a : Act} {Q : Exit→Act→World→Prop} {T ty src dst : TypeId} {p : String} {af : Array Edge} {d : Option Tmp}
theorem g_store (x : Operand) {y : Operand} (h : wpList P ops Q (⟨none,.store ty x y,T,p,af,none⟩::rest) a w) : wpList P ops Q (⟨none,.store ty x y,T,p,af,none⟩::rest) a w:=h
theorem g_load (x : Operand) (h : wpList P ops Q (⟨d,.load ty x,T,p,af,none⟩::rest) a w) : wpList P ops Q (⟨d,.load ty x,T,p,af,none⟩::rest) a w:=h
theorem g_conv (x : Operand) (h : wpList P ops Q (⟨d,.convert src dst x,T,p,af,none⟩::rest) a w) : wpList P ops Q (⟨d,.convert src dst x,T,p,af,none⟩::rest) a w:=h
theorem g_copy (x : Operand) {y : Operand} {ts : Array TypeId} (h : wpList P ops Q (⟨d,.call ⟨.builtin .copy,#[x,y],ts⟩,T,p,af,none⟩::rest) a w) : wpList P ops Q (⟨d,.call ⟨.builtin .copy,#[x,y],ts⟩,T,p,af,none⟩::rest) a w:=h
end
structure Wrote (w w' : World) (g : Nat) : Prop where
  other : ∀ k,k ≠ g→w'.heap[k]? = w.heap[k]?
  size : w'.heap.size = w.heap.size
  below : ∀ {B w0},Below B w0 w→B ≤ g→Below B w0 w'
theorem Wrote.blk {w w' : World} {g k : Nat} {cs : List Value} {t : TypeId} (h : Wrote w w' g) (hb : Blk w k cs t) (hk : k ≠ g) : Blk w' k cs t:=by
  unfold Blk at *;rw [h.other k hk];exact hb
theorem wrote_row (w : World) (g : Nat) (cs : Array Value) : Wrote w (w.setRow g cs) g :=
  ⟨fun k hk=>setRow_other w g k cs hk,by simp [World.setRow],fun h hB=>below_row h hB _⟩
section
variable {P : Program} {w : World} {ops : Array Oper} {rest : List Oper} {o : Oper} {a : Act} {Q : Exit→Act→World→Prop} {g t ty n : Nat} {cs vs : List Value}
theorem stW (hi : (P.info? ty).map (·.size) = some n) (hb : Blk w g cs t) (vs : List Value) (hl : vs.length = n) (h1 : ∀ u ∈ vs,u.oneCell' = true) (hfit : cs.length = n)
    (hgd : o.guard = none) (hdst : o.dst = none) (x y : Operand) (ho : o.op = .store ty x y) (hx : a.eval x = .pointer (some ⟨g,0,none⟩)) (hy : a.eval y = .agg vs.toArray)
    (h : ∀ w',Blk w' g vs t→Wrote w w' g→wpList P ops Q rest a w') : wpList P ops Q (o::rest) a w :=
  stAll hi hb vs hl h1 hfit hgd hdst x y ho hx hy (h _ (hb.row vs (by omega)) (wrote_row w g _))
theorem stAtW (hi : (P.info? ty).map (·.size) = some n) (hb : Blk w g cs t) {off : Nat} (vs : List Value) (hl : vs.length = n) (h1 : ∀ u ∈ vs,u.oneCell' = true) (hfit : off + n ≤ cs.length)
    (hgd : o.guard = none) (hdst : o.dst = none) (x y : Operand) (ho : o.op = .store ty x y) (hx : a.eval x = .pointer (some ⟨g,off,none⟩)) (hy : a.eval y = .agg vs.toArray)
    (h : ∀ w',Blk w' g (cs.take off ++ vs ++ cs.drop (off + n)) t→Wrote w w' g→wpList P ops Q rest a w') : wpList P ops Q (o::rest) a w :=
  stAt hi hb vs hl h1 hfit hgd hdst x y ho hx hy (h _ (hb.row _ (by simp;omega)) (wrote_row w g _))
end
theorem run_copyStr {P : Program} {w : World} {dT sT ty elem g off dLen dCap t : Nat} (hu : P.underlying dT = some (.slice elem)) (hsz : (P.info? elem).map (·.size) = some 1)
    {cs : List Value} (hb : Blk w g cs t) (l : List UInt8) (hfit : off + dLen ≤ cs.length) :
    (Builtin.copy_ #[dT,sT] ty #[.slice (some ⟨g,off,none⟩) dLen dCap,.string ⟨l.toArray⟩]).run P w =
      .ok (goInt (Nat.min l.length dLen)) (w.setRow g (cs.take off ++ (l.take (Nat.min l.length dLen)).map (fun b=>Value.int .u8 b.toNat) ++ cs.drop (off + Nat.min l.length dLen)).toArray):=by
  obtain ⟨n,hn⟩ : ∃ n,n = Nat.min l.length dLen:=⟨_,rfl⟩
  rw [← hn]
  have hn1 : n ≤ l.length:=by rw [hn];exact Nat.min_le_left _ _
  have hn2 : n ≤ dLen:=by rw [hn];exact Nat.min_le_right _ _
  have hlen : ((l.take n).map fun b=>Value.int .u8 (b.toNat : Nat)).length = n:=by rw [List.length_map,List.length_take];omega
  have hst:=run_storeBlk P g off t ((l.take n).map fun b=>Value.int .u8 (b.toNat : Nat)) 0 cs w hb (by rw [hlen];omega) (fun v hv=>by
    obtain ⟨_,_,rfl⟩:=List.mem_map.1 hv;rfl)
  rw [hlen] at hst
  simp only [Nat.add_zero] at hst
  have hext : ((⟨l.toArray⟩ : ByteArray).extract 0 n).data.map (fun b=>Value.int .u8 (b.toNat : Nat)) = ((l.take n).map fun b=>Value.int .u8 (b.toNat : Nat)).toArray:=by
    simp
  cases hq : P.info? elem with
  | none=>simp [hq] at hsz
  | some i =>
    simp only [hq,Option.map_some,Option.some.injEq] at hsz
    have hsz2 : (⟨l.toArray⟩ : ByteArray).size = l.length:=rfl
    have hn' : l.length.min dLen = n:=hn.symm
    simp only [List.map_take] at hst ⊢
    simp [Builtin.copy_,Builtin.lenOf,Builtin.firstCells,run_underlying hu,hsz2,sizeOf,typeInfo,hq,hn',hst]
theorem copyStr {P : Program} {w : World} {ops : Array Oper} {rest : List Oper} {o : Oper} {a : Act} {Q : Exit→Act→World→Prop} {dT sT elem g off dLen dCap t : Nat}
    (hu : P.underlying dT = some (.slice elem)) (hsz : (P.info? elem).map (·.size) = some 1) {cs : List Value} (hb : Blk w g cs t) (l : List UInt8) (hfit : off + dLen ≤ cs.length)
    (hgd : o.guard = none) (d s : Operand) (ho : o.op = .call { callee:=.builtin .copy,args:=#[d,s],argTypes:=#[dT,sT] })
    (hd : a.eval d = .slice (some ⟨g,off,none⟩) dLen dCap) (hs : a.eval s = .string ⟨l.toArray⟩)
    (h : ∀ w',Blk w' g (cs.take off ++ (l.take (Nat.min l.length dLen)).map (fun b=>Value.int .u8 b.toNat) ++ cs.drop (off + Nat.min l.length dLen)) t→Wrote w w' g →
      wpList P ops Q rest (a.put o.dst (goInt (Nat.min l.length dLen))) w') : wpList P ops Q (o::rest) a w:=by
  refine wpList_plain hgd fun K hK=>?_
  have hr:=run_copyStr (P:=P) (sT:=sT) (ty:=o.type) (dCap:=dCap) hu hsz hb l hfit
  unfold Oper.wp execOp
  simp only [ho,resolve,invoke,builtin,Sem.run_bind,Sem.run_pure,Result.andThen_ok,List.map_toArray,List.map_cons,List.map_nil,hd,hs,hr]
  exact hK _ _ (h _ (hb.row _ (by have h1:=Nat.min_le_left l.length dLen;have h2:=Nat.min_le_right l.length dLen;generalize hm : Nat.min l.length dLen = n;rw [show min l.length dLen = n from hm] at h1 h2;simp;omega)) (wrote_row w g _))
end Go.L
namespace Go.V
open Go.RowKit Go.L
inductive Step where
  | fld (k off : Nat)
  | idx (i sz : Nat)
inductive AV where
  | int (k : IntKind) (n : Int)
  | bool (b : Bool)
  | str (l : List UInt8)
  | val (v : Value)
  | emp
  | nul
  | pair (a b : AV)
  | arr (n sz : Nat) (f : Nat→AV)
  | ptr (id : Nat) (p : List Step)
  | sl (id : Nat) (p : List Step) (sz off len : Nat)
  | rsl (fr : Bool) (n sz : Nat) (f : Nat→AV)
  | rptr (fr : Bool) (a : AV)
  | tup (a : AV)
  | fn (f : Fn) (first cap : AV)
  | ifc (t : TypeId) (a : AV)
  | mp (id : Nat)
  | mo (n : Nat) (ks vs : Nat→AV)
  | ob (b : Nat) (o : Obj)
  deriving Inhabited
inductive Md where | C | V | T
def Step.o : Step→Nat
  | .fld _ off=>off
  | .idx i sz=>i * sz
def pathOff : List Step→Nat
  | []=>0
  | s::p=>s.o + pathOff p
theorem pathOff_append (p q : List Step) : pathOff (p ++ q) = pathOff p + pathOff q:=by
  induction p with
  | nil=>simp [pathOff]
  | cons s p ih=>simp [pathOff,ih];omega
structure Ctx where
  w : World
  ρ : Nat→Nat
  A : Nat→Prop
  G : Nat→Prop
  S : Nat→Prop
  B : Nat
def bsize (w : World) (b : Nat) : Nat:=match w.heap[b]? with
  | some (.cells cs _ _)=>cs.size
  | _=>0
theorem bsize_congr {w w' : World} {b : Nat} (e : w'.heap[b]? = w.heap[b]?) : bsize w' b = bsize w b:=by unfold bsize;rw [e]
def CellsAt (w : World) (b o : Nat) (xs : List Value) : Prop:=∀ j u,xs[j]? = some u→w.cell? ⟨b,o + j,none⟩ = some u
def sub (xs : List Value) (o n : Nat) : List Value:=(xs.drop o).take n
def Rep (c : Ctx) : AV→Md→List Value→Prop
  | .int k n,_,vs=>vs = [.int k n]
  | .bool b,_,vs=>vs = [.bool b]
  | .str l,_,vs=>vs = [.string ⟨l.toArray⟩]
  | .val v,m,vs=>vs = [v]∧(match m with | .C=>v.oneCell' = true | _=>True)
  | .emp,_,vs=>∃ a,vs = [.slice a 0 0]
  | .nul,m,vs=>match m with | .V=>vs = [.agg #[]] | _=>vs = []
  | .pair a b,m,vs=>match m with
    | .C=>∃ x y,vs = x ++ y∧Rep c a .C x∧Rep c b .C y
    | .V=>∃ x y,vs = [.agg (x ++ y).toArray]∧Rep c a .C x∧Rep c b .C y
    | .T=>∃ x y,vs = x::y∧Rep c a .V [x]∧Rep c b .T y
  | .arr n sz f,m,vs=>match m with
    | .C=>vs.length = n * sz∧∀ i,i < n→Rep c (f i) .C (sub vs (i * sz) sz)
    | _=>∃ xs,vs = [.agg xs.toArray]∧xs.length = n * sz∧∀ i,i < n→Rep c (f i) .C (sub xs (i * sz) sz)
  | .ptr id p,_,vs=>c.A id∧¬ c.G id∧vs = [.pointer (some ⟨c.ρ id,pathOff p,none⟩)]
  | .sl id p sz off len,_,vs=>c.A id∧((c.G id∧len = 0∧∃ a,vs = [.slice a 0 0]) ∨ (¬ c.G id∧∃ o cap,vs = [.slice (some ⟨c.ρ id,o,none⟩) len cap]∧(cap = 0 ∨ o = pathOff p + off * sz)∧len ≤ cap∧cap ≤ maxLen∧o + cap * sz ≤ bsize c.w (c.ρ id)))
  | .rsl fr n sz f,_,vs=>∃ a cap,vs = [.slice a n cap]∧n ≤ cap∧cap ≤ maxLen ∧
      (n = 0 ∨ ∃ b o xs,a = some ⟨b,o,none⟩∧c.S b∧(fr = true→c.B ≤ b)∧CellsAt c.w b o xs∧xs.length = n * sz∧∀ i,i < n→Rep c (f i) .C (sub xs (i * sz) sz))
  | .rptr fr a,_,vs=>∃ b o xs,vs = [.pointer (some ⟨b,o,none⟩)]∧c.S b∧(fr = true→c.B ≤ b)∧CellsAt c.w b o xs∧Rep c a .C xs
  | .tup a,m,vs=>match m with | .C=>False | _=>∃ xs,vs = [.tuple xs.toArray]∧Rep c a .T xs
  | .fn f x y,_,vs=>∃ fs cs,vs = [.func f fs.toArray cs.toArray]∧Rep c x .T fs∧Rep c y .T cs
  | .ifc t a,_,vs=>∃ v,vs = [.iface t v]∧Rep c a .V [v]
  | .mp id,_,vs=>c.A id∧¬ c.G id∧vs = [.map (some (c.ρ id))]
  | .mo _ _ _,_,_=>False
  | .ob _ _,_,_=>False
def AllFr : AV→Prop
  | .int .. | .bool .. | .str .. | .val .. | .emp | .nul | .ptr .. | .sl ..=>True
  | .pair a b=>AllFr a∧AllFr b
  | .arr n _ f=>∀ i,i < n→AllFr (f i)
  | .rsl fr n _ f=>fr = true∧∀ i,i < n→AllFr (f i)
  | .rptr fr a=>fr = true∧AllFr a
  | .tup a=>AllFr a
  | .fn _ x y=>AllFr x∧AllFr y
  | .ifc _ a=>AllFr a
  | .mp _=>True
  | .mo n ks vs=>∀ i,i < n→AllFr (ks i)∧AllFr (vs i)
  | .ob ..=>True
theorem CellsAt.congr {w w' : World} {b o : Nat} {xs : List Value} (h : CellsAt w b o xs) (e : w'.heap[b]? = w.heap[b]?) : CellsAt w' b o xs:=by
  intro j u hu
  rw [← h j u hu]
  exact World.cell?_of_block (w:=w) (a:=⟨b,o + j,none⟩) e
structure LeF (g : Bool) (c c' : Ctx) : Prop where
  A : ∀ i,c.A i→c'.A i
  ρ : ∀ i,c.A i→c'.ρ i = c.ρ i
  G : ∀ i,c.A i→(c'.G i ↔ c.G i)
  sz : ∀ i,c.A i→¬ c.G i→bsize c.w (c.ρ i) ≤ bsize c'.w (c'.ρ i)
  S : ∀ b,c.S b→(g = true→c.B ≤ b)→c'.S b∧(c.B ≤ b→c'.B ≤ b)∧c'.w.heap[b]? = c.w.heap[b]?
abbrev Le (c c' : Ctx) : Prop:=LeF false c c'
theorem Rep.leF {g : Bool} {c c' : Ctx} (h : LeF g c c') : ∀ (a : AV) (m : Md) (vs : List Value),(g = true→AllFr a)→Rep c a m vs→Rep c' a m vs:=by
  intro a
  induction a with
  | int | bool | str=>intro m vs _ hr;exact hr
  | emp=>intro m vs _ hr;exact hr
  | val v=>intro m vs _ hr;exact hr
  | nul=>intro m vs _ hr;exact hr
  | pair a b iha ihb =>
    intro m vs hg hr
    cases m
    · obtain ⟨x,y,e,h1,h2⟩:=hr
      exact ⟨x,y,e,iha _ _ (fun e=>(hg e).1) h1,ihb _ _ (fun e=>(hg e).2) h2⟩
    · obtain ⟨x,y,e,h1,h2⟩:=hr
      exact ⟨x,y,e,iha _ _ (fun e=>(hg e).1) h1,ihb _ _ (fun e=>(hg e).2) h2⟩
    · obtain ⟨x,y,e,h1,h2⟩:=hr
      exact ⟨x,y,e,iha _ _ (fun e=>(hg e).1) h1,ihb _ _ (fun e=>(hg e).2) h2⟩
  | arr n sz f ih =>
    intro m vs hg hr
    cases m
    · exact ⟨hr.1,fun i hi=>ih i _ _ (fun e=>hg e i hi) (hr.2 i hi)⟩
    · obtain ⟨xs,e,h1,h2⟩:=hr
      exact ⟨xs,e,h1,fun i hi=>ih i _ _ (fun e=>hg e i hi) (h2 i hi)⟩
    · obtain ⟨xs,e,h1,h2⟩:=hr
      exact ⟨xs,e,h1,fun i hi=>ih i _ _ (fun e=>hg e i hi) (h2 i hi)⟩
  | mp id =>
    intro m vs hg hr
    refine ⟨h.A _ hr.1,fun e=>hr.2.1 ((h.G _ hr.1).1 e),?_⟩
    rw [h.ρ _ hr.1];exact hr.2.2
  | mo=>intro m vs _ hr;exact hr.elim
  | ob=>intro m vs _ hr;exact hr.elim
  | ptr id p =>
    intro m vs hg hr
    refine ⟨h.A _ hr.1,fun e=>hr.2.1 ((h.G _ hr.1).1 e),?_⟩
    rw [h.ρ _ hr.1];exact hr.2.2
  | sl id p sz off len =>
    intro m vs hg hr
    obtain ⟨hA,hr⟩:=hr
    refine ⟨h.A _ hA,?_⟩
    rcases hr with ⟨hG,hl,e⟩ | ⟨hG,o,cap,e,h1,h2,h3,h4⟩
    · exact .inl ⟨(h.G _ hA).2 hG,hl,e⟩
    · exact .inr ⟨fun e=>hG ((h.G _ hA).1 e),o,cap,by rw [h.ρ _ hA];exact e,h1,h2,h3,Nat.le_trans h4 (h.sz _ hA hG)⟩
  | rsl fr n sz f ih =>
    intro m vs hg hr
    obtain ⟨a,cap,e,h1,h2,h3⟩:=hr
    refine ⟨a,cap,e,h1,h2,?_⟩
    rcases h3 with h3 | ⟨b,o,xs,e1,hS,hB,hc,hl,hx⟩
    · exact .inl h3
    · obtain ⟨q1,q2,q3⟩:=h.S b hS (fun e=>hB (hg e).1)
      exact .inr ⟨b,o,xs,e1,q1,fun e=>q2 (hB e),hc.congr q3,hl,fun i hi=>ih i _ _ (fun e=>(hg e).2 i hi) (hx i hi)⟩
  | rptr fr a ih =>
    intro m vs hg hr
    obtain ⟨b,o,xs,e,hS,hB,hc,hx⟩:=hr
    obtain ⟨q1,q2,q3⟩:=h.S b hS (fun e=>hB (hg e).1)
    exact ⟨b,o,xs,e,q1,fun e=>q2 (hB e),hc.congr q3,ih _ _ (fun e=>(hg e).2) hx⟩
  | tup a ih =>
    intro m vs hg hr
    cases m
    · exact hr
    · obtain ⟨xs,e,hx⟩:=hr;exact ⟨xs,e,ih _ _ hg hx⟩
    · obtain ⟨xs,e,hx⟩:=hr;exact ⟨xs,e,ih _ _ hg hx⟩
  | fn f x y ihx ihy =>
    intro m vs hg hr
    obtain ⟨fs,cs,e,h1,h2⟩:=hr
    exact ⟨fs,cs,e,ihx _ _ (fun e=>(hg e).1) h1,ihy _ _ (fun e=>(hg e).2) h2⟩
  | ifc t a ih =>
    intro m vs hg hr
    obtain ⟨v,e,h1⟩:=hr
    exact ⟨v,e,ih _ _ hg h1⟩
theorem Rep.le {c c' : Ctx} (h : Le c c') {a : AV} {m : Md} {vs : List Value} (hr : Rep c a m vs) : Rep c' a m vs:=Rep.leF h a m vs (fun e=>by cases e) hr
def AV.size : AV→Nat
  | .nul=>0
  | .pair a b=>a.size + b.size
  | .arr n sz _=>n * sz
  | _=>1
def AV.isAgg : AV→Bool
  | .nul | .pair .. | .arr ..=>true
  | _=>false
theorem Rep.length {c : Ctx} : ∀ {a : AV} {vs : List Value},Rep c a .C vs→vs.length = a.size:=by
  intro a
  induction a with
  | pair a b iha ihb=>intro vs h;obtain ⟨x,y,rfl,h1,h2⟩:=h;simp [AV.size,iha h1,ihb h2]
  | arr n sz f ih=>intro vs h;exact h.1
  | int | bool | str=>intro vs h;rw [show vs = _ from h];rfl
  | val v=>intro vs h;rw [h.1];rfl
  | nul=>intro vs h;rw [show vs = _ from h];rfl
  | emp=>intro vs h;obtain ⟨_,e⟩:=h;rw [e];rfl
  | ptr=>intro vs h;rw [h.2.2];rfl
  | mp=>intro vs h;rw [h.2.2];rfl
  | mo=>intro vs h;exact h.elim
  | ob=>intro vs h;exact h.elim
  | sl=>intro vs h;rcases h with ⟨_,⟨_,_,_,e⟩ | ⟨_,_,_,e,_⟩⟩ <;> (rw [e];rfl)
  | rsl=>intro vs h;obtain ⟨_,_,e,_⟩:=h;rw [e];rfl
  | rptr=>intro vs h;obtain ⟨_,_,_,e,_⟩:=h;rw [e];rfl
  | tup a=>intro vs h;exact h.elim
  | fn=>intro vs h;obtain ⟨_,_,e,_⟩:=h;rw [e];rfl
  | ifc=>intro vs h;obtain ⟨_,e,_⟩:=h;rw [e];rfl
theorem Rep.agg {c : Ctx} {a : AV} {xs : List Value} (ha : a.isAgg = true) : Rep c a .V [.agg xs.toArray] ↔ Rep c a .C xs:=by
  cases a <;> simp [AV.isAgg] at ha
  · constructor
    · intro h;have h : [Value.agg xs.toArray] = [.agg #[]]:=h;simp at h;exact h
    · intro h;have h : xs = []:=h;subst h;rfl
  · constructor
    · rintro ⟨x,y,e,h1,h2⟩;simp at e;exact ⟨x,y,e,h1,h2⟩
    · rintro ⟨x,y,e,h1,h2⟩;exact ⟨x,y,by rw [e],h1,h2⟩
  · constructor
    · rintro ⟨x,e,h⟩;simp at e;subst e;exact h
    · rintro h;exact ⟨xs,rfl,h⟩
theorem Rep.aggV {c : Ctx} {a : AV} {v : Value} (ha : a.isAgg = true) (h : Rep c a .V [v]) : ∃ xs : List Value,v = .agg xs.toArray∧Rep c a .C xs:=by
  cases a <;> simp [AV.isAgg] at ha
  · have h : [v] = [.agg #[]]:=h
    simp at h;exact ⟨[],h,rfl⟩
  · obtain ⟨x,y,e,h1,h2⟩:=h;simp at e;exact ⟨_,e,x,y,rfl,h1,h2⟩
  · obtain ⟨x,e,h⟩:=h;simp at e;exact ⟨_,e,h⟩
theorem Rep.one {c : Ctx} {a : AV} {v : Value} (ha : a.isAgg = false) (h : Rep c a .C [v]) : Rep c a .V [v]:=by
  cases a <;> simp [AV.isAgg] at ha <;> first | exact h | exact h.elim | exact ⟨h.1,trivial⟩
theorem Rep.oneC {c : Ctx} {a : AV} {vs : List Value} (h : Rep c a .C vs) : ∀ v ∈ vs,v.oneCell' = true:=by
  induction a generalizing vs with
  | pair a b iha ihb=>obtain ⟨x,y,rfl,h1,h2⟩:=h;intro v hv;rcases List.mem_append.1 hv with hv | hv;exact iha h1 v hv;exact ihb h2 v hv
  | arr n sz f ih =>
    obtain ⟨hl,h⟩:=h
    intro v hv
    obtain ⟨j,hj,rfl⟩:=List.getElem_of_mem hv
    have hsz : 0 < sz:=by
      rcases Nat.eq_zero_or_pos sz with e | e
      · subst e;omega
      · exact e
    have hi : j / sz < n:=by rw [Nat.div_lt_iff_lt_mul hsz];omega
    refine ih _ (h _ hi) _ ?_
    have hm : (sub vs (j / sz * sz) sz)[j % sz]? = some vs[j]:=by
      unfold sub
      rw [List.getElem?_take_of_lt (Nat.mod_lt _ hsz),List.getElem?_drop,Nat.div_add_mod' j sz]
      exact List.getElem?_eq_getElem hj
    exact List.mem_of_getElem? hm
  | int | bool | str=>rw [show vs = _ from h];intro v hv;rw [List.mem_singleton.1 hv];rfl
  | val v=>rw [h.1];intro u hu;rw [List.mem_singleton.1 hu];exact h.2
  | nul=>rw [show vs = [] from h];intro v hv;cases hv
  | emp=>obtain ⟨_,e⟩:=h;rw [e];intro v hv;rw [List.mem_singleton.1 hv];rfl
  | ptr=>rw [h.2.2];intro v hv;rw [List.mem_singleton.1 hv];rfl
  | mp=>rw [h.2.2];intro v hv;rw [List.mem_singleton.1 hv];rfl
  | mo=>exact h.elim
  | ob=>exact h.elim
  | sl=>rcases h with ⟨_,⟨_,_,_,e⟩ | ⟨_,_,_,e,_⟩⟩ <;> (rw [e];intro v hv;rw [List.mem_singleton.1 hv];rfl)
  | rsl=>obtain ⟨_,_,e,_⟩:=h;rw [e];intro v hv;rw [List.mem_singleton.1 hv];rfl
  | rptr=>obtain ⟨_,_,_,e,_⟩:=h;rw [e];intro v hv;rw [List.mem_singleton.1 hv];rfl
  | tup a=>exact h.elim
  | fn=>obtain ⟨_,_,e,_⟩:=h;rw [e];intro v hv;rw [List.mem_singleton.1 hv];rfl
  | ifc=>obtain ⟨_,e,_⟩:=h;rw [e];intro v hv;rw [List.mem_singleton.1 hv];rfl
def getf : AV→Nat→Option AV
  | .pair a _,0=>some a
  | .pair _ b,k + 1=>getf b k
  | _,_=>none
def offf : AV→Nat→Nat
  | .pair _ _,0=>0
  | .pair a b,k + 1=>a.size + offf b k
  | _,_=>0
def getp : AV→List Step→Option AV
  | a,[]=>some a
  | a,.fld k off::p=>match getf a k with
    | some u=>bif Nat.beq (offf a k) off then getp u p else none
    | none=>none
  | .arr _ sz f,.idx i s::p=>bif Nat.beq sz s then getp (f i) p else none
  | _,.idx _ _::_=>none
def inb : AV→List Step→Prop
  | _,[]=>True
  | a,.fld k _::p=>match getf a k with
    | some u=>inb u p
    | none=>False
  | .arr n _ f,.idx i _::p=>match p with
    | []=>i < n
    | p=>i < n∧inb (f i) p
  | _,.idx _ _::_=>False
def setf : AV→Nat→AV→AV
  | .pair _ b,0,u=>.pair u b
  | .pair a b,k + 1,u=>.pair a (setf b k u)
  | a,_,_=>a
def setp : AV→List Step→AV→AV
  | _,[],u=>u
  | a,.fld k _::p,u=>match getf a k with
    | some x=>setf a k (setp x p u)
    | none=>a
  | .arr n sz f,.idx i _::p,u=>.arr n sz (fun j=>bif Nat.beq j i then setp (f i) p u else f j)
  | a,_,_=>a
theorem sub_sub (xs : List Value) (o n o' n' : Nat) (h : o' + n' ≤ n) : sub (sub xs o n) o' n' = sub xs (o + o') n':=by
  unfold sub
  rw [List.drop_take,List.take_take,List.drop_drop,Nat.min_eq_left (by omega)]
theorem sub_len {xs : List Value} {o n : Nat} (h : o + n ≤ xs.length) : (sub xs o n).length = n:=by
  unfold sub;rw [List.length_take,List.length_drop];omega
theorem sub_all (xs : List Value) : sub xs 0 xs.length = xs:=by unfold sub;simp
theorem sub_append_left (x y : List Value) (o n : Nat) (h : o + n ≤ x.length) : sub (x ++ y) o n = sub x o n:=by
  unfold sub
  rw [List.drop_append_of_le_length (by omega),List.take_append_of_le_length (by rw [List.length_drop];omega)]
theorem sub_append_right (x y : List Value) (o n : Nat) : sub (x ++ y) (x.length + o) n = sub y o n:=by
  unfold sub
  rw [List.drop_append,List.drop_of_length_le (by omega),List.nil_append]
  congr 2;omega
theorem Rep.field {c : Ctx} : ∀ {a : AV} {k : Nat} {u : AV} {vs : List Value},Rep c a .C vs→getf a k = some u→Rep c u .C (sub vs (offf a k) u.size)∧offf a k + u.size ≤ vs.length:=by
  intro a
  induction a with
  | pair a b _ ihb =>
    intro k u vs h hk
    obtain ⟨x,y,rfl,h1,h2⟩:=h
    cases k with
    | zero =>
      simp only [getf,Option.some.injEq] at hk
      subst hk
      have hl:=h1.length
      simp only [offf]
      rw [sub_append_left _ _ _ _ (by omega),← hl,sub_all]
      exact ⟨h1,by simp⟩
    | succ k =>
      obtain ⟨q1,q2⟩:=ihb h2 (by simpa [getf] using hk)
      have hl:=h1.length
      simp only [offf]
      rw [← hl,sub_append_right]
      exact ⟨q1,by simp;omega⟩
  | int | bool | str | val | emp | nul | arr | ptr | sl | rsl | rptr | tup | fn | ifc | mp | mo | ob=>intro k u vs h hk;cases k <;> simp [getf] at hk
theorem Rep.path {c : Ctx} : ∀ {p : List Step} {a u : AV} {vs : List Value},Rep c a .C vs→getp a p = some u→inb a p →
    Rep c u .C (sub vs (pathOff p) u.size)∧pathOff p + u.size ≤ vs.length:=by
  intro p
  induction p with
  | nil =>
    intro a u vs h hp _
    simp only [getp,Option.some.injEq] at hp
    subst hp
    have hl:=h.length
    simp only [pathOff]
    rw [← hl,sub_all];exact ⟨h,by omega⟩
  | cons s p ih =>
    intro a u vs h hp hin
    cases s with
    | fld k off =>
      unfold getp at hp
      unfold inb at hin
      cases hk : getf a k with
      | none=>simp [hk] at hp
      | some x =>
        simp only [hk] at hp hin
        cases hb : Nat.beq (offf a k) off with
        | false=>simp [hb] at hp
        | true =>
          have he : offf a k = off:=Nat.eq_of_beq_eq_true hb
          simp only [hb,cond_true] at hp
          obtain ⟨q1,q2⟩:=h.field hk
          obtain ⟨r1,r2⟩:=ih q1 hp hin
          rw [sub_len (by omega)] at r2
          rw [sub_sub _ _ _ _ _ r2,he] at r1
          rw [he] at q2
          exact ⟨by simpa [pathOff,Step.o] using r1,by simp [pathOff,Step.o];omega⟩
    | idx i s =>
      cases a <;> first | (simp [getp] at hp;done) | skip
      rename_i n sz f
      unfold getp at hp
      cases hb : Nat.beq sz s with
      | false=>simp [hb] at hp
      | true =>
        have he : sz = s:=Nat.eq_of_beq_eq_true hb
        subst he
        simp only [hb,cond_true] at hp
        have hi : i < n∧inb (f i) p:=by
          cases p with
          | nil=>exact ⟨hin,trivial⟩
          | cons=>exact hin
        obtain ⟨hl,hx⟩:=h
        have hle : i * sz + sz ≤ n * sz:=by
          have:=Nat.mul_le_mul_right sz (show i + 1 ≤ n from hi.1)
          rwa [Nat.add_mul,Nat.one_mul] at this
        obtain ⟨r1,r2⟩:=ih (hx i hi.1) hp hi.2
        rw [sub_len (by omega)] at r2
        rw [sub_sub _ _ _ _ _ r2] at r1
        exact ⟨by simpa [pathOff,Step.o] using r1,by simp [pathOff,Step.o];omega⟩
def ovr (xs : List Value) (o : Nat) (zs : List Value) : List Value:=xs.take o ++ zs ++ xs.drop (o + zs.length)
theorem ovr_len {xs zs : List Value} {o : Nat} (h : o + zs.length ≤ xs.length) : (ovr xs o zs).length = xs.length:=by
  unfold ovr;simp only [List.length_append,List.length_take,List.length_drop];omega
theorem ovr_get (xs zs : List Value) (o j : Nat) (h : o + zs.length ≤ xs.length) : (ovr xs o zs)[j]? = if j < o then xs[j]? else if j < o + zs.length then zs[j - o]? else xs[j]?:=by
  unfold ovr
  by_cases h1 : j < o
  · rw [if_pos h1,List.append_assoc,List.getElem?_append_left (by rw [List.length_take];omega),List.getElem?_take_of_lt h1]
  · rw [if_neg h1]
    by_cases h2 : j < o + zs.length
    · rw [if_pos h2,List.append_assoc,List.getElem?_append_right (by rw [List.length_take];omega),List.getElem?_append_left (by rw [List.length_take];omega),List.length_take,Nat.min_eq_left (by omega)]
    · rw [if_neg h2,List.getElem?_append_right (by simp only [List.length_append,List.length_take];omega),List.getElem?_drop]
      simp only [List.length_append,List.length_take]
      congr 1;omega
theorem sub_get (xs : List Value) (o n j : Nat) : (sub xs o n)[j]? = if j < n then xs[o + j]? else none:=by
  unfold sub
  by_cases h : j < n
  · rw [if_pos h,List.getElem?_take_of_lt h,List.getElem?_drop]
  · rw [if_neg h];apply List.getElem?_eq_none;rw [List.length_take];omega
theorem sub_ovr_in (xs zs : List Value) (o o' n : Nat) (h : o + zs.length ≤ xs.length) (h1 : o' ≤ o) (h2 : o + zs.length ≤ o' + n) (h3 : o' + n ≤ xs.length) :
    sub (ovr xs o zs) o' n = ovr (sub xs o' n) (o - o') zs:=by
  apply List.ext_getElem?
  intro j
  have hl:=sub_len h3
  rw [sub_get,ovr_get _ _ _ _ h,ovr_get _ _ _ _ (by omega)]
  simp only [sub_get]
  repeat' split
  all_goals first | rfl | (exfalso;omega) | (congr 1;omega)
theorem ovr_ovr (vs zs : List Value) (o n p : Nat) (h : o + n ≤ vs.length) (hp : p + zs.length ≤ n) : ovr vs o (ovr (sub vs o n) p zs) = ovr vs (o + p) zs:=by
  have hs:=sub_len h
  have hlen : (ovr (sub vs o n) p zs).length = n:=by rw [ovr_len (by omega),hs]
  apply List.ext_getElem?
  intro j
  rw [ovr_get _ _ _ _ (by omega),ovr_get _ _ _ _ (by omega),hlen,ovr_get _ _ _ _ (by omega)]
  simp only [sub_get]
  repeat' split
  all_goals first | rfl | (exfalso;omega) | (congr 1;omega)
theorem sub_ovr_out (xs zs : List Value) (o o' n : Nat) (h : o + zs.length ≤ xs.length) (h1 : o' + n ≤ o ∨ o + zs.length ≤ o') :
    sub (ovr xs o zs) o' n = sub xs o' n:=by
  apply List.ext_getElem?
  intro j
  rw [sub_get,sub_get,ovr_get _ _ _ _ h]
  by_cases hj : j < n
  · simp only [if_pos hj]
    by_cases a : o' + j < o
    · rw [if_pos a]
    · rw [if_neg a,if_neg (by omega)]
  · simp only [if_neg hj]
theorem ovr_append_left (x y zs : List Value) (o : Nat) (h : o + zs.length ≤ x.length) : ovr (x ++ y) o zs = ovr x o zs ++ y:=by
  unfold ovr
  rw [List.take_append_of_le_length (by omega),List.drop_append_of_le_length (by omega)]
  simp only [List.append_assoc]
theorem ovr_append_right (x y zs : List Value) (o : Nat) : ovr (x ++ y) (x.length + o) zs = x ++ ovr y o zs:=by
  unfold ovr
  rw [List.take_append,List.take_of_length_le (by omega),Nat.add_sub_cancel_left,Nat.add_assoc,List.drop_append,List.drop_of_length_le (by omega),Nat.add_sub_cancel_left,List.nil_append]
  simp only [List.append_assoc]
theorem ovr_all {xs zs : List Value} (h : zs.length = xs.length) : ovr xs 0 zs = zs:=by
  unfold ovr;rw [List.take_zero,List.nil_append,Nat.zero_add,h,List.drop_length,List.append_nil]
theorem Rep.setf {c c' : Ctx} (hle : Le c c') : ∀ {a : AV} {k : Nat} {u u' : AV} {vs zs : List Value},Rep c a .C vs→getf a k = some u→Rep c' u' .C zs→zs.length = u.size →
    Rep c' (setf a k u') .C (ovr vs (offf a k) zs):=by
  intro a
  induction a with
  | pair a b _ ihb =>
    intro k u u' vs zs h hk hz hl
    obtain ⟨x,y,rfl,h1,h2⟩:=h
    have hx:=h1.length
    cases k with
    | zero =>
      simp only [getf,Option.some.injEq] at hk
      subst hk
      simp only [offf,V.setf]
      refine ⟨zs,y,?_,hz,h2.le hle⟩
      rw [ovr_append_left _ _ _ _ (by omega),ovr_all (by omega)]
    | succ k =>
      simp only [offf,V.setf]
      refine ⟨x,ovr y (offf b k) zs,?_,h1.le hle,ihb h2 (by simpa [getf] using hk) hz hl⟩
      rw [← hx,ovr_append_right]
  | int | bool | str | val | emp | nul | arr | ptr | sl | rsl | rptr | tup | fn | ifc | mp | mo | ob=>intro k u u' vs zs h hk;cases k <;> simp [getf] at hk
theorem Rep.setp {c c' : Ctx} (hle : Le c c') : ∀ {p : List Step} {a u u' : AV} {vs zs : List Value},Rep c a .C vs→getp a p = some u→inb a p→Rep c' u' .C zs→zs.length = u.size →
    Rep c' (setp a p u') .C (ovr vs (pathOff p) zs):=by
  intro p
  induction p with
  | nil =>
    intro a u u' vs zs h hp _ hz hl
    simp only [getp,Option.some.injEq] at hp
    subst hp
    have:=h.length
    simp only [pathOff,V.setp]
    rw [ovr_all (by omega)];exact hz
  | cons s p ih =>
    intro a u u' vs zs h hp hin hz hl
    cases s with
    | fld k off =>
      unfold getp at hp
      unfold inb at hin
      cases hk : getf a k with
      | none=>simp [hk] at hp
      | some x =>
        simp only [hk] at hp hin
        cases hb : Nat.beq (offf a k) off with
        | false=>simp [hb] at hp
        | true =>
          have he : offf a k = off:=Nat.eq_of_beq_eq_true hb
          simp only [hb,cond_true] at hp
          obtain ⟨q1,q2⟩:=h.field hk
          obtain ⟨r1,r2⟩:=q1.path hp hin
          rw [sub_len (by omega)] at r2
          have hs:=ih q1 hp hin hz hl
          have:=Rep.setf hle h hk hs (by rw [ovr_len (by rw [sub_len (by omega)];omega),sub_len (by omega)])
          simp only [V.setp,hk,pathOff,Step.o,← he]
          have e:=ovr_ovr vs zs (offf a k) x.size (pathOff p) (by omega) (by omega)
          rw [e] at this
          exact this
    | idx i s =>
      cases a <;> first | (simp [getp] at hp;done) | skip
      rename_i n sz f
      unfold getp at hp
      cases hb : Nat.beq sz s with
      | false=>simp [hb] at hp
      | true =>
        have he : sz = s:=Nat.eq_of_beq_eq_true hb
        subst he
        simp only [hb,cond_true] at hp
        have hi : i < n∧inb (f i) p:=by
          cases p with
          | nil=>exact ⟨hin,trivial⟩
          | cons=>exact hin
        obtain ⟨hlv,hx⟩:=h
        have hle' : ∀ j,j < n→j * sz + sz ≤ n * sz:=fun j hj=>by
          have:=Nat.mul_le_mul_right sz (show j + 1 ≤ n from hj)
          rwa [Nat.add_mul,Nat.one_mul] at this
        have hii:=hle' i hi.1
        obtain ⟨r1,r2⟩:=(hx i hi.1).path hp hi.2
        rw [sub_len (by omega)] at r2
        have hs:=ih (hx i hi.1) hp hi.2 hz hl
        simp only [V.setp,pathOff,Step.o]
        refine ⟨by rw [ovr_len (by omega)];exact hlv,fun j hj=>?_⟩
        have hjj:=hle' j hj
        by_cases hij : j = i
        · subst hij
          simp only [Nat.beq_refl,cond_true]
          rw [sub_ovr_in _ _ _ _ _ (by omega) (by omega) (by omega) (by omega),Nat.add_sub_cancel_left]
          exact hs
        · have hbe : Nat.beq j i = false:=by
            cases hh : Nat.beq j i
            · rfl
            · exact absurd (Nat.eq_of_beq_eq_true hh) hij
          simp only [hbe,cond_false]
          rw [sub_ovr_out _ _ _ _ _ (by omega) (by
            rcases Nat.lt_or_gt_of_ne hij with hlt | hgt
            · left
              have:=Nat.mul_le_mul_right sz (show j + 1 ≤ i from hlt)
              rw [Nat.add_mul,Nat.one_mul] at this;omega
            · right
              have:=Nat.mul_le_mul_right sz (show i + 1 ≤ j from hgt)
              rw [Nat.add_mul,Nat.one_mul] at this;omega)]
          exact (hx j hj).le hle
end Go.V
namespace Go.V
open Go.RowKit Go.L
abbrev Asc:=List (Nat × AV)
def get? : Asc→Nat→Option AV
  | [],_=>none
  | (k,v)::r,t=>bif Nat.beq k t then some v else get? r t
def del : Asc→Nat→Asc
  | [],_=>[]
  | (k,v)::r,t=>bif Nat.beq k t then del r t else (k,v)::del r t
def put (h : Asc) (k : Nat) (v : AV) : Asc:=(k,v)::del h k
theorem beq_ne {a b : Nat} (h : a ≠ b) : Nat.beq a b = false:=by
  cases hh : Nat.beq a b
  · rfl
  · exact absurd (Nat.eq_of_beq_eq_true hh) h
theorem get?_cons (k t : Nat) (v : AV) (r : Asc) : get? ((k,v)::r) t = if k = t then some v else get? r t:=by
  rw [get?]
  by_cases h : k = t
  · subst h;simp
  · simp [beq_ne h,h]
theorem get?_del (h : Asc) (k t : Nat) : get? (del h k) t = if k = t then none else get? h t:=by
  induction h with
  | nil=>simp [del,get?]
  | cons p r ih =>
    obtain ⟨q,v⟩:=p
    unfold del
    by_cases e : q = k
    · subst e
      simp only [Nat.beq_refl,cond_true,ih,get?_cons]
      by_cases e2 : q = t <;> simp [e2]
    · simp only [beq_ne e,cond_false,get?_cons,ih]
      by_cases e2 : k = t
      · subst e2;simp [e]
      · simp [e2]
theorem get?_put (h : Asc) (k t : Nat) (v : AV) : get? (put h k v) t = if k = t then some v else get? h t:=by
  unfold put
  rw [get?_cons,get?_del]
  by_cases e : k = t <;> simp [e]
structure St where
  e : Asc
  h : Asc
  g : Asc
  N : Nat
def ofVal : Value→AV
  | .int k n=>.int k n
  | .bool b=>.bool b
  | .string s=>.str s.data.toList
  | v=>.val v
theorem rep_ofVal (c : Ctx) (v : Value) : Rep c (ofVal v) .V [v]:=by
  cases v <;> first | rfl | exact ⟨rfl,trivial⟩
def ev (g e : Asc) : Operand→Option AV
  | .tmp t=>get? e t
  | .const v=>some (ofVal v)
  | .func f=>some (.fn (.func f) .nul .nul)
  | .global x=>match get? g x with
    | some v=>some (.rptr false v)
    | none=>none
def MapAt (c : Ctx) (b n : Nat) (ks vs : Nat→AV) : Prop:=∃ (es : Array MapEntry) (clock : Nat),c.w.heap[b]? = some (.map es clock)∧es.size = n∧(∀ i (h : i < es.size),Rep c (ks i) .V [es[i].key]∧Rep c (vs i) .V [es[i].val])∧(∀ i (h : i < es.size),es[i].born < clock)∧∀ i j (hi : i < es.size) (hj : j < es.size),es[i].born = es[j].born→i = j
def CellsOf (c : Ctx) (b : Nat) (av : AV) : Prop:=∃ cs t xs ys,Blk c.w b cs t∧cs = xs ++ ys∧Rep c av .C xs
def ObjAt (c : Ctx) (b : Nat) (av : AV) : Prop:=CellsOf c b av ∨ (∃ n ks vs,av = .mo n ks vs∧MapAt c b n ks vs) ∨ ∃ o,av = .ob b o∧c.w.heap[b]? = some o
def AV.isMo : AV→Bool
  | .mo ..=>true
  | .ob ..=>true
  | _=>false
theorem ObjAt.to {c c' : Ctx} {b : Nat} {u av : AV} (h : ObjAt c b u) (hw : c'.w.heap[b]? = c.w.heap[b]?) (hC : ∀ xs,Rep c u .C xs→Rep c' av .C xs) (hM : ∀ n k v,u = .mo n k v→∃ ks vs,av = .mo n ks vs∧∀ i,i < n→(∀ x,Rep c (k i) .V [x]→Rep c' (ks i) .V [x])∧∀ x,Rep c (v i) .V [x]→Rep c' (vs i) .V [x]) (hO : ∀ b' o,u = .ob b' o→av = .ob b' o) : ObjAt c' b av:=by
  rcases h with ⟨cs,t,xs,ys,hb,hc,hr⟩ | ⟨n,k,v,rfl,es,clock,hb,hn,hes,hbn⟩ | ⟨o,rfl,hb⟩
  · refine .inl ⟨cs,t,xs,ys,?_,hc,hC _ hr⟩
    unfold Blk at *;rw [hw];exact hb
  · obtain ⟨ks,vs,e,hm⟩:=hM n k v rfl
    exact .inr (.inl ⟨n,ks,vs,e,es,clock,by rw [hw];exact hb,hn,fun i hi=>⟨(hm i (hn ▸ hi)).1 _ (hes i hi).1,(hm i (hn ▸ hi)).2 _ (hes i hi).2⟩,hbn⟩)
  · exact .inr (.inr ⟨o,hO _ _ rfl,by rw [hw];exact hb⟩)
theorem ObjAt.cells {c : Ctx} {b : Nat} {av : AV} (h : ObjAt c b av) (hm : av.isMo = false) : CellsOf c b av:=by
  rcases h with h | ⟨n,ks,vs,rfl,_⟩ | ⟨o,rfl,_⟩
  · exact h
  · cases hm
  · cases hm
structure HeapRep (c : Ctx) (h : Asc) : Prop where
  A : ∀ id av,get? h id = some av→c.A id
  obj : ∀ id av,get? h id = some av→¬ c.G id→ObjAt c (c.ρ id) av
  gh : ∀ id av,get? h id = some av→c.G id→av.size = 0
  nS : ∀ id av,get? h id = some av→¬ c.G id→¬ c.S (c.ρ id)
  inj : ∀ i j a b,get? h i = some a→get? h j = some b→¬ c.G i→¬ c.G j→c.ρ i = c.ρ j→i = j
structure CtxOk (c : Ctx) : Prop where
  S : ∀ b,c.S b→b < c.w.heap.size
  B : c.B ≤ c.w.heap.size
structure EnvRep (c : Ctx) (g e : Asc) (a : Act) : Prop where
  slot : ∀ t v,get? e t = some v→t < a.tmps.size∧Rep c v .V [a.tmps.getD t undef]
  glob : ∀ x v,get? g x = some v→Rep c (.rptr false v) .V [.pointer (some ⟨x,0,none⟩)]
theorem ev_rep {c : Ctx} {g e : Asc} {a : Act} (h : EnvRep c g e a) {x : Operand} {v : AV} (hx : ev g e x = some v) : Rep c v .V [a.eval x]:=by
  cases x with
  | tmp t=>exact (h.slot t v hx).2
  | const u=>simp only [ev,Option.some.injEq] at hx;subst hx;exact rep_ofVal c u
  | func f=>simp only [ev,Option.some.injEq] at hx;subst hx;exact ⟨[],[],rfl,rfl,rfl⟩
  | global x =>
    simp only [ev] at hx
    cases hg : get? g x with
    | none=>simp [hg] at hx
    | some u=>simp only [hg,Option.some.injEq] at hx;subst hx;exact h.glob x u hg
theorem Le.refl (c : Ctx) : Le c c:=⟨fun _ h=>h,fun _ _=>rfl,fun _ _=>Iff.rfl,fun _ _ _=>Nat.le_refl _,fun _ h _=>⟨h,fun h=>h,rfl⟩⟩
theorem Le.trans {a b c : Ctx} (h : Le a b) (k : Le b c) : Le a c :=
  ⟨fun i hi=>k.A i (h.A i hi),fun i hi=>(k.ρ i (h.A i hi)).trans (h.ρ i hi),fun i hi=>(k.G i (h.A i hi)).trans (h.G i hi),fun i hi hg=>Nat.le_trans (h.sz i hi hg) (k.sz i (h.A i hi) (fun e=>hg ((h.G i hi).1 e))),fun b hb _=>by
    obtain ⟨p1,p2,p3⟩:=h.S b hb (fun e=>by cases e)
    obtain ⟨q1,q2,q3⟩:=k.S b p1 (fun e=>by cases e)
    exact ⟨q1,fun e=>q2 (p2 e),q3.trans p3⟩⟩
theorem EnvRep.le {c c' : Ctx} (hle : Le c c') {g e : Asc} {a : Act} (h : EnvRep c g e a) : EnvRep c' g e a :=
  ⟨fun t v ht=>⟨(h.slot t v ht).1,(h.slot t v ht).2.le hle⟩,fun x v hx=>(h.glob x v hx).le hle⟩
theorem EnvRep.put {c : Ctx} {g e : Asc} {a : Act} (h : EnvRep c g e a) {d : Tmp} {v : Value} {x : AV} (hr : Rep c x .V [v]) (hd : d < a.tmps.size) : EnvRep c g (put e d x) (a.put (some d) v):=by
  refine ⟨fun t u ht=>?_,h.glob⟩
  rw [get?_put] at ht
  by_cases e : d = t
  · subst e
    simp only [if_true,Option.some.injEq] at ht
    subst ht
    refine ⟨by simpa [Act.put] using hd,?_⟩
    have : (a.put (some d) v).tmps.getD d undef = v:=by simp [Act.put,hd]
    rw [this];exact hr
  · rw [if_neg e] at ht
    obtain ⟨h1,h2⟩:=h.slot t u ht
    refine ⟨by simpa [Act.put] using h1,?_⟩
    have : (a.put (some d) v).tmps.getD t undef = a.tmps.getD t undef:=by simp [Act.put,Array.getElem?_setIfInBounds,e]
    rw [this];exact h2
theorem EnvRep.del {c : Ctx} {g e : Asc} {a : Act} (h : EnvRep c g e a) (d : Tmp) (v : Value) : EnvRep c g (del e d) (a.put (some d) v):=by
  refine ⟨fun t u ht=>?_,h.glob⟩
  rw [get?_del] at ht
  by_cases e : d = t
  · rw [if_pos e] at ht;cases ht
  · rw [if_neg e] at ht
    obtain ⟨h1,h2⟩:=h.slot t u ht
    refine ⟨by simpa [Act.put] using h1,?_⟩
    have : (a.put (some d) v).tmps.getD t undef = a.tmps.getD t undef:=by simp [Act.put,Array.getElem?_setIfInBounds,e]
    rw [this];exact h2
def putd (e : Asc) : Option Tmp→Option AV→Asc
  | none,_=>e
  | some d,some v=>(d,v)::e
  | some d,none=>del e d
theorem EnvRep.cons {c : Ctx} {g e : Asc} {a : Act} (h : EnvRep c g e a) {d : Tmp} {v : Value} {x : AV} (hr : Rep c x .V [v]) (hd : d < a.tmps.size) : EnvRep c g ((d,x)::e) (a.put (some d) v):=by
  have h1:=h.put (d:=d) hr hd
  refine ⟨fun t u ht=>h1.slot t u ?_,h.glob⟩
  rw [get?_put];rwa [get?_cons] at ht
theorem EnvRep.putd {c : Ctx} {g e : Asc} {a : Act} (h : EnvRep c g e a) {d : Option Tmp} {v : Value} {x : Option AV} (hr : ∀ y,x = some y→Rep c y .V [v]) (hd : ∀ k,d = some k→k < a.tmps.size) :
    EnvRep c g (putd e d x) (a.put d v):=by
  cases d with
  | none=>exact h
  | some d=>cases x with
    | none=>exact h.del d v
    | some x=>exact h.cons (hr x rfl) (hd d rfl)
structure Out (c : Ctx) (h h' : Asc) (ns : List Nat) (c' : Ctx) : Prop where
  le : Le c c'
  B : c'.B = c.B
  A : ∀ i,c'.A i→c.A i ∨ i ∈ ns
  heap : HeapRep c' h'
  ok : CtxOk c'
  os : c'.w.os = c.w.os
  tape : c'.w.tape = c.w.tape
  output : c'.w.output = c.w.output
  size : c.w.heap.size ≤ c'.w.heap.size
  frame : ∀ b,b < c.w.heap.size→(∀ id av,get? h id = some av→¬ c.G id→c.ρ id ≠ b)→c'.w.heap[b]? = c.w.heap[b]?
  own : ∀ id av,get? h' id = some av→¬ c'.G id→(∃ j av,get? h j = some av∧¬ c.G j∧c.ρ j = c'.ρ id) ∨ c.w.heap.size ≤ c'.ρ id
  newS : ∀ b,c'.S b→c.S b ∨ c.w.heap.size ≤ b ∨ ∃ j av,get? h j = some av∧¬ c.G j∧c.ρ j = b
theorem Out.refl {c : Ctx} {h : Asc} (hh : HeapRep c h) (ho : CtxOk c) : Out c h h [] c :=
  ⟨.refl c,rfl,fun _ h=>.inl h,hh,ho,rfl,rfl,rfl,Nat.le_refl _,fun _ _ _=>rfl,fun id av h hg=>.inl ⟨id,av,h,hg,rfl⟩,fun _ h=>.inl h⟩
theorem ObjAt.lt {c : Ctx} {b : Nat} {av : AV} (h : ObjAt c b av) : b < c.w.heap.size:=by
  rcases h with ⟨cs,t,xs,ys,hb,_⟩ | ⟨n,ks,vs,_,es,clock,hb,_⟩ | ⟨o,_,hb⟩
  · exact hb.lt
  · exact (Array.getElem?_eq_some_iff.1 hb).1
  · exact (Array.getElem?_eq_some_iff.1 hb).1
theorem ObjAt.le {c c' : Ctx} (hle : Le c c') {b : Nat} {av : AV} (h : ObjAt c b av) (e : c'.w.heap[b]? = c.w.heap[b]?) : ObjAt c' b av:=by
  rcases h with ⟨cs,t,xs,ys,hb,hc,hr⟩ | ⟨n,ks,vs,rfl,es,clock,hb,hn,hes,hbn⟩ | ⟨o,rfl,hb⟩
  · refine .inl ⟨cs,t,xs,ys,?_,hc,hr.le hle⟩
    unfold Blk at *;rw [e];exact hb
  · exact .inr (.inl ⟨n,ks,vs,rfl,es,clock,by rw [e];exact hb,hn,fun i hi=>⟨(hes i hi).1.le hle,(hes i hi).2.le hle⟩,hbn⟩)
  · exact .inr (.inr ⟨o,rfl,by rw [e];exact hb⟩)
theorem Out.trans {a b c : Ctx} {h h' h'' : Asc} {ns ms : List Nat} (p : Out a h h' ns b) (q : Out b h' h'' ms c) : Out a h h'' (ns ++ ms) c:=by
  refine ⟨p.le.trans q.le,q.B.trans p.B,fun i hi=>?_,q.heap,q.ok,q.os.trans p.os,q.tape.trans p.tape,q.output.trans p.output,Nat.le_trans p.size q.size,fun x hx hn=>?_,fun id av hi hg=>?_,fun x hx=>?_⟩
  · rcases q.A i hi with h1 | h1
    · rcases p.A i h1 with h2 | h2
      · exact .inl h2
      · exact .inr (List.mem_append_left _ h2)
    · exact .inr (List.mem_append_right _ h1)
  · rw [q.frame x (Nat.lt_of_lt_of_le hx p.size) (fun id av hi hg e=>?_),p.frame x hx hn]
    rcases p.own id av hi hg with ⟨j,av',hj,hgj,e'⟩ | h1
    · exact hn j av' hj hgj (by rw [e',e])
    · omega
  · rcases q.own id av hi hg with ⟨j,av',hj,hgj,e⟩ | h1
    · rcases p.own j av' hj hgj with ⟨k,av'',hk,hgk,e'⟩ | h2
      · exact .inl ⟨k,av'',hk,hgk,by rw [e',e]⟩
      · exact .inr (by rw [← e];exact h2)
    · exact .inr (Nat.le_trans p.size h1)
  · rcases q.newS x hx with h1 | h1 | ⟨j,av,hj,hgj,e⟩
    · exact p.newS x h1
    · exact .inr (.inl (Nat.le_trans p.size h1))
    · rcases p.own j av hj hgj with ⟨k,av',hk,hgk,e'⟩ | h2
      · exact .inr (.inr ⟨k,av',hk,hgk,by rw [e',e]⟩)
      · exact .inr (.inl (by rw [← e];exact h2))
structure Split (H h k : Asc) : Prop where
  get : ∀ id,get? H id = (get? h id).or (get? k id)
  apart : ∀ id av,get? k id = some av→get? h id = none
theorem Split.l {H h k : Asc} (s : Split H h k) {id : Nat} {av : AV} (hi : get? h id = some av) : get? H id = some av:=by rw [s.get,hi];rfl
theorem Split.r {H h k : Asc} (s : Split H h k) {id : Nat} {av : AV} (hi : get? k id = some av) : get? H id = some av:=by rw [s.get,s.apart id av hi,hi];rfl
theorem HeapRep.left {c : Ctx} {H h k : Asc} (s : Split H h k) (hh : HeapRep c H) : HeapRep c h :=
  ⟨fun id av hi=>hh.A id av (s.l hi),fun id av hi=>hh.obj id av (s.l hi),fun id av hi=>hh.gh id av (s.l hi),fun id av hi=>hh.nS id av (s.l hi),fun i j a b hi hj=>hh.inj i j a b (s.l hi) (s.l hj)⟩
theorem Out.framed {c c' : Ctx} {H h k h' H' : Asc} {ns : List Nat} (hh : HeapRep c H) (s : Split H h k) (o : Out c h h' ns c') (s' : ∀ id,get? H' id = (get? h' id).or (get? k id)) : Out c H H' ns c':=by
  have hGk : ∀ id av,get? k id = some av→(c'.G id ↔ c.G id):=fun id av hi=>o.le.G _ (hh.A id av (s.r hi))
  have hne : ∀ id av j av',get? k id = some av→get? h j = some av'→¬ c.G id→¬ c.G j→c.ρ j ≠ c.ρ id:=fun id av j av' hi hj hg hgj e=>by
    have:=hh.inj j id _ _ (s.l hj) (s.r hi) hgj hg e
    subst this
    rw [s.apart _ _ hi] at hj;cases hj
  have hk : ∀ id av,get? k id = some av→¬ c.G id→c'.w.heap[c.ρ id]? = c.w.heap[c.ρ id]?:=fun id av hi hg =>
    o.frame _ (hh.obj id av (s.r hi) hg).lt (fun j av' hj hgj=>hne id av j av' hi hj hg hgj)
  have hcase : ∀ id av,get? H' id = some av→get? h' id = some av ∨ get? k id = some av:=fun id av hi=>by
    rw [s'] at hi
    cases hx : get? h' id with
    | none=>rw [hx] at hi;exact .inr hi
    | some u=>rw [hx] at hi;exact .inl hi
  have hρ : ∀ id av,get? k id = some av→c'.ρ id = c.ρ id:=fun id av hi=>o.le.ρ _ (hh.A id av (s.r hi))
  have hsep : ∀ i j a b,get? h' i = some a→get? k j = some b→¬ c'.G i→¬ c'.G j→c'.ρ i ≠ c'.ρ j:=fun i j a b hi hj hgi hgj e=>by
    rw [hρ j b hj] at e
    have hgj' : ¬ c.G j:=fun x=>hgj ((hGk j b hj).2 x)
    rcases o.own i a hi hgi with ⟨l,av,hl,hgl,e'⟩ | h1
    · exact hne j b l av hj hl hgj' hgl (by rw [e',e])
    · have:=(hh.obj j b (s.r hj) hgj').lt;omega
  refine ⟨o.le,o.B,o.A,⟨fun id av hi=>?_,fun id av hi hg=>?_,fun id av hi hg=>?_,fun id av hi hg=>?_,fun i j a b hi hj hgi hgj e=>?_⟩,o.ok,o.os,o.tape,o.output,o.size,fun b hb hn=>?_,fun id av hi hg=>?_,fun b hb=>?_⟩
  · rcases hcase id av hi with hi | hi
    · exact o.heap.A id av hi
    · exact o.le.A _ (hh.A id av (s.r hi))
  · rcases hcase id av hi with hi | hi
    · exact o.heap.obj id av hi hg
    · have hg' : ¬ c.G id:=fun x=>hg ((hGk id av hi).2 x)
      rw [hρ id av hi]
      exact (hh.obj id av (s.r hi) hg').le o.le (hk id av hi hg')
  · rcases hcase id av hi with hi | hi
    · exact o.heap.gh id av hi hg
    · exact hh.gh id av (s.r hi) ((hGk id av hi).1 hg)
  · rcases hcase id av hi with hi | hi
    · exact o.heap.nS id av hi hg
    · have hg' : ¬ c.G id:=fun x=>hg ((hGk id av hi).2 x)
      rw [hρ id av hi]
      intro hS
      rcases o.newS _ hS with h1 | h1 | ⟨j,av',hj,hgj,e⟩
      · exact hh.nS id av (s.r hi) hg' h1
      · have:=(hh.obj id av (s.r hi) hg').lt;omega
      · exact hne id av j av' hi hj hg' hgj e
  · rcases hcase i a hi with hi' | hi' <;> rcases hcase j b hj with hj' | hj'
    · exact o.heap.inj i j a b hi' hj' hgi hgj e
    · exact absurd e (hsep i j a b hi' hj' hgi hgj)
    · exact absurd e.symm (hsep j i b a hj' hi' hgj hgi)
    · rw [hρ i a hi',hρ j b hj'] at e
      exact hh.inj i j a b (s.r hi') (s.r hj') (fun x=>hgi ((hGk i a hi').2 x)) (fun x=>hgj ((hGk j b hj').2 x)) e
  · exact o.frame b hb (fun id av hi=>hn id av (s.l hi))
  · rcases hcase id av hi with hi | hi
    · rcases o.own id av hi hg with ⟨j,av',hj,hgj,e⟩ | h1
      · exact .inl ⟨j,av',s.l hj,hgj,e⟩
      · exact .inr h1
    · exact .inl ⟨id,av,s.r hi,fun x=>hg ((hGk id av hi).2 x),(hρ id av hi).symm⟩
  · rcases o.newS b hb with h1 | h1 | ⟨j,av,hj,hgj,e⟩
    · exact .inl h1
    · exact .inr (.inl h1)
    · exact .inr (.inr ⟨j,av,s.l hj,hgj,e⟩)
def OpOk (P : Program) (o : Oper) (g e h : Asc) (v : Option AV) (h' : Asc) (ns : List Nat) : Prop :=
  ∀ (c : Ctx) (a : Act),EnvRep c g e a→HeapRep c h→CtxOk c→(∀ n ∈ ns,¬ c.A n)→∀ (K : Act→World→Prop) (Q : Exit→Act→World→Prop),
    (∀ c' v',Out c h h' ns c'→(∀ x,v = some x→Rep c' x .V [v'])→K (a.put o.dst v') c'.w)→o.wp P a c.w K Q
theorem OpOk.val {P : Program} {o : Oper} {g e h : Asc} {x : AV} (hr : ∀ c a,EnvRep c g e a→HeapRep c h→CtxOk c→∃ v',(execOp a.eval o).run P c.w = .ok (.value v') c.w∧Rep c x .V [v']) :
    OpOk P o g e h (some x) h []:=by
  intro c a he hh hc _ K Q hK
  obtain ⟨v',hr,hx⟩:=hr c a he hh hc
  unfold Oper.wp
  rw [hr]
  exact hK c v' (.refl hh hc) (fun y hy=>by cases hy;exact hx)
def Ctx.new (c : Ctx) (N : Nat) (o : Obj) : Ctx:={ w:=c.w.alloc o,ρ:=fun i=>if i = N then c.w.heap.size else c.ρ i,A:=fun i=>c.A i ∨ i = N,G:=fun i=>c.G i∧i ≠ N,S:=c.S,B:=c.B }
theorem bsize_none {w : World} {b : Nat} (h : w.heap.size ≤ b) : bsize w b = 0:=by unfold bsize;rw [Array.getElem?_eq_none h]
theorem bsize_alloc (w : World) (o : Obj) (b : Nat) : bsize w b ≤ bsize (w.alloc o) b:=by
  rcases Nat.lt_or_ge b w.heap.size with h | h
  · rw [bsize_congr (w':=w.alloc o) (Below.heap_alloc _ _ _ h)];exact Nat.le_refl _
  · rw [bsize_none h];exact Nat.zero_le _
theorem Ctx.new_le {c : Ctx} {N : Nat} {o : Obj} (hc : CtxOk c) (hN : ¬ c.A N) : Le c (c.new N o):=by
  have hne : ∀ i,c.A i→i ≠ N:=fun i hi e=>hN (by rw [← e];exact hi)
  refine ⟨fun i hi=>.inl hi,fun i hi=>if_neg (hne i hi),fun i hi=>⟨fun h=>h.1,fun h=>⟨h,hne i hi⟩⟩,fun i hi _=>?_,fun b hb _=>⟨hb,fun h=>h,Below.heap_alloc _ _ _ (hc.S b hb)⟩⟩
  have : (c.new N o).ρ i = c.ρ i:=if_neg (hne i hi)
  rw [this];exact bsize_alloc _ _ _
theorem Out.newF {c : Ctx} {h : Asc} {N : Nat} {t : TypeId} {av : AV} {xs ys : List Value} {fz : Nat × Nat} (hfz : fz = (0,0) ∨ (xs ++ ys).length ≤ fz.1) (hh : HeapRep c h) (hc : CtxOk c) (hN : ¬ c.A N) (hr : Rep c av .C xs) :
    Out c h ((N,av)::h) [N] (c.new N (.cells (xs ++ ys).toArray t fz)):=by
  have hle:=c.new_le (o:=.cells (xs ++ ys).toArray t fz) hc hN
  have hne : ∀ id av,get? h id = some av→id ≠ N:=fun id av hi e=>hN (by rw [← e];exact hh.A id av hi)
  have hρ : ∀ id av,get? h id = some av→(c.new N (.cells (xs ++ ys).toArray t fz)).ρ id = c.ρ id:=fun id av hi=>if_neg (hne id av hi)
  have hρN : (c.new N (.cells (xs ++ ys).toArray t fz)).ρ N = c.w.heap.size:=if_pos rfl
  have hG : ∀ id av,get? h id = some av→¬ (c.new N (.cells (xs ++ ys).toArray t fz)).G id→¬ c.G id:=fun id av hi hg x=>hg ⟨x,hne id av hi⟩
  have hcase : ∀ id av',get? ((N,av)::h) id = some av'→(id = N∧av' = av) ∨ (id ≠ N∧get? h id = some av'):=fun id av' hi=>by
    rw [get?_cons] at hi
    by_cases e : N = id
    · rw [if_pos e] at hi;cases hi;exact .inl ⟨e.symm,rfl⟩
    · rw [if_neg e] at hi;exact .inr ⟨fun e'=>e e'.symm,hi⟩
  refine ⟨hle,rfl,fun i hi=>?_,⟨fun id av' hi=>?_,fun id av' hi hg=>?_,fun id av' hi hg=>?_,fun id av' hi hg=>?_,fun i j a b hi hj hgi hgj e=>?_⟩,⟨fun b hb=>?_,?_⟩,rfl,rfl,rfl,?_,fun b hb _=>Below.heap_alloc _ _ _ hb,fun id av' hi hg=>?_,fun b hb=>.inl hb⟩
  · rcases hi with hi | hi
    · exact .inl hi
    · exact .inr (by simp [hi])
  · rcases hcase id av' hi with ⟨rfl,rfl⟩ | ⟨_,hi⟩
    · exact .inr rfl
    · exact .inl (hh.A id av' hi)
  · rcases hcase id av' hi with ⟨rfl,rfl⟩ | ⟨_,hi⟩
    · rw [hρN]
      exact .inl ⟨xs ++ ys,t,xs,ys,⟨fz,heap_alloc_new c.w _,hfz⟩,rfl,hr.le hle⟩
    · rw [hρ id av' hi]
      exact (hh.obj id av' hi (hG id av' hi hg)).le hle (Below.heap_alloc _ _ _ (hh.obj id av' hi (hG id av' hi hg)).lt)
  · rcases hcase id av' hi with ⟨e1,_⟩ | ⟨_,hi⟩
    · exact absurd e1 hg.2
    · exact hh.gh id av' hi hg.1
  · rcases hcase id av' hi with ⟨rfl,rfl⟩ | ⟨_,hi⟩
    · rw [hρN];intro hS;exact absurd (hc.S _ hS) (Nat.lt_irrefl _)
    · rw [hρ id av' hi];exact hh.nS id av' hi (hG id av' hi hg)
  · rcases hcase i a hi with ⟨e1,_⟩ | ⟨_,hi'⟩ <;> rcases hcase j b hj with ⟨e2,_⟩ | ⟨_,hj'⟩
    · rw [e1,e2]
    · rw [e1,hρN,hρ j b hj'] at e;have:=(hh.obj j b hj' (hG j b hj' hgj)).lt;omega
    · rw [e2,hρN,hρ i a hi'] at e;have:=(hh.obj i a hi' (hG i a hi' hgi)).lt;omega
    · rw [hρ i a hi',hρ j b hj'] at e;exact hh.inj i j a b hi' hj' (hG i a hi' hgi) (hG j b hj' hgj) e
  · have:=hc.S b hb
    show b < (c.w.alloc _).heap.size
    simp;omega
  · show c.B ≤ (c.w.alloc _).heap.size
    have:=hc.B;simp;omega
  · show c.w.heap.size ≤ (c.w.alloc _).heap.size
    simp
  · rcases hcase id av' hi with ⟨rfl,rfl⟩ | ⟨_,hi⟩
    · exact .inr (by rw [hρN];exact Nat.le_refl _)
    · exact .inl ⟨id,av',hi,hG id av' hi hg,(hρ id av' hi).symm⟩
theorem Out.new {c : Ctx} {h : Asc} {N : Nat} {t : TypeId} {av : AV} {xs ys : List Value} (hh : HeapRep c h) (hc : CtxOk c) (hN : ¬ c.A N) (hr : Rep c av .C xs) :
    Out c h ((N,av)::h) [N] (c.new N (.cells (xs ++ ys).toArray t)):=Out.newF (.inl rfl) hh hc hN hr
theorem rep_new_ptr (c : Ctx) (N : Nat) (o : Obj) : Rep (c.new N o) (.ptr N []) .V [.pointer (some ⟨c.w.heap.size,0,none⟩)] :=
  ⟨.inr rfl,fun h=>h.2 rfl,by simp [Ctx.new,pathOff]⟩
theorem rep_new_slF (fz : Nat × Nat) (c : Ctx) (N : Nat) (xs : List Value) (t : TypeId) (sz n cap : Nat) (h1 : n ≤ cap) (h2 : cap ≤ maxLen) (h3 : cap * sz ≤ xs.length) : Rep (c.new N (.cells xs.toArray t fz)) (.sl N [] sz 0 n) .V [.slice (some ⟨c.w.heap.size,0,none⟩) n cap]:=by
  have e : (c.new N (.cells xs.toArray t fz)).ρ N = c.w.heap.size:=if_pos rfl
  refine ⟨.inr rfl,.inr ⟨fun h=>h.2 rfl,0,cap,by rw [e],.inr (by simp [pathOff]),h1,h2,?_⟩⟩
  rw [e]
  show _ ≤ bsize (c.w.alloc _) _
  unfold bsize;rw [heap_alloc_new];simp;omega
theorem rep_new_sl (c : Ctx) (N : Nat) (xs : List Value) (t : TypeId) (sz n cap : Nat) (h1 : n ≤ cap) (h2 : cap ≤ maxLen) (h3 : cap * sz ≤ xs.length) : Rep (c.new N (.cells xs.toArray t)) (.sl N [] sz 0 n) .V [.slice (some ⟨c.w.heap.size,0,none⟩) n cap]:=rep_new_slF (0,0) c N xs t sz n cap h1 h2 h3
theorem Out.write {c : Ctx} {h : Asc} {id : Nat} {av av' : AV} {w' : World} (hh : HeapRep c h) (hc : CtxOk c) (hi : get? h id = some av) (hgi : ¬ c.G id)
    (hos : w'.os = c.w.os) (htp : w'.tape = c.w.tape) (hout : w'.output = c.w.output) (hsz : w'.heap.size = c.w.heap.size) (hbs : bsize c.w (c.ρ id) ≤ bsize w' (c.ρ id))
    (hoth : ∀ b,b ≠ c.ρ id→w'.heap[b]? = c.w.heap[b]?) (hobj : ∀ c' : Ctx,c' = { c with w:=w' }→Le c c'→ObjAt c' (c.ρ id) av') :
    Out c h (put h id av') [] { c with w:=w' }:=by
  have hbs' : ∀ b,bsize c.w b ≤ bsize w' b:=fun b=>by
    by_cases e : b = c.ρ id
    · rw [e];exact hbs
    · rw [bsize_congr (hoth b e)];exact Nat.le_refl _
  have hle : Le c { c with w:=w' }:=⟨fun _ h=>h,fun _ _=>rfl,fun _ _=>Iff.rfl,fun i _ _=>hbs' _,fun b hb _=>⟨hb,fun h=>h,hoth b (fun e=>hh.nS id av hi hgi (by rw [← e];exact hb))⟩⟩
  have hcase : ∀ j a,get? (put h id av') j = some a→(j = id∧a = av') ∨ (j ≠ id∧get? h j = some a):=fun j a hj=>by
    rw [get?_put] at hj
    by_cases e : id = j
    · rw [if_pos e] at hj;cases hj;exact .inl ⟨e.symm,rfl⟩
    · rw [if_neg e] at hj;exact .inr ⟨fun e'=>e e'.symm,hj⟩
  have hget : ∀ j a,get? (put h id av') j = some a→∃ a',get? h j = some a':=fun j a hj=>by
    rcases hcase j a hj with ⟨rfl,_⟩ | ⟨_,hj⟩
    · exact ⟨av,hi⟩
    · exact ⟨a,hj⟩
  refine ⟨hle,rfl,fun i hi=>.inl hi,⟨fun j a hj=>?_,fun j a hj hg=>?_,fun j a hj hg=>?_,fun j a hj hg=>?_,fun i j a b hi' hj hgi' hgj e=>?_⟩,⟨fun b hb=>by show b < w'.heap.size;rw [hsz];exact hc.S b hb,by show c.B ≤ w'.heap.size;rw [hsz];exact hc.B⟩,
    hos,htp,hout,by show c.w.heap.size ≤ w'.heap.size;omega,fun b hb hn=>hoth b (fun e=>hn id av hi hgi e.symm),fun j a hj hg=>?_,fun b hb=>.inl hb⟩
  · obtain ⟨a',hj⟩:=hget j a hj;exact hh.A j a' hj
  · rcases hcase j a hj with ⟨rfl,rfl⟩ | ⟨hne,hj⟩
    · exact hobj _ rfl hle
    · exact (hh.obj j a hj hg).le hle (hoth _ (fun e=>hne (hh.inj j id _ _ hj hi hg hgi e)))
  · rcases hcase j a hj with ⟨e1,_⟩ | ⟨hne,hj⟩
    · exact absurd (by rw [← e1];exact hg) hgi
    · exact hh.gh j a hj hg
  · obtain ⟨a',hj⟩:=hget j a hj;exact hh.nS j a' hj hg
  · obtain ⟨a',hi'⟩:=hget i a hi'
    obtain ⟨b',hj⟩:=hget j b hj
    exact hh.inj i j _ _ hi' hj hgi' hgj e
  · obtain ⟨a',hj⟩:=hget j a hj;exact .inl ⟨j,a',hj,hg,rfl⟩
theorem Out.drew {c : Ctx} {h : Asc} (hh : HeapRep c h) (hc : CtxOk c) : Out c h h [] { c with w:=c.w.drew }:=by
  have hle : Le c { c with w:=c.w.drew }:=⟨fun _ h=>h,fun _ _=>rfl,fun _ _=>Iff.rfl,fun i _ _=>Nat.le_refl _,fun b hb _=>⟨hb,fun h=>h,rfl⟩⟩
  exact ⟨hle,rfl,fun _ h=>.inl h,⟨hh.A,fun id av hi hg=>(hh.obj id av hi hg).le hle rfl,hh.gh,hh.nS,hh.inj⟩,⟨hc.S,hc.B⟩,rfl,rfl,rfl,Nat.le_refl _,fun _ _ _=>rfl,fun id av h hg=>.inl ⟨id,av,h,hg,rfl⟩,fun _ h=>.inl h⟩
theorem Out.ghost {c : Ctx} {h : Asc} {N : Nat} {av : AV} (hh : HeapRep c h) (hc : CtxOk c) (hN : ¬ c.A N) (hz : av.size = 0) :
    Out c h ((N,av)::h) [N] { c with A:=fun i=>c.A i ∨ i = N,G:=fun i=>c.G i ∨ i = N }:=by
  have hne : ∀ i,c.A i→i ≠ N:=fun i hi e=>hN (by rw [← e];exact hi)
  have hle : Le c { c with A:=fun i=>c.A i ∨ i = N,G:=fun i=>c.G i ∨ i = N } :=
    ⟨fun _ h=>.inl h,fun _ _=>rfl,fun i hi=>⟨fun h=>h.resolve_right (hne i hi),.inl⟩,fun i _ _=>Nat.le_refl _,fun b hb _=>⟨hb,fun h=>h,rfl⟩⟩
  have hcase : ∀ id av',get? ((N,av)::h) id = some av'→(id = N∧av' = av) ∨ (id ≠ N∧get? h id = some av'):=fun id av' hi=>by
    rw [get?_cons] at hi
    by_cases e : N = id
    · rw [if_pos e] at hi;cases hi;exact .inl ⟨e.symm,rfl⟩
    · rw [if_neg e] at hi;exact .inr ⟨fun e'=>e e'.symm,hi⟩
  have hcase' : ∀ id av',get? ((N,av)::h) id = some av'→¬ (c.G id ∨ id = N)→get? h id = some av'∧¬ c.G id:=fun id av' hi hg=>by
    rcases hcase id av' hi with ⟨rfl,rfl⟩ | ⟨_,hi⟩
    · exact absurd (.inr rfl) hg
    · exact ⟨hi,fun x=>hg (.inl x)⟩
  refine ⟨hle,rfl,fun i hi=>?_,⟨fun id av' hi=>?_,fun id av' hi hg=>?_,fun id av' hi hg=>?_,fun id av' hi hg=>?_,fun i j a b hi hj hgi hgj e=>?_⟩,⟨hc.S,hc.B⟩,rfl,rfl,rfl,Nat.le_refl _,fun b hb _=>rfl,fun id av' hi hg=>?_,fun b hb=>.inl hb⟩
  · rcases hi with hi | hi
    · exact .inl hi
    · exact .inr (by simp [hi])
  · rcases hcase id av' hi with ⟨rfl,rfl⟩ | ⟨_,hi⟩
    · exact .inr rfl
    · exact .inl (hh.A id av' hi)
  · obtain ⟨q1,q2⟩:=hcase' id av' hi hg
    exact (hh.obj id av' q1 q2).le hle rfl
  · rcases hcase id av' hi with ⟨rfl,rfl⟩ | ⟨hn,hi⟩
    · exact hz
    · exact hh.gh id av' hi (hg.resolve_right hn)
  · obtain ⟨q1,q2⟩:=hcase' id av' hi hg
    exact hh.nS id av' q1 q2
  · obtain ⟨q1,q2⟩:=hcase' i a hi hgi
    obtain ⟨q3,q4⟩:=hcase' j b hj hgj
    exact hh.inj i j a b q1 q3 q2 q4 e
  · obtain ⟨q1,q2⟩:=hcase' id av' hi hg
    exact .inl ⟨id,av',q1,q2,rfl⟩
end Go.V
namespace Go.V
open Go.RowKit Go.L
inductive Lay where
  | one (z : Value)
  | nul
  | cons (a b : Lay)
  | arr (n : Nat) (e : Lay)
def Lay.size : Lay→Nat
  | .one _=>1
  | .nul=>0
  | .cons a b=>a.size + b.size
  | .arr n e=>n * e.size
def Lay.zero : Lay→AV
  | .one z=>ofVal z
  | .nul=>.nul
  | .cons a b=>.pair a.zero b.zero
  | .arr n e=>.arr n e.size (fun _=>e.zero)
def Lay.flat : Lay→List Value
  | .one z=>[z]
  | .nul=>[]
  | .cons a b=>a.flat ++ b.flat
  | .arr n e=>(List.replicate n e.flat).flatten
def Lay.okB : Lay→Bool
  | .one z=>z.oneCell'
  | .nul=>true
  | .cons a b=>a.okB && b.okB
  | .arr _ e=>e.okB
theorem rep_ofValC (c : Ctx) (v : Value) (h : v.oneCell' = true) : Rep c (ofVal v) .C [v]:=by
  cases v <;> first | rfl | exact ⟨rfl,h⟩
theorem sub_rep (xs : List Value) : ∀ (n i : Nat),i < n→sub ((List.replicate n xs).flatten) (i * xs.length) xs.length = xs:=by
  intro n
  induction n with
  | zero=>intro i h;omega
  | succ n ih =>
    intro i hi
    rw [List.replicate_succ,List.flatten_cons]
    cases i with
    | zero=>rw [Nat.zero_mul,sub_append_left _ _ _ _ (by omega),sub_all]
    | succ i =>
      rw [Nat.add_mul,Nat.one_mul,Nat.add_comm,sub_append_right]
      exact ih i (by omega)
theorem Lay.flat_length : ∀ l : Lay,l.flat.length = l.size
  | .one _=>rfl
  | .nul=>rfl
  | .cons a b=>by simp [flat,size,a.flat_length,b.flat_length]
  | .arr n e=>by simp [flat,size,e.flat_length]
theorem Lay.rep (c : Ctx) : ∀ l : Lay,l.okB = true→Rep c l.zero .C l.flat
  | .one z,h=>rep_ofValC c z h
  | .nul,_=>rfl
  | .cons a b,h=>by
    simp only [okB,Bool.and_eq_true] at h
    exact ⟨_,_,rfl,a.rep c h.1,b.rep c h.2⟩
  | .arr n e,h=>by
    refine ⟨(Lay.arr n e).flat_length,fun i hi=>?_⟩
    have:=sub_rep e.flat n i hi
    rw [e.flat_length] at this
    show Rep c e.zero .C (sub ((List.replicate n e.flat).flatten) (i * e.size) e.size)
    rw [this];exact e.rep c h
inductive TK where
  | int (k : IntKind) | bool | str | slice (e : Nat) | array (n e : Nat) | struct (fs : List (Nat × Nat)) | ptr (e : Nat) | iface | func | map (k e : Nat)
structure TI where
  lay : Lay
  bytes : Nat
  kind : TK
def TK.agg : TK→Bool
  | .array .. | .struct ..=>true
  | _=>false
def TK.fits : TK→Option TypeDesc→Prop
  | .int k,d=>d = some (.int k)
  | .bool,d=>d = some .bool
  | .str,d=>d = some .string
  | .slice e,d=>d = some (.slice e)
  | .array n e,d=>d = some (.array n e)
  | .struct fs,d=>∃ F,d = some (.struct F)∧F.toList.map (fun f=>(f.offset,f.type)) = fs
  | .ptr e,d=>d = some (.pointer e)
  | .iface,d=>∃ m,d = some (.interface m)
  | .func,d=>∃ a b c,d = some (.func a b c)
  | .map k e,d=>d = some (.map k e)
def TK.fitsB : TK→Option TypeDesc→Bool
  | .int k,some (.int k')=>decide (k = k')
  | .bool,some .bool=>true
  | .str,some .string=>true
  | .slice e,some (.slice e')=>decide (e = e')
  | .array n e,some (.array n' e')=>decide (n = n') && decide (e = e')
  | .struct fs,some (.struct F)=>decide (F.toList.map (fun f=>(f.offset,f.type)) = fs)
  | .ptr e,some (.pointer e')=>decide (e = e')
  | .iface,some (.interface _)=>true
  | .func,some (.func _ _ _)=>true
  | .map k e,some (.map k' e')=>decide (k = k') && decide (e = e')
  | _,_=>false
theorem TK.fits_of {k : TK} {d : Option TypeDesc} (h : k.fitsB d = true) : k.fits d:=by
  unfold fitsB at h
  split at h <;> simp at h
  · subst h;rfl
  · rfl
  · rfl
  · subst h;rfl
  · obtain ⟨rfl,rfl⟩:=h;rfl
  · exact ⟨_,rfl,h⟩
  · subst h;rfl
  · exact ⟨_,rfl⟩
  · exact ⟨_,_,_,rfl⟩
  · obtain ⟨rfl,rfl⟩:=h;rfl
def vsame : Value→Value→Bool
  | .int k n,.int k' n'=>decide (k = k') && decide (n = n')
  | .bool a,.bool b=>decide (a = b)
  | .string a,.string b=>decide (a.data.toList = b.data.toList)
  | .pointer none,.pointer none=>true
  | .slice none n c,.slice none n' c'=>decide (n = n') && decide (c = c')
  | .map none,.map none=>true
  | .chan none,.chan none=>true
  | .nilFunc,.nilFunc=>true
  | .nilIface,.nilIface=>true
  | .float k n,.float k' n'=>decide (k = k') && decide (n = n')
  | _,_=>false
theorem vsame_eq {a b : Value} (h : vsame a b = true) : a = b:=by
  unfold vsame at h
  split at h <;> simp at h
  · rw [h.1,h.2]
  · rw [h]
  · rename_i a b
    have : a = b:=by
      obtain ⟨⟨a⟩⟩:=a
      obtain ⟨⟨b⟩⟩:=b
      simp at h;rw [h]
    rw [this]
  · rfl
  · rw [h.1,h.2]
  · rfl
  · rfl
  · rfl
  · rfl
  · rw [h.1,h.2]
def vsames : List Value→List Value→Bool
  | [],[]=>true
  | a::x,b::y=>vsame a b && vsames x y
  | _,_=>false
theorem vsames_eq : ∀ {x y : List Value},vsames x y = true→x = y
  | [],[],_=>rfl
  | a::x,b::y,h=>by
    simp only [vsames,Bool.and_eq_true] at h
    rw [vsame_eq h.1,vsames_eq h.2]
  | [],_::_,h=>by cases h
  | _::_,[],h=>by cases h
structure TIok (P : Program) (t : TypeId) (ti : TI) : Prop where
  info : ∃ i z,P.info? t = some i∧i.size = ti.lay.size∧i.bytes = ti.bytes∧i.zero = some z∧z.cells.toList = ti.lay.flat∧(ti.kind.agg = false→z = z.cells.getD 0 undef)
  lay : ti.lay.okB = true
  und : ti.kind.fits (P.underlying t)
def tiB (P : Program) (t : TypeId) (ti : TI) : Bool :=
  (match P.info? t with
  | some i=>(match i.zero with
    | some z=>decide (i.size = ti.lay.size) && decide (i.bytes = ti.bytes) && vsames z.cells.toList ti.lay.flat && (ti.kind.agg || vsame z (z.cells.getD 0 undef))
    | none=>false)
  | none=>false) && ti.lay.okB && ti.kind.fitsB (P.underlying t)
theorem tiB_ok {P : Program} {t : TypeId} {ti : TI} (h : tiB P t ti = true) : TIok P t ti:=by
  unfold tiB at h
  simp only [Bool.and_eq_true] at h
  obtain ⟨⟨h1,h2⟩,h3⟩:=h
  refine ⟨?_,h2,TK.fits_of h3⟩
  cases hi : P.info? t with
  | none=>simp [hi] at h1
  | some i =>
    cases hz : i.zero with
    | none=>simp [hi,hz] at h1
    | some z =>
      simp only [hi,hz,Bool.and_eq_true,decide_eq_true_eq,Bool.or_eq_true] at h1
      refine ⟨i,z,rfl,h1.1.1.1,h1.1.1.2,hz,vsames_eq h1.1.2,fun e=>?_⟩
      rcases h1.2 with h | h
      · rw [e] at h;cases h
      · exact vsame_eq h
def tabB (P : Program) (T : List (Option TI)) : Bool:=(List.range T.length).all fun t=>match T[t]? with
  | some (some ti)=>tiB P t ti
  | _=>true
def tget (T : List (Option TI)) (t : TypeId) : Option TI:=match T[t]? with
  | some x=>x
  | none=>none
def TabOk (P : Program) (T : List (Option TI)) : Prop:=∀ t ti,tget T t = some ti→TIok P t ti
theorem tab_ok {P : Program} {T : List (Option TI)} (h : tabB P T = true) : TabOk P T:=by
  intro t ti ht
  unfold tget at ht
  cases hx : T[t]? with
  | none=>simp [hx] at ht
  | some x =>
    simp only [hx] at ht
    subst ht
    have:=List.all_eq_true.1 h t (List.mem_range.2 (List.getElem?_eq_some_iff.1 hx).1)
    simp only [hx] at this
    exact tiB_ok this
section
variable {P : Program} {t : TypeId} {ti : TI}
theorem TIok.run_size (h : TIok P t ti) (w : World) : (sizeOf t).run P w = .ok ti.lay.size w:=by
  obtain ⟨i,z,hi,hs,_⟩:=h.info
  simp [sizeOf,typeInfo,hi,hs]
theorem TIok.run_agg (h : TIok P t ti) (w : World) : (isAgg t).run P w = .ok ti.kind.agg w:=by
  have hu:=h.und
  cases hk : ti.kind <;> rw [hk] at hu <;> simp only [TK.fits] at hu
  case struct=>obtain ⟨F,hu,_⟩:=hu;simp [isAgg,run_underlying hu,TK.agg]
  case iface=>obtain ⟨F,hu⟩:=hu;simp [isAgg,run_underlying hu,TK.agg]
  case func=>obtain ⟨_,_,_,hu⟩:=hu;simp [isAgg,run_underlying hu,TK.agg]
  all_goals simp [isAgg,run_underlying hu,TK.agg]
theorem TIok.run_zero (h : TIok P t ti) (w : World) : ∃ z,(zeroValue t).run P w = .ok z w∧z.cells.toList = ti.lay.flat:=by
  obtain ⟨i,z,hi,hs,hb,hz,hf,_⟩:=h.info
  exact ⟨z,by simp [zeroValue,typeInfo,hi,hz],hf⟩
theorem run_loadRep (h : TIok P t ti) {c : Ctx} {b o : Nat} {xs : List Value} {u : AV} (hc : CellsAt c.w b o xs) (hr : Rep c u .C xs) (ha : u.isAgg = ti.kind.agg) (hs : u.size = ti.lay.size) :
    ∃ v,(loadVar t ⟨b,o,none⟩).run P c.w = .ok v c.w∧Rep c u .V [v]:=by
  have hl:=hr.length
  cases hag : ti.kind.agg with
  | true =>
    rw [hag] at ha
    refine ⟨.agg xs.toArray,?_,(Rep.agg ha).2 hr⟩
    have hl2 : (loadCells ⟨b,o,none⟩ xs.length).run P c.w = .ok xs.toArray c.w :=
      run_loadCells_list (P:=P) c.w ⟨b,o,none⟩ xs (fun j v hv=>by rw [add_lit];exact hc j v hv)
    rw [hl,hs] at hl2
    simp only [loadVar,Sem.run_bind,h.run_agg,Result.andThen_ok,hag,if_true,h.run_size,hl2,Sem.run_pure]
  | false =>
    rw [hag] at ha
    have h1 : ∃ v,xs = [v]:=by
      have : xs.length = 1:=by rw [hl];cases u <;> first | rfl | simp [AV.isAgg] at ha
      exact List.length_eq_one_iff.1 this
    obtain ⟨v,rfl⟩:=h1
    refine ⟨v,?_,Rep.one ha hr⟩
    have:=hc 0 v rfl
    rw [Nat.add_zero] at this
    simp [loadVar,h.run_agg,hag,load,Sem.run,this]
end
theorem cellsAt_blk {w : World} {b t : Nat} {cs : List Value} (h : Blk w b cs t) {o n : Nat} : CellsAt w b o (sub cs o n):=by
  intro j u hu
  rw [sub_get] at hu
  split at hu
  · exact h.cell hu
  · cases hu
theorem isMo_path : ∀ {p : List Step} {av u : AV},getp av p = some u→u.isMo = false→av.isMo = false
  | [],av,u,h,hm=>by
    have : av = u:=by simpa [getp] using h
    rw [this];exact hm
  | s::p,av,u,h,hm=>by
    cases av with
    | mo n ks vs=>cases s <;> simp [getp,getf] at h
    | ob b o=>cases s <;> simp [getp,getf] at h
    | _=>rfl
theorem ObjAt.path {c : Ctx} {b : Nat} {av u : AV} {p : List Step} (h : ObjAt c b av) (hp : getp av p = some u) (hin : inb av p) (hm : u.isMo = false) :
    ∃ xs,CellsAt c.w b (pathOff p) xs∧Rep c u .C xs:=by
  obtain ⟨cs,t,xs,ys,hb,rfl,hr⟩:=h.cells (isMo_path hp hm)
  obtain ⟨q1,q2⟩:=hr.path hp hin
  refine ⟨_,?_,q1⟩
  have:=cellsAt_blk hb (o:=pathOff p) (n:=u.size)
  rwa [sub_append_left _ _ _ _ q2] at this
section
variable {P : Program} {t : TypeId} {ti : TI} {g e h : Asc} {x y : Operand} {d : Option Tmp} {ty : TypeId} {pos : String} {af : Array Edge} {gd : Option (Nat × Bool)}
theorem load_ptr (hT : TIok P t ti) {id : Nat} {p : List Step} {av u : AV} (hx : ev g e x = some (.ptr id p)) (ho : get? h id = some av) (hp : getp av p = some u) (hin : inb av p) (ha : u.isAgg = ti.kind.agg) (hs : u.size = ti.lay.size) (hm : u.isMo = false) :
    OpOk P ⟨d,.load t x,ty,pos,af,gd⟩ g e h (some u) h []:=by
  refine OpOk.val fun c a he hh hc=>?_
  obtain ⟨_,hG,hv⟩:=ev_rep he hx
  simp only [List.cons.injEq,and_true] at hv
  obtain ⟨xs,h1,h2⟩:=(hh.obj id av ho hG).path hp hin hm
  obtain ⟨v,hr,hrep⟩:=run_loadRep (P:=P) hT h1 h2 ha hs
  refine ⟨v,?_,hrep⟩
  simp [execOp,hv,Instr.loadAt,Instr.sureAddr,hr]
theorem load_rptr (hT : TIok P t ti) {fr : Bool} {u : AV} (hx : ev g e x = some (.rptr fr u)) (ha : u.isAgg = ti.kind.agg) (hs : u.size = ti.lay.size) :
    OpOk P ⟨d,.load t x,ty,pos,af,gd⟩ g e h (some u) h []:=by
  refine OpOk.val fun c a he hh hc=>?_
  obtain ⟨b,o,xs,hv,_,_,h1,h2⟩:=ev_rep he hx
  simp only [List.cons.injEq,and_true] at hv
  obtain ⟨v,hr,hrep⟩:=run_loadRep (P:=P) hT h1 h2 ha hs
  refine ⟨v,?_,hrep⟩
  simp [execOp,hv,Instr.loadAt,Instr.sureAddr,hr]
def AV.cellB : AV→Bool
  | .tup _=>false
  | .mo _ _ _=>false
  | .ob _ _=>false
  | .val v=>v.oneCell'
  | _=>true
theorem Rep.cells {c : Ctx} {u : AV} {v : Value} (hc : u.cellB = true) (h : Rep c u .V [v]) : ∃ zs,v.cells = zs.toArray∧Rep c u .C zs:=by
  cases hag : u.isAgg with
  | true=>obtain ⟨zs,rfl,h2⟩:=Rep.aggV hag h;exact ⟨zs,rfl,h2⟩
  | false =>
    have key : v.cells = #[v]→Rep c u .C [v]→∃ zs,v.cells = zs.toArray∧Rep c u .C zs:=fun h1 h2=>⟨[v],h1,h2⟩
    cases u <;> simp [AV.isAgg] at hag
    case tup=>cases hc
    case mo=>cases hc
    case ob=>cases hc
    case mp=>have h1:=h.2.2;simp at h1;subst h1;exact key rfl h
    case int=>have h : [v] = _:=h;simp at h;subst h;exact key rfl rfl
    case bool=>have h : [v] = _:=h;simp at h;subst h;exact key rfl rfl
    case str=>have h : [v] = _:=h;simp at h;subst h;exact key rfl rfl
    case val u =>
      have h1:=h.1;simp at h1;subst h1
      have hc : v.oneCell' = true:=hc
      refine key ?_ ⟨rfl,hc⟩
      cases v <;> first | rfl | cases hc
    case ptr=>have h1:=h.2.2;simp at h1;subst h1;exact key rfl h
    case emp=>obtain ⟨_,h1⟩:=id h;simp at h1;subst h1;exact key rfl h
    case sl=>rcases id h with ⟨_,⟨_,_,_,h1⟩ | ⟨_,_,_,h1,_⟩⟩ <;> (simp at h1;subst h1;exact key rfl h)
    case rsl=>obtain ⟨_,_,h1,_⟩:=id h;simp at h1;subst h1;exact key rfl h
    case rptr=>obtain ⟨_,_,_,h1,_⟩:=id h;simp at h1;subst h1;exact key rfl h
    case fn=>obtain ⟨_,_,h1,_⟩:=id h;simp at h1;subst h1;exact key rfl h
    case ifc=>obtain ⟨_,h1,_⟩:=id h;simp at h1;subst h1;exact key rfl h
theorem setRow_size (w : World) (b : Nat) (cs : Array Value) : (w.setRow b cs).heap.size = w.heap.size:=by simp [World.setRow]
theorem bsize_row {w : World} {b t : Nat} {cs cs' : List Value} (hb : Blk w b cs t) (h : cs.length ≤ cs'.length) : bsize w b ≤ bsize (w.setRow b cs'.toArray) b:=by
  obtain ⟨fz,hb⟩:=hb.at
  have hb':=setRow_heap w b cs.toArray cs'.toArray t fz hb
  unfold bsize;rw [hb,hb'];simpa using h
theorem run_storeRep (h : TIok P t ti) {w : World} {b t0 o : Nat} {cs zs : List Value} {v : Value} (hb : Blk w b cs t0) (hv : v.cells = zs.toArray) (h1 : ∀ u ∈ zs,u.oneCell' = true) (hs : zs.length = ti.lay.size) (hfit : o + zs.length ≤ cs.length) :
    (storeVar t ⟨b,o,none⟩ v).run P w = .ok () (w.setRow b (ovr cs o zs).toArray):=by
  have hst:=run_storeBlk P b o t0 zs 0 cs w hb (by omega) h1
  simp only [Nat.add_zero] at hst
  have hsz:=h.run_size w
  simp only [storeVar,Sem.run_bind,hsz,Result.andThen_ok,hv,List.size_toArray,hs,ne_eq,not_true,if_false,hst,ovr]
theorem store_ptr (hT : TIok P t ti) {id : Nat} {p : List Step} {av u u' : AV} (hx : ev g e x = some (.ptr id p)) (hy : ev g e y = some u') (ho : get? h id = some av) (hp : getp av p = some u) (hin : inb av p)
    (hc : u'.cellB = true) (hs : u'.size = ti.lay.size) (hs' : u.size = ti.lay.size) (hm : u.isMo = false) :
    OpOk P ⟨none,.store t x y,ty,pos,af,gd⟩ g e h none (put h id (setp av p u')) []:=by
  intro c a he hh hco _ K Q hK
  obtain ⟨_,hG,hv⟩:=ev_rep he hx
  simp only [List.cons.injEq,and_true] at hv
  obtain ⟨zs,hzc,hz⟩:=(ev_rep he hy).cells hc
  have hzl:=hz.length
  obtain ⟨cs,t0,xs,ys,hb,rfl,hr⟩:=(hh.obj id av ho hG).cells (isMo_path hp hm)
  obtain ⟨q1,q2⟩:=hr.path hp hin
  have hst:=run_storeRep (P:=P) hT (o:=pathOff p) hb hzc hz.oneC (by omega) (by simp;omega)
  have hrun : (execOp a.eval ⟨none,.store t x y,ty,pos,af,gd⟩).run P c.w = .ok .skip (c.w.setRow (c.ρ id) (ovr (xs ++ ys) (pathOff p) zs).toArray):=by
    simp [execOp,hv,Instr.storeAt,Instr.sureAddr,hst]
  unfold Oper.wp
  rw [hrun]
  refine hK { c with w:=c.w.setRow (c.ρ id) (ovr (xs ++ ys) (pathOff p) zs).toArray } undef (Out.write hh hco ho hG rfl rfl rfl (setRow_size _ _ _) (bsize_row hb (by rw [ovr_len (by simp;omega)];exact Nat.le_refl _)) (fun b hne=>setRow_other _ _ _ _ hne) fun c' hc' hle=>?_) (fun _ h=>by cases h)
  subst hc'
  refine .inl ⟨ovr (xs ++ ys) (pathOff p) zs,t0,ovr xs (pathOff p) zs,ys,hb.row _ (by rw [ovr_len (by simp;omega)]),ovr_append_left _ _ _ _ (by omega),?_⟩
  exact Rep.setp hle hr hp hin (hz.le hle) (by omega)
theorem alloc_ok (hT : TIok P t ti) {N : Nat} : OpOk P ⟨d,.alloc t,ty,pos,af,gd⟩ g e h (some (.ptr N [])) ((N,ti.lay.zero)::h) [N]:=by
  intro c a he hh hc hn K Q hK
  obtain ⟨z,hz,hf⟩:=hT.run_zero (P:=P) c.w
  have hN : ¬ c.A N:=hn N (by simp)
  have hcs : z.cells = (ti.lay.flat ++ []).toArray:=by rw [← hf];simp
  have hrun : (execOp a.eval ⟨d,.alloc t,ty,pos,af,gd⟩).run P c.w = .ok (.value (.pointer (some ⟨c.w.heap.size,0,none⟩))) (c.w.alloc (.cells (ti.lay.flat ++ []).toArray t)):=by
    simp only [execOp,Instr.alloc,Sem.run_bind,hz,Result.andThen_ok,newVar,newRow,newObj,hcs]
    rfl
  unfold Oper.wp
  rw [hrun]
  refine hK _ _ (Out.new (ys:=[]) hh hc hN (ti.lay.rep c hT.lay)) fun x hx=>?_
  cases hx
  exact rep_new_ptr c N _
theorem box_ok {N : Nat} {u : AV} (hx : ev g e x = some u) (hc : u.cellB = true) : OpOk P ⟨d,.box t x,ty,pos,af,gd⟩ g e h (some (.ptr N [])) ((N,u)::h) [N]:=by
  intro c a he hh hco hn K Q hK
  obtain ⟨zs,hzc,hz⟩:=(ev_rep he hx).cells hc
  have hN : ¬ c.A N:=hn N (by simp)
  have hcs : (a.eval x).cells = (zs ++ []).toArray:=by rw [hzc];simp
  have hrun : (execOp a.eval ⟨d,.box t x,ty,pos,af,gd⟩).run P c.w = .ok (.value (.pointer (some ⟨c.w.heap.size,0,none⟩))) (c.w.alloc (.cells (zs ++ []).toArray t)):=by
    simp only [execOp,Instr.box,Sem.run_bind,newVar,newRow,newObj,hcs]
    rfl
  unfold Oper.wp
  rw [hrun]
  refine hK _ _ (Out.new (ys:=[]) hh hco hN hz) fun x hx=>?_
  cases hx
  exact rep_new_ptr c N _
theorem move_ok {u : AV} (hx : ev g e x = some u) : OpOk P ⟨d,.move x,ty,pos,af,gd⟩ g e h (some u) h [] :=
  OpOk.val fun c a he _ _=>⟨a.eval x,rfl,ev_rep he hx⟩
theorem assign_ok {u : AV} (hx : ev g e x = some u) : OpOk P ⟨d,.assign x,ty,pos,af,gd⟩ g e h (some u) h [] :=
  OpOk.val fun c a he _ _=>⟨a.eval x,rfl,ev_rep he hx⟩
theorem run_fieldAt {fs : List (Nat × Nat)} (hu : TK.fits (.struct fs) (P.underlying t)) {k off tf : Nat} {tif : TI} (hk : fs[k]? = some (off,tf)) (hT : TIok P tf tif) (hz : tif.lay.size ≠ 0) (b o : Nat) (w : World) :
    (Instr.fieldAt t (.pointer (some ⟨b,o,none⟩)) k).run P w = .ok (.pointer (some ⟨b,o + off,none⟩)) w:=by
  obtain ⟨F,hu,hF⟩:=hu
  have : ∃ f,F[k]? = some f∧f.offset = off∧f.type = tf:=by
    rw [← hF,List.getElem?_map,Array.getElem?_toList] at hk
    cases hq : F[k]? with
    | none=>simp [hq] at hk
    | some f=>simp [hq] at hk;exact ⟨f,rfl,hk.1,hk.2⟩
  obtain ⟨f,hf,rfl,rfl⟩:=this
  simp [Instr.fieldAt,run_underlying hu,hf,Instr.sureAddr,fieldPlace,hT.run_size,hz,add_lit]
theorem fieldAddr_ptr {fs : List (Nat × Nat)} (hu : TK.fits (.struct fs) (P.underlying t)) {k off tf id : Nat} {tif : TI} (hk : fs[k]? = some (off,tf)) (hT : TIok P tf tif) (hz : tif.lay.size ≠ 0) {p : List Step} (hx : ev g e x = some (.ptr id p)) :
    OpOk P ⟨d,.fieldAddr t x k,ty,pos,af,gd⟩ g e h (some (.ptr id (p ++ [.fld k off]))) h []:=by
  refine OpOk.val fun c a he hh hc=>?_
  obtain ⟨hA,hG,hv⟩:=ev_rep he hx
  simp only [List.cons.injEq,and_true] at hv
  refine ⟨_,?_,hA,hG,rfl⟩
  simp [execOp,hv,run_fieldAt (P:=P) hu hk hT hz,pathOff_append,pathOff,Step.o]
theorem CellsAt.sub {w : World} {b o : Nat} {xs : List Value} (h : CellsAt w b o xs) (o' n : Nat) : CellsAt w b (o + o') (V.sub xs o' n):=by
  intro j u hu
  rw [sub_get] at hu
  split at hu
  · rw [Nat.add_assoc];exact h _ _ hu
  · cases hu
theorem fieldAddr_rptr {fs : List (Nat × Nat)} (hu : TK.fits (.struct fs) (P.underlying t)) {k off tf : Nat} {tif : TI} (hk : fs[k]? = some (off,tf)) (hT : TIok P tf tif) (hz : tif.lay.size ≠ 0) {fr : Bool} {av u : AV} (hx : ev g e x = some (.rptr fr av))
    (hf : getf av k = some u) (ho : offf av k = off) : OpOk P ⟨d,.fieldAddr t x k,ty,pos,af,gd⟩ g e h (some (.rptr fr u)) h []:=by
  refine OpOk.val fun c a he hh hc=>?_
  obtain ⟨b,o,xs,hv,hS,hB,hcl,hr⟩:=ev_rep he hx
  simp only [List.cons.injEq,and_true] at hv
  obtain ⟨q1,q2⟩:=hr.field hf
  refine ⟨.pointer (some ⟨b,o + off,none⟩),?_,b,o + off,_,rfl,hS,hB,hcl.sub off u.size,by rw [← ho];exact q1⟩
  simp [execOp,hv,run_fieldAt (P:=P) hu hk hT hz]
end
end Go.V
namespace Go.V
open Go.RowKit Go.L
section
variable {P : Program} {t : TypeId} {ti : TI} {g e h : Asc} {x y : Operand} {d : Option Tmp} {ty : TypeId} {pos : String} {af : Array Edge} {gd : Option (Nat × Bool)}
theorem rep_int {c : Ctx} {k : IntKind} {n : Int} {m : Md} {v : Value} (h : Rep c (.int k n) m [v]) : v = .int k n:=by
  have h : [v] = _:=h;simpa using h
theorem rep_bool {c : Ctx} {n : Bool} {m : Md} {v : Value} (h : Rep c (.bool n) m [v]) : v = .bool n:=by
  have h : [v] = _:=h;simpa using h
theorem rep_str {c : Ctx} {n : List UInt8} {m : Md} {v : Value} (h : Rep c (.str n) m [v]) : v = .string ⟨n.toArray⟩:=by
  have h : [v] = _:=h;simpa using h
theorem rep_val {c : Ctx} {n : Value} {m : Md} {v : Value} (h : Rep c (.val n) m [v]) : v = n:=by
  have h:=h.1;simpa using h
theorem rep_ptr {c : Ctx} {id : Nat} {p : List Step} {m : Md} {v : Value} (h : Rep c (.ptr id p) m [v]) : c.A id∧¬ c.G id∧v = .pointer (some ⟨c.ρ id,pathOff p,none⟩):=by
  obtain ⟨h1,h2,h3⟩:=h;exact ⟨h1,h2,by simpa using h3⟩
theorem rep_sl {c : Ctx} {id sz off len : Nat} {p : List Step} {m : Md} {v : Value} (h : Rep c (.sl id p sz off len) m [v]) :
    c.A id∧((c.G id∧len = 0∧∃ a,v = .slice a 0 0) ∨ (¬ c.G id∧∃ o cap,v = .slice (some ⟨c.ρ id,o,none⟩) len cap∧(cap = 0 ∨ o = pathOff p + off * sz)∧len ≤ cap∧cap ≤ maxLen∧o + cap * sz ≤ bsize c.w (c.ρ id))):=by
  obtain ⟨h1,h2⟩:=h
  refine ⟨h1,?_⟩
  rcases h2 with ⟨a,b,x,e⟩ | ⟨a,o,cap,e,r⟩
  · exact .inl ⟨a,b,x,by simpa using e⟩
  · exact .inr ⟨a,o,cap,by simpa using e,r⟩
theorem index_sl {eT : Nat} (hu : P.underlying t = some (.slice eT)) {tie : TI} (hT : TIok P eT tie) {id sz off len : Nat} {p : List Step} {k : IntKind} {i : Int} (hx : ev g e x = some (.sl id p sz off len)) (hy : ev g e y = some (.int k i))
    (hs : tie.lay.size = sz) (h0 : 0 ≤ i) (h1 : i < len) : OpOk P ⟨d,.indexAddr t x y,ty,pos,af,gd⟩ g e h (some (.ptr id (p ++ [.idx (off + i.toNat) sz]))) h []:=by
  refine OpOk.val fun c a he hh hc=>?_
  obtain ⟨hA,⟨_,hz,_,_⟩ | ⟨hG,o,cap,hv,ho,h2,h3,_⟩⟩:=rep_sl (ev_rep he hx)
  · omega
  have hi:=rep_int (ev_rep he hy)
  have ho : o = pathOff p + off * sz:=by rcases ho with ho | ho;omega;exact ho
  refine ⟨.pointer (some ⟨c.ρ id,o + i.toNat * sz,none⟩),?_,hA,hG,?_⟩
  · simp [execOp,hv,hi,Instr.indexAt,asIntOf,run_underlying hu,h0,h1,hT.run_size,hs,add_lit]
  · rw [pathOff_append,ho];simp [pathOff,Step.o,Nat.add_mul,Nat.add_assoc]
theorem cellsAt_elem {w : World} {b o n sz i : Nat} {xs : List Value} (h : CellsAt w b o xs) : CellsAt w b (o + i * sz) (sub xs (i * sz) sz):=h.sub _ _
theorem index_rsl {eT : Nat} (hu : P.underlying t = some (.slice eT)) {tie : TI} (hT : TIok P eT tie) {sz n : Nat} {fr : Bool} {f : Nat→AV} {k : IntKind} {i : Int} (hx : ev g e x = some (.rsl fr n sz f)) (hy : ev g e y = some (.int k i))
    (hs : tie.lay.size = sz) (h0 : 0 ≤ i) (h1 : i < n) : OpOk P ⟨d,.indexAddr t x y,ty,pos,af,gd⟩ g e h (some (.rptr fr (f i.toNat))) h []:=by
  refine OpOk.val fun c a he hh hc=>?_
  obtain ⟨ad,cap,hv,h2,h3,h4⟩:=ev_rep he hx
  simp only [List.cons.injEq,and_true] at hv
  have hi:=rep_int (ev_rep he hy)
  rcases h4 with h4 | ⟨b,o,xs,rfl,hS,hB,hcl,hl,hr⟩
  · omega
  · refine ⟨.pointer (some ⟨b,o + i.toNat * sz,none⟩),?_,b,_,_,rfl,hS,hB,cellsAt_elem (n:=n) hcl,hr _ (by omega)⟩
    simp [execOp,hv,hi,Instr.indexAt,asIntOf,run_underlying hu,h0,h1,hT.run_size,hs,add_lit]
theorem index_ptr {n eT : Nat} (hu : P.underlying t = some (.array n eT)) {tie : TI} (hT : TIok P eT tie) {id : Nat} {p : List Step} {k : IntKind} {i : Int} (hx : ev g e x = some (.ptr id p)) (hy : ev g e y = some (.int k i))
    (h0 : 0 ≤ i) (h1 : i < n) : OpOk P ⟨d,.indexAddr t x y,ty,pos,af,gd⟩ g e h (some (.ptr id (p ++ [.idx i.toNat tie.lay.size]))) h []:=by
  refine OpOk.val fun c a he hh hc=>?_
  obtain ⟨hA,hG,hv⟩:=rep_ptr (ev_rep he hx)
  have hi:=rep_int (ev_rep he hy)
  refine ⟨.pointer (some ⟨c.ρ id,pathOff p + i.toNat * tie.lay.size,none⟩),?_,hA,hG,?_⟩
  · simp [execOp,hv,hi,Instr.indexAt,asIntOf,run_underlying hu,h0,h1,hT.run_size,add_lit,Instr.sureAddr]
  · rw [pathOff_append];simp [pathOff,Step.o]
theorem index_rptr {n eT : Nat} (hu : P.underlying t = some (.array n eT)) {tie : TI} (hT : TIok P eT tie) {fr : Bool} {n' sz : Nat} {f : Nat→AV} {k : IntKind} {i : Int} (hx : ev g e x = some (.rptr fr (.arr n' sz f))) (hy : ev g e y = some (.int k i))
    (hs : tie.lay.size = sz) (hn : n' = n) (h0 : 0 ≤ i) (h1 : i < n) : OpOk P ⟨d,.indexAddr t x y,ty,pos,af,gd⟩ g e h (some (.rptr fr (f i.toNat))) h []:=by
  subst hn
  refine OpOk.val fun c a he hh hc=>?_
  obtain ⟨b,o,xs,hv,hS,hB,hcl,hl,hr⟩:=ev_rep he hx
  simp only [List.cons.injEq,and_true] at hv
  have hi:=rep_int (ev_rep he hy)
  refine ⟨.pointer (some ⟨b,o + i.toNat * sz,none⟩),?_,b,_,_,rfl,hS,hB,cellsAt_elem (n:=n') hcl,hr _ (by omega)⟩
  simp [execOp,hv,hi,Instr.indexAt,asIntOf,run_underlying hu,h0,h1,hT.run_size,hs,add_lit,Instr.sureAddr]
theorem index_str (hu : P.underlying t = some .string) {l : List UInt8} {k : IntKind} {i : Int} (hx : ev g e x = some (.str l)) (hy : ev g e y = some (.int k i))
    (h0 : 0 ≤ i) (h1 : i < l.length) : OpOk P ⟨d,.index t x y,ty,pos,af,gd⟩ g e h (some (.int .u8 ((l.getD i.toNat 0).toNat : Nat))) h []:=by
  refine OpOk.val fun c a he hh hc=>?_
  have hv:=rep_str (ev_rep he hx)
  have hi:=rep_int (ev_rep he hy)
  refine ⟨_,?_,rfl⟩
  have hlt : i.toNat < l.length:=by omega
  have hg : (⟨l.toArray⟩ : ByteArray)[i.toNat]? = some l[i.toNat]:=by
    show (if h : i.toNat < (⟨l.toArray⟩ : ByteArray).size then some ((⟨l.toArray⟩ : ByteArray)[i.toNat]'h) else none) = _
    rw [dif_pos (by simpa [ByteArray.size] using hlt)]
    rfl
  simp [execOp,hv,hi,Instr.index,asIntOf,run_underlying hu,h0,hg,List.getElem?_eq_getElem hlt]
theorem run_partRep (hT : TIok P t ti) {c : Ctx} {o : Nat} {xs : List Value} {u : AV} (hr : Rep c u .C (sub xs o u.size)) (hfit : o + u.size ≤ xs.length) (ha : u.isAgg = ti.kind.agg) (hs : u.size = ti.lay.size) (w : World) :
    ∃ v,(part t xs.toArray o).run P w = .ok v w∧Rep c u .V [v]:=by
  cases hag : ti.kind.agg with
  | true =>
    rw [hag] at ha
    refine ⟨.agg (sub xs o u.size).toArray,?_,(Rep.agg ha).2 hr⟩
    have : xs.toArray.extract o (o + ti.lay.size) = (sub xs o u.size).toArray:=by
      rw [hs];unfold sub;apply Array.ext';simp [hs]
    simp [part,hT.run_agg,hag,hT.run_size,this]
    rw [← hs];rfl
  | false =>
    rw [hag] at ha
    have h1 : u.size = 1:=by cases u <;> first | rfl | simp [AV.isAgg] at ha
    rw [h1] at hr hfit
    have hlt : o < xs.length:=by omega
    have : sub xs o 1 = [xs[o]]:=by
      unfold sub
      rw [List.drop_eq_getElem_cons hlt];rfl
    rw [this] at hr
    exact ⟨xs[o],by simp [part,hT.run_agg,hag,hlt],Rep.one ha hr⟩
theorem index_arr {n eT : Nat} (hu : P.underlying t = some (.array n eT)) {tie : TI} (hT : TIok P eT tie) {n' sz : Nat} {f : Nat→AV} {k : IntKind} {i : Int} (hx : ev g e x = some (.arr n' sz f)) (hy : ev g e y = some (.int k i))
    (hn : n' = n) (h0 : 0 ≤ i) (h1 : i < n) (ha : (f i.toNat).isAgg = tie.kind.agg) (hs : (f i.toNat).size = tie.lay.size) (hs' : tie.lay.size = sz) : OpOk P ⟨d,.index t x y,ty,pos,af,gd⟩ g e h (some (f i.toNat)) h []:=by
  subst hn
  refine OpOk.val fun c a he hh hc=>?_
  obtain ⟨xs,hv,hl,hr⟩:=ev_rep he hx
  simp only [List.cons.injEq,and_true] at hv
  have hi:=rep_int (ev_rep he hy)
  have hle : i.toNat * sz + sz ≤ n' * sz:=by
    have:=Nat.mul_le_mul_right sz (show i.toNat + 1 ≤ n' by omega)
    rwa [Nat.add_mul,Nat.one_mul] at this
  obtain ⟨v,hrun,hrep⟩:=run_partRep (P:=P) hT (o:=i.toNat * sz) (by rw [hs,hs'];exact hr _ (by omega)) (by rw [hs,hs'];omega) ha hs c.w
  refine ⟨v,?_,hrep⟩
  simp [execOp,hv,hi,Instr.index,asIntOf,run_underlying hu,h0,h1,hT.run_size,hs',hrun]
theorem field_ok {fs : List (Nat × Nat)} (hu : TK.fits (.struct fs) (P.underlying t)) {k off tf : Nat} {tif : TI} (hk : fs[k]? = some (off,tf)) (hT : TIok P tf tif) {av u : AV} (hx : ev g e x = some av) (hag : av.isAgg = true) (hf : getf av k = some u) (ho : offf av k = off)
    (ha : u.isAgg = tif.kind.agg) (hs : u.size = tif.lay.size) : OpOk P ⟨d,.field t x k,ty,pos,af,gd⟩ g e h (some u) h []:=by
  obtain ⟨F,hu,hF⟩:=hu
  have : ∃ f,F[k]? = some f∧f.offset = off∧f.type = tf:=by
    rw [← hF,List.getElem?_map,Array.getElem?_toList] at hk
    cases hq : F[k]? with
    | none=>simp [hq] at hk
    | some f=>simp [hq] at hk;exact ⟨f,rfl,hk.1,hk.2⟩
  obtain ⟨f,hff,rfl,rfl⟩:=this
  refine OpOk.val fun c a he hh hc=>?_
  obtain ⟨xs,hv,hr⟩:=Rep.aggV hag (ev_rep he hx)
  obtain ⟨q1,q2⟩:=hr.field hf
  rw [ho] at q1 q2
  obtain ⟨v,hrun,hrep⟩:=run_partRep (P:=P) hT q1 q2 ha hs c.w
  refine ⟨v,?_,hrep⟩
  simp [execOp,hv,Instr.field,run_underlying hu,hff,asAgg,hrun]
def Bd (x : Option Value) (d n : Nat) : Prop:=(x = none∧n = d) ∨ ∃ k i,x = some (.int k i)∧0 ≤ i∧i.toNat = n
theorem run_bnds {s : Bool} {lo hi : Option Value} {l n len cap : Nat} (hl : Bd lo 0 l) (hh : Bd hi len n) (h1 : l ≤ n) (h2 : n ≤ cap) (w : World) :
    (Instr.sliceBounds s len cap lo hi none).run P w = .ok (l,n,cap) w:=by
  rcases hl with ⟨rfl,rfl⟩ | ⟨k,i,rfl,hi0,rfl⟩ <;> rcases hh with ⟨rfl,rfl⟩ | ⟨k',i',rfl,hi0',rfl⟩
  · simp [Instr.sliceBounds]
  · simp [Instr.sliceBounds,run_sliceBound (P:=P) (w:=w) k' i' cap _ hi0' (by omega)]
  · simp [Instr.sliceBounds,run_sliceBound (P:=P) (w:=w) k i n _ hi0 (by omega)]
  · simp [Instr.sliceBounds,run_sliceBound (P:=P) (w:=w) k' i' cap _ hi0' (by omega),run_sliceBound (P:=P) (w:=w) k i i'.toNat _ hi0 (by omega)]
def evo (g e : Asc) : Option Operand→Nat→Option (List Prop × Nat)
  | none,d=>some ([],d)
  | some x,_=>match ev g e x with
    | some (.int _ i)=>some ([0 ≤ i],i.toNat)
    | _=>none
def AllP : List Prop→Prop
  | []=>True
  | [p]=>p
  | p::r=>p∧AllP r
theorem AllP.cons {p : Prop} {r : List Prop} (h : AllP (p::r)) : p∧AllP r:=by
  cases r with
  | nil=>exact ⟨h,trivial⟩
  | cons=>exact h
theorem AllP.append : ∀ {a b : List Prop},AllP (a ++ b)→AllP a∧AllP b
  | [],_,h=>⟨trivial,h⟩
  | [p],_,h=>h.cons
  | p::q::r,_,h=>by
    obtain ⟨h1,h2⟩:=AllP.cons h
    obtain ⟨h3,h4⟩:=AllP.append (a:=q::r) h2
    exact ⟨⟨h1,h3⟩,h4⟩
theorem evo_bd {c : Ctx} {a : Act} (he : EnvRep c g e a) {x : Option Operand} {d n : Nat} {ps : List Prop} (h : evo g e x d = some (ps,n)) (hp : AllP ps) : Bd (x.map a.eval) d n:=by
  cases x with
  | none=>simp only [evo,Option.some.injEq,Prod.mk.injEq] at h;exact .inl ⟨rfl,h.2.symm⟩
  | some x =>
    simp only [evo] at h
    split at h
    · rename_i k i hx
      simp only [Option.some.injEq,Prod.mk.injEq] at h
      obtain ⟨rfl,rfl⟩:=h
      exact .inr ⟨k,i,by simp [rep_int (ev_rep he hx)],hp,rfl⟩
    · cases h
section
variable {lo hi : Option Operand} {l n : Nat} {ps qs : List Prop}
theorem slice_str (hu : P.underlying t = some .string) {s : List UInt8} (hx : ev g e x = some (.str s)) (hl : evo g e lo 0 = some (ps,l)) (hh : evo g e hi s.length = some (qs,n)) (hp : AllP ps) (hq : AllP qs) (h1 : l ≤ n) (h2 : n ≤ s.length) :
    OpOk P ⟨d,.slice t x lo hi none,ty,pos,af,gd⟩ g e h (some (.str ((s.take n).drop l))) h []:=by
  refine OpOk.val fun c a he hh' hc=>?_
  have hv:=rep_str (ev_rep he hx)
  refine ⟨_,?_,rfl⟩
  have hb:=run_bnds (P:=P) (s:=false) (cap:=s.length) (evo_bd he hl hp) (evo_bd he hh hq) h1 h2 c.w
  have he : (⟨s.toArray⟩ : ByteArray).extract l n = ⟨((s.take n).drop l).toArray⟩:=by
    apply ByteArray.ext;simp [List.drop_take]
  have hsz : (⟨s.toArray⟩ : ByteArray).size = s.length:=rfl
  simp [execOp,hv,Instr.sliceAt,Instr.slice,run_underlying hu,hsz,hb,he]
theorem slice_nil {eT : Nat} (hu : P.underlying t = some (.slice eT)) {tie : TI} (hT : TIok P eT tie) (hx : ev g e x = some (.val (.slice none 0 0))) (hl : evo g e lo 0 = some (ps,l)) (hh : evo g e hi 0 = some (qs,n)) (hp : AllP ps) (hq : AllP qs) (h1 : l = 0) (h2 : n = 0) :
    OpOk P ⟨d,.slice t x lo hi none,ty,pos,af,gd⟩ g e h (some (.val (.slice none 0 0))) h []:=by
  subst h1 h2
  refine OpOk.val fun c a he hh' hc=>?_
  have hv:=rep_val (ev_rep he hx)
  refine ⟨_,?_,rfl,trivial⟩
  have hb:=run_bnds (P:=P) (s:=true) (cap:=0) (evo_bd he hl hp) (evo_bd he hh hq) (Nat.le_refl _) (Nat.le_refl _) c.w
  simp [execOp,hv,Instr.sliceAt,Instr.slice,run_underlying hu,hb,hT.run_size]
theorem slice_sl {eT : Nat} (hu : P.underlying t = some (.slice eT)) {tie : TI} (hT : TIok P eT tie) {id sz off len : Nat} {p : List Step} (hx : ev g e x = some (.sl id p sz off len)) (hs : tie.lay.size = sz)
    (hl : evo g e lo 0 = some (ps,l)) (hh : evo g e hi len = some (qs,n)) (hp : AllP ps) (hq : AllP qs) (h1 : l ≤ n) (h2 : n ≤ len) :
    OpOk P ⟨d,.slice t x lo hi none,ty,pos,af,gd⟩ g e h (some (.sl id p sz (off + l) (n - l))) h []:=by
  refine OpOk.val fun c a he hh' hc=>?_
  obtain ⟨hA,⟨hG,hz,ad,hv⟩ | ⟨hG,o,cap,hv,ho,h3,h4,h5⟩⟩:=rep_sl (ev_rep he hx)
  · subst hz
    obtain rfl : n = 0:=by omega
    obtain rfl : l = 0:=by omega
    have hb:=run_bnds (P:=P) (s:=true) (cap:=0) (evo_bd he hl hp) (evo_bd he hh hq) h1 (by omega) c.w
    refine ⟨.slice ad 0 0,?_,hA,.inl ⟨hG,rfl,ad,rfl⟩⟩
    simp [execOp,hv,Instr.sliceAt,Instr.slice,run_underlying hu,hb,hT.run_size]
  have hb:=run_bnds (P:=P) (s:=true) (cap:=cap) (evo_bd he hl hp) (evo_bd he hh hq) h1 (by omega) c.w
  by_cases hcl : cap = l
  · subst hcl
    refine ⟨.slice (some ⟨c.ρ id,o,none⟩) (n - cap) (cap - cap),?_,hA,.inr ⟨hG,o,cap - cap,rfl,.inl (by omega),by omega,by omega,by simp;omega⟩⟩
    simp [execOp,hv,Instr.sliceAt,Instr.slice,run_underlying hu,hb,hT.run_size]
  · refine ⟨.slice (some ⟨c.ρ id,o + l * sz,none⟩) (n - l) (cap - l),?_,hA,.inr ⟨hG,o + l * sz,cap - l,rfl,?_,by omega,by omega,by rw [Nat.add_assoc,← Nat.add_mul,show l + (cap - l) = cap by omega];exact h5⟩⟩
    · simp [execOp,hv,Instr.sliceAt,Instr.slice,run_underlying hu,hb,hT.run_size,hcl,hs,add_lit]
    · rcases ho with ho | ho
      · omega
      · right;rw [ho,Nat.add_mul];omega
theorem slice_rsl {eT : Nat} (hu : P.underlying t = some (.slice eT)) {tie : TI} (hT : TIok P eT tie) {sz len : Nat} {fr : Bool} {f : Nat→AV} (hx : ev g e x = some (.rsl fr len sz f)) (hs : tie.lay.size = sz)
    (hl : evo g e lo 0 = some (ps,l)) (hh : evo g e hi len = some (qs,n)) (hp : AllP ps) (hq : AllP qs) (h1 : l ≤ n) (h2 : n ≤ len) :
    OpOk P ⟨d,.slice t x lo hi none,ty,pos,af,gd⟩ g e h (some (.rsl fr (n - l) sz (fun i=>f (l + i)))) h []:=by
  refine OpOk.val fun c a he hh' hc=>?_
  obtain ⟨ad,cap,hv,h3,h4,h5⟩:=ev_rep he hx
  simp only [List.cons.injEq,and_true] at hv
  have hb:=run_bnds (P:=P) (s:=true) (cap:=cap) (evo_bd he hl hp) (evo_bd he hh hq) h1 (by omega) c.w
  by_cases hcl : cap = l
  · subst hcl
    refine ⟨.slice ad (n - cap) (cap - cap),?_,ad,cap - cap,rfl,by omega,by omega,.inl (by omega)⟩
    simp [execOp,hv,Instr.sliceAt,Instr.slice,run_underlying hu,hb,hT.run_size]
  · refine ⟨.slice (ad.map (·.add (l * sz))) (n - l) (cap - l),?_,ad.map (·.add (l * sz)),cap - l,rfl,by omega,by omega,?_⟩
    · simp [execOp,hv,Instr.sliceAt,Instr.slice,run_underlying hu,hb,hT.run_size,hcl,hs]
    · rcases h5 with h5 | ⟨b,o,xs,rfl,hS,hB,hcl,hlx,hr⟩
      · left;omega
      · right
        have hmul : l * sz + (n - l) * sz ≤ len * sz:=by rw [← Nat.add_mul];exact Nat.mul_le_mul_right _ (by omega)
        refine ⟨b,o + l * sz,sub xs (l * sz) ((n - l) * sz),by simp [add_lit],hS,hB,hcl.sub _ _,sub_len (by omega),fun i hi'=>?_⟩
        have hm2 : i * sz + sz ≤ (n - l) * sz:=by
          have:=Nat.mul_le_mul_right sz (show i + 1 ≤ n - l from hi')
          rwa [Nat.add_mul,Nat.one_mul] at this
        rw [sub_sub _ _ _ _ _ hm2,← Nat.add_mul]
        exact hr _ (by omega)
theorem ObjAt.room {c : Ctx} {b : Nat} {av u : AV} {p : List Step} (h : ObjAt c b av) (hp : getp av p = some u) (hin : inb av p) (hm : u.isMo = false) : pathOff p + u.size ≤ bsize c.w b:=by
  obtain ⟨cs,t,xs,ys,hb,rfl,hr⟩:=h.cells (isMo_path hp hm)
  obtain ⟨q1,q2⟩:=hr.path hp hin
  obtain ⟨fz,hb⟩:=hb.at
  unfold bsize;rw [hb];simp;omega
theorem slice_ptr {N eT : Nat} (hu : P.underlying t = some (.array N eT)) {tie : TI} (hT : TIok P eT tie) {id n' sz : Nat} {p : List Step} {av : AV} {f : Nat→AV} (hx : ev g e x = some (.ptr id p)) (ho : get? h id = some av) (hp' : getp av p = some (.arr n' sz f)) (hin : inb av p)
    (hn : n' = N) (hs : tie.lay.size = sz) (hN : N ≤ 9223372036854775807)
    (hl : evo g e lo 0 = some (ps,l)) (hh : evo g e hi N = some (qs,n)) (hp : AllP ps) (hq : AllP qs) (h1 : l ≤ n) (h2 : n ≤ N) :
    OpOk P ⟨d,.slice t x lo hi none,ty,pos,af,gd⟩ g e h (some (.sl id p sz l (n - l))) h []:=by
  subst hn hs
  refine OpOk.val fun c a he hh' hc=>?_
  obtain ⟨hA,hG,hv⟩:=rep_ptr (ev_rep he hx)
  have hrm:=(hh'.obj id av ho hG).room hp' hin rfl
  simp only [AV.size] at hrm
  have hb:=run_bnds (P:=P) (s:=false) (cap:=n') (evo_bd he hl hp) (evo_bd he hh hq) h1 h2 c.w
  by_cases hcl : n' = l
  · subst hcl
    refine ⟨.slice (some ⟨c.ρ id,pathOff p,none⟩) (n - n') (n' - n'),?_,hA,.inr ⟨hG,_,n' - n',rfl,.inl (by omega),by omega,by unfold maxLen;omega,by simp;omega⟩⟩
    simp [execOp,hv,Instr.sliceAt,run_underlying hu,hb,hT.run_size,Instr.sureAddr]
  · refine ⟨.slice (some ⟨c.ρ id,pathOff p + l * tie.lay.size,none⟩) (n - l) (n' - l),?_,hA,.inr ⟨hG,_,n' - l,rfl,.inr rfl,by omega,by unfold maxLen;omega,by rw [Nat.add_assoc,← Nat.add_mul,show l + (n' - l) = n' by omega];exact hrm⟩⟩
    simp [execOp,hv,Instr.sliceAt,run_underlying hu,hb,hT.run_size,hcl,Instr.sureAddr,add_lit]
theorem slice_rptr {N eT : Nat} (hu : P.underlying t = some (.array N eT)) {tie : TI} (hT : TIok P eT tie) {fr : Bool} {n' sz : Nat} {f : Nat→AV} (hx : ev g e x = some (.rptr fr (.arr n' sz f))) (hn : n' = N) (hs : tie.lay.size = sz) (hN : N ≤ 9223372036854775807)
    (hl : evo g e lo 0 = some (ps,l)) (hh : evo g e hi N = some (qs,n)) (hp : AllP ps) (hq : AllP qs) (h1 : l ≤ n) (h2 : n ≤ N) :
    OpOk P ⟨d,.slice t x lo hi none,ty,pos,af,gd⟩ g e h (some (.rsl fr (n - l) sz (fun i=>f (l + i)))) h []:=by
  subst hn
  refine OpOk.val fun c a he hh' hc=>?_
  obtain ⟨b,o,xs,hv,hS,hB,hcl',hlx,hr⟩:=ev_rep he hx
  simp only [List.cons.injEq,and_true] at hv
  have hb:=run_bnds (P:=P) (s:=false) (cap:=n') (evo_bd he hl hp) (evo_bd he hh hq) h1 h2 c.w
  by_cases hcl : n' = l
  · subst hcl
    refine ⟨.slice (some ⟨b,o,none⟩) (n - n') (n' - n'),?_,_,n' - n',rfl,by omega,by unfold maxLen;omega,.inl (by omega)⟩
    simp [execOp,hv,Instr.sliceAt,run_underlying hu,hb,hT.run_size,Instr.sureAddr]
  · refine ⟨.slice (some ⟨b,o + l * sz,none⟩) (n - l) (n' - l),?_,_,n' - l,rfl,by omega,by unfold maxLen;omega,.inr ?_⟩
    · simp [execOp,hv,Instr.sliceAt,run_underlying hu,hb,hT.run_size,hcl,Instr.sureAddr,add_lit,hs]
    · have hmul : l * sz + (n - l) * sz ≤ n' * sz:=by rw [← Nat.add_mul];exact Nat.mul_le_mul_right _ (by omega)
      refine ⟨b,o + l * sz,sub xs (l * sz) ((n - l) * sz),rfl,hS,hB,hcl'.sub _ _,sub_len (by omega),fun i hi'=>?_⟩
      have hm2 : i * sz + sz ≤ (n - l) * sz:=by
        have:=Nat.mul_le_mul_right sz (show i + 1 ≤ n - l from hi')
        rwa [Nat.add_mul,Nat.one_mul] at this
      rw [sub_sub _ _ _ _ _ hm2,← Nat.add_mul]
      exact hr _ (by omega)
end
end
end Go.V
namespace Go.V
open Go.RowKit Go.L
def keq : IntKind→IntKind→Bool
  | .i8,.i8 | .i16,.i16 | .i32,.i32 | .i64,.i64 | .u8,.u8 | .u16,.u16 | .u32,.u32 | .u64,.u64=>true
  | _,_=>false
theorem keq_eq {a b : IntKind} (h : keq a b = true) : a = b:=by cases a <;> cases b <;> first | rfl | cases h
def inI (n : Int) : List Prop:=[-9223372036854775808 ≤ n,n ≤ 9223372036854775807]
def fitV (k : IntKind) (n : Int) : List Prop × Int:=match k with
  | .i64=>(inI n,n)
  | k=>([],k.wrap n)
def fitR (k : IntKind) (n : Int) : Option (List Prop × AV):=match k with
  | .i64=>some (inI n,.int .i64 n)
  | k=>some ([],.int k (k.wrap n))
theorem fitR_eq (k : IntKind) (n : Int) : fitR k n = some ((fitV k n).1,.int k (fitV k n).2):=by cases k <;> rfl
theorem fitV_ok {k : IntKind} {n : Int} (h : AllP (fitV k n).1) : k.wrap n = (fitV k n).2:=by
  cases k <;> first | rfl | skip
  exact IntWalk.i64_in n h
def maxK : IntKind→Int
  | .u8=>255
  | .u16=>65535
  | .u32=>4294967295
  | .u64=>18446744073709551615
  | .i64=>9223372036854775807
  | _=>0
theorem maxK_le {k : IntKind} {n : Int} (h0 : 0 ≤ n) (h : n ≤ maxK k) : n ≤ k.max:=by
  cases k <;> simp [IntKind.max,IntKind.signed,IntKind.bits,maxK] at h ⊢ <;> omega
def evBin (m : Bool) (op : BinOp) (x y : AV) : Option (List Prop × AV) :=
  match x,y with
  | .int k a,.int k' b =>
    match op with
    | .shl=>match k with
      | k=>some ([0 ≤ b],.int k (k.wrap (a * 2 ^ (min b.toNat k.bits))))
    | .shr=>some ([0 ≤ b],.int k (a.fdiv (2 ^ (min b.toNat k.bits))))
    | op=>bif keq k k' then match op with
      | .add=>fitR k (a + b)
      | .sub=>fitR k (a - b)
      | .mul=>fitR k (a * b)
      | .quo=>bif m then some ([0 ≤ a,0 < b,a ≤ maxK k],.int k (a / b)) else some ([b ≠ 0],.int k (k.wrap (a.tdiv b)))
      | .rem=>bif m then some ([0 ≤ a,0 < b],.int k (a % b)) else some ([b ≠ 0],.int k (a.tmod b))
      | .and=>some ([],.int k (bits .and k a b))
      | .or=>some ([],.int k (bits .or k a b))
      | .xor=>some ([],.int k (bits .xor k a b))
      | .andNot=>some ([],.int k (bits .andNot k a b))
      | .eql=>some ([],.bool (decide (a = b)))
      | .neq=>some ([],.bool (decide (a ≠ b)))
      | .lss=>some ([],.bool (decide (a < b)))
      | .leq=>some ([],.bool (decide (a ≤ b)))
      | .gtr=>some ([],.bool (decide (b < a)))
      | .geq=>some ([],.bool (decide (b ≤ a)))
      | _=>none else none
  | .str a,.str b=>match op with
    | .add=>some ([a.length + b.length ≤ 9223372036854775807],.str (a ++ b))
    | .eql=>some ([],.bool (decide (a = b)))
    | .neq=>some ([],.bool (decide (a ≠ b)))
    | .lss=>some ([],.bool (Op.bytesLess a b))
    | .leq=>some ([],.bool (Op.bytesLess a b || decide (a = b)))
    | .gtr=>some ([],.bool !(Op.bytesLess a b || decide (a = b)))
    | .geq=>some ([],.bool !(Op.bytesLess a b))
    | _=>none
  | _,_=>none
theorem div_in {a b : Int} (h0 : 0 ≤ a) (h1 : 0 < b) : 0 ≤ a / b∧a / b ≤ a:=⟨Int.ediv_nonneg h0 (by omega),Int.ediv_le_self b h0⟩
theorem wrap_i64_big {k : IntKind} {n : Int} (h0 : 0 ≤ n) (h1 : n ≤ k.max) : k.wrap n = n:=by
  cases k <;> simp [IntKind.max,IntKind.signed,IntKind.bits] at h1 <;> simp [IntKind.wrap,IntKind.signed,IntKind.bits] <;> omega
section
variable {P : Program} {t : TypeId} {ti : TI} {g e h : Asc} {x y : Operand} {d : Option Tmp} {ty : TypeId} {pos : String} {af : Array Edge} {gd : Option (Nat × Bool)}
theorem guard_int (op : BinOp) (x y : Operand) {k k' : IntKind} {a b : Int} (w : World) : (eqGuard op t x y (.int k a) (.int k' b)).run P w = .ok () w:=by
  unfold eqGuard
  cases op <;> rfl
theorem guard_str (op : BinOp) (x y : Operand) {a b : ByteArray} (w : World) : (eqGuard op t x y (.string a) (.string b)).run P w = .ok () w:=by
  unfold eqGuard
  cases op <;> rfl
theorem run_quo {k : IntKind} {a b : Int} (h0 : 0 ≤ a) (h1 : 0 < b) (h2 : a ≤ k.max) (w : World) : (binOp .quo t (.int k a) (.int k b)).run P w = .ok (.int k (a / b)) w:=by
  obtain ⟨q1,q2⟩:=div_in h0 h1
  simp [binOp,Op.intDiv,show b ≠ 0 by omega,Int.tdiv_eq_ediv_of_nonneg h0,wrap_i64_big q1 (Int.le_trans q2 h2)]
theorem run_rem {k : IntKind} {a b : Int} (h0 : 0 ≤ a) (h1 : 0 < b) (w : World) : (binOp .rem t (.int k a) (.int k b)).run P w = .ok (.int k (a % b)) w:=by
  simp [binOp,Op.intDiv,show b ≠ 0 by omega,Int.tmod_eq_emod_of_nonneg h0]
theorem beq_dec {α : Type} [BEq α] [LawfulBEq α] [DecidableEq α] (a b : α) : (a == b) = decide (a = b):=by by_cases h : a = b <;> simp [h]
theorem evBin_ok {m : Bool} {op : BinOp} {u v r : AV} {ps : List Prop} (hE : evBin m op u v = some (ps,r)) (hp : AllP ps) {c : Ctx} {x y : Operand} {a b : Value} (hu : Rep c u .V [a]) (hv : Rep c v .V [b]) (w : World) :
    ∃ z,(do eqGuard op t x y a b;binOp op t a b).run P w = .ok z w∧Rep c r .V [z]:=by
  cases u <;> cases v <;> first | (simp [evBin] at hE;done) | skip
  case int.int k n k' n' =>
    obtain rfl:=rep_int hu
    obtain rfl:=rep_int hv
    simp only [Sem.run_bind,guard_int,Result.andThen_ok]
    have hshl : ∀ {ps : List Prop} {r : AV},some ([0 ≤ n'],AV.int k (k.wrap (n * 2 ^ (min n'.toNat k.bits)))) = some (ps,r)→AllP ps→∃ z,(binOp .shl t (.int k n) (.int k' n')).run P w = .ok z w∧Rep c r .V [z]:=by
      intro ps r h hp
      simp only [Option.some.injEq,Prod.mk.injEq] at h
      obtain ⟨rfl,rfl⟩:=h
      have hp : 0 ≤ n':=hp
      exact ⟨_,by simp [binOp,Op.shift,show ¬ n' < 0 by omega],rfl⟩
    have hshr : ∀ {ps : List Prop} {r : AV},some ([0 ≤ n'],AV.int k (n.fdiv (2 ^ (min n'.toNat k.bits)))) = some (ps,r)→AllP ps→∃ z,(binOp .shr t (.int k n) (.int k' n')).run P w = .ok z w∧Rep c r .V [z]:=by
      intro ps r h hp
      simp only [Option.some.injEq,Prod.mk.injEq] at h
      obtain ⟨rfl,rfl⟩:=h
      have hp : 0 ≤ n':=hp
      exact ⟨_,by simp [binOp,Op.shift,show ¬ n' < 0 by omega],rfl⟩
    by_cases hke : keq k k' = true
    case neg =>
      have hke : keq k k' = false:=by simpa using hke
      unfold evBin at hE
      simp only [hke,cond_false] at hE
      cases op <;> first | exact hshl hE hp | exact hshr hE hp | cases hE
    have hke':=keq_eq hke
    subst hke'
    unfold evBin at hE
    simp only [hke,cond_true] at hE
    cases op
    case shl=>exact hshl hE hp
    case shr=>exact hshr hE hp
    case add=>simp only [fitR_eq,Option.some.injEq,Prod.mk.injEq] at hE;obtain ⟨rfl,rfl⟩:=hE;exact ⟨_,by simp [binOp,Op.intArith,fitV_ok hp],rfl⟩
    case sub=>simp only [fitR_eq,Option.some.injEq,Prod.mk.injEq] at hE;obtain ⟨rfl,rfl⟩:=hE;exact ⟨_,by simp [binOp,Op.intArith,fitV_ok hp],rfl⟩
    case mul=>simp only [fitR_eq,Option.some.injEq,Prod.mk.injEq] at hE;obtain ⟨rfl,rfl⟩:=hE;exact ⟨_,by simp [binOp,Op.intArith,fitV_ok hp],rfl⟩
    case quo =>
      cases m with
      | false =>
        simp only [cond_false,Option.some.injEq,Prod.mk.injEq] at hE;obtain ⟨rfl,rfl⟩:=hE
        have hp : n' ≠ 0:=hp
        exact ⟨_,by simp [binOp,Op.intDiv,hp],rfl⟩
      | true =>
        simp only [cond_true,Option.some.injEq,Prod.mk.injEq] at hE;obtain ⟨rfl,rfl⟩:=hE
        have h3 : n ≤ k.max:=maxK_le hp.1 hp.2.2
        exact ⟨_,run_quo hp.1 hp.2.1 h3 w,rfl⟩
    case rem =>
      cases m with
      | false =>
        simp only [cond_false,Option.some.injEq,Prod.mk.injEq] at hE;obtain ⟨rfl,rfl⟩:=hE
        have hp : n' ≠ 0:=hp
        exact ⟨_,by simp [binOp,Op.intDiv,hp],rfl⟩
      | true =>
        simp only [cond_true,Option.some.injEq,Prod.mk.injEq] at hE;obtain ⟨rfl,rfl⟩:=hE
        exact ⟨_,run_rem hp.1 hp.2 w,rfl⟩
    case and=>simp only [Option.some.injEq,Prod.mk.injEq] at hE;obtain ⟨rfl,rfl⟩:=hE;exact ⟨_,by simp [binOp,intBits_and],rfl⟩
    case or=>simp only [Option.some.injEq,Prod.mk.injEq] at hE;obtain ⟨rfl,rfl⟩:=hE;exact ⟨_,by simp [binOp,intBits_or],rfl⟩
    case xor=>simp only [Option.some.injEq,Prod.mk.injEq] at hE;obtain ⟨rfl,rfl⟩:=hE;exact ⟨_,by simp [binOp,intBits_xor],rfl⟩
    case andNot=>simp only [Option.some.injEq,Prod.mk.injEq] at hE;obtain ⟨rfl,rfl⟩:=hE;exact ⟨_,by simp [binOp,intBits_andNot],rfl⟩
    case eql=>simp only [Option.some.injEq,Prod.mk.injEq] at hE;obtain ⟨rfl,rfl⟩:=hE;exact ⟨.bool (decide (n = n')),by simp [binOp,Op.intCmp,beq_dec],rfl⟩
    case neq=>simp only [Option.some.injEq,Prod.mk.injEq] at hE;obtain ⟨rfl,rfl⟩:=hE;exact ⟨.bool (decide (n ≠ n')),by simp [binOp,Op.intCmp,bne,beq_dec],rfl⟩
    case lss=>simp only [Option.some.injEq,Prod.mk.injEq] at hE;obtain ⟨rfl,rfl⟩:=hE;exact ⟨_,by simp [binOp,Op.intCmp],rfl⟩
    case leq=>simp only [Option.some.injEq,Prod.mk.injEq] at hE;obtain ⟨rfl,rfl⟩:=hE;exact ⟨_,by simp [binOp,Op.intCmp],rfl⟩
    case gtr=>simp only [Option.some.injEq,Prod.mk.injEq] at hE;obtain ⟨rfl,rfl⟩:=hE;exact ⟨_,by simp [binOp,Op.intCmp],rfl⟩
    case geq=>simp only [Option.some.injEq,Prod.mk.injEq] at hE;obtain ⟨rfl,rfl⟩:=hE;exact ⟨_,by simp [binOp,Op.intCmp],rfl⟩
  case str.str l l' =>
    obtain rfl:=rep_str hu
    obtain rfl:=rep_str hv
    simp only [Sem.run_bind,guard_str,Result.andThen_ok]
    have hb : (l == l') = decide (l = l'):=beq_dec _ _
    unfold evBin at hE
    cases op <;> simp only [Option.some.injEq,Prod.mk.injEq,reduceCtorEq] at hE <;> obtain ⟨rfl,rfl⟩:=hE
    case add =>
      have hp : l.length + l'.length ≤ 9223372036854775807:=hp
      refine ⟨_,by rw [binOp_string_add];exact run_string_add_sum (P:=P) (w:=w) _ _ (by simpa [ByteArray.size] using hp),?_⟩
      show [Value.string _] = [.string ⟨(l ++ l').toArray⟩]
      congr 2
    case eql=>exact ⟨.bool (decide (l = l')),by simp [binOp,Op.stringOp,hb],rfl⟩
    case neq=>exact ⟨.bool (decide (l ≠ l')),by simp [binOp,Op.stringOp,hb],rfl⟩
    case lss=>exact ⟨.bool (Op.bytesLess l l'),by simp [binOp,Op.stringOp],rfl⟩
    case leq=>exact ⟨.bool (Op.bytesLess l l' || decide (l = l')),by simp [binOp,Op.stringOp,hb],rfl⟩
    case gtr=>exact ⟨.bool !(Op.bytesLess l l' || decide (l = l')),by simp [binOp,Op.stringOp,hb],rfl⟩
    case geq=>exact ⟨.bool !(Op.bytesLess l l'),by simp [binOp,Op.stringOp],rfl⟩
theorem bin_ok {m : Bool} {op : BinOp} {yt : TypeId} {u v r : AV} {ps : List Prop} (hx : ev g e x = some u) (hy : ev g e y = some v) (hE : evBin m op u v = some (ps,r)) (hp : AllP ps) :
    OpOk P ⟨d,.binOp op t x y yt,ty,pos,af,gd⟩ g e h (some r) h []:=by
  refine OpOk.val fun c a he hh hc=>?_
  obtain ⟨z,hz,hr⟩:=evBin_ok (P:=P) (t:=t) (x:=x) (y:=y) hE hp (ev_rep he hx) (ev_rep he hy) c.w
  refine ⟨z,?_,hr⟩
  simp only [execOp,Sem.run_bind,Sem.run_pure] at hz ⊢
  rw [hz];rfl
end
end Go.V
namespace Go.V
open Go.RowKit Go.L
section
variable {P : Program} {t : TypeId} {ti : TI} {g e h : Asc} {x y : Operand} {d : Option Tmp} {ty : TypeId} {pos : String} {af : Array Edge} {gd : Option (Nat × Bool)}
def evUn (op : UnOp) (u : AV) : Option (List Prop × AV):=match op,u with
  | .not,.bool b=>some ([],.bool !b)
  | .neg,.int k n=>fitR k (0 - n)
  | .xor,.int k n=>some ([],.int k (bits .xor k (if k.signed then -1 else k.max) n))
  | _,_=>none
theorem un_ok {op : UnOp} {xt : TypeId} {u r : AV} {ps : List Prop} (hx : ev g e x = some u) (h1 : evUn op u = some (ps,r)) (hp : AllP ps) : OpOk P ⟨d,.unOp op xt x,ty,pos,af,gd⟩ g e h (some r) h []:=by
  refine OpOk.val fun c a he hh hc=>?_
  have hu:=ev_rep he hx
  unfold evUn at h1
  split at h1 <;> simp only [fitR_eq,Option.some.injEq,Prod.mk.injEq,reduceCtorEq] at h1 <;> obtain ⟨rfl,rfl⟩:=h1
  · have:=rep_bool hu;exact ⟨_,by simp [execOp,this,Op.unary],rfl⟩
  · rename_i k n
    have:=rep_int hu
    exact ⟨_,by simp [execOp,this,Op.unary,Op.intArith];rfl,by rw [← fitV_ok hp];simp [Rep]⟩
  · have:=rep_int hu;exact ⟨_,by simp [execOp,this,Op.unary,intBits_xor],rfl⟩
def wide (k k' : IntKind) : Bool:=Nat.ble k.bits k'.bits
def inK : IntKind→Int→List Prop
  | .i64,n=>inI n
  | .u64,n=>[0 ≤ n,n ≤ 18446744073709551615]
  | .u32,n=>[0 ≤ n,n ≤ 4294967295]
  | .u8,n=>[0 ≤ n,n ≤ 255]
  | .u16,n=>[0 ≤ n,n ≤ 65535]
  | .i32,n=>[-2147483648 ≤ n,n ≤ 2147483647]
  | .i16,n=>[-32768 ≤ n,n ≤ 32767]
  | .i8,n=>[-128 ≤ n,n ≤ 127]
theorem inK_ok {k : IntKind} {n : Int} (h : AllP (inK k n)) : k.wrap n = n:=by
  cases k <;> simp only [inK,inI,AllP] at h <;> simp only [IntKind.wrap,IntKind.bits,IntKind.signed] <;> simp <;> omega
def evConv (m : Bool) (src dst : TK) (u : AV) : Option (List Prop × AV):=match src,dst,u with
  | .int _,.int k',.int k n=>bif m && wide k k' then some (inK k' n,.int k' n) else some ([],.int k' (k'.wrap n))
  | .str,.str,.str s=>some ([],.str s)
  | _,_,_=>none
theorem conv_ok {m : Bool} {src dst : TypeId} {ts td : TI} {u r : AV} {ps : List Prop} (hs : TIok P src ts) (hd : TIok P dst td) (hx : ev g e x = some u) (h1 : evConv m ts.kind td.kind u = some (ps,r)) (hp : AllP ps) :
    OpOk P ⟨d,.convert src dst x,ty,pos,af,gd⟩ g e h (some r) h []:=by
  refine OpOk.val fun c a he hh hc=>?_
  have hu:=ev_rep he hx
  have h1s:=hs.und
  have h1d:=hd.und
  unfold evConv at h1
  split at h1 <;> try (cases h1;done)
  · rename_i k0 k' k n e1 e2
    rw [e1] at h1s;rw [e2] at h1d
    simp only [TK.fits] at h1s h1d
    have:=rep_int hu
    have hrun : (execOp a.eval ⟨d,.convert src dst x,ty,pos,af,gd⟩).run P c.w = .ok (.value (.int k' (k'.wrap n))) c.w:=by
      simp [execOp,this,convert,run_underlying h1s,run_underlying h1d,Conv.intToInt]
    cases hb : (m && wide k k') with
    | true =>
      simp only [hb,cond_true,Option.some.injEq,Prod.mk.injEq] at h1
      obtain ⟨rfl,rfl⟩:=h1
      exact ⟨_,hrun,by rw [inK_ok hp];rfl⟩
    | false =>
      simp only [hb,cond_false,Option.some.injEq,Prod.mk.injEq] at h1
      obtain ⟨rfl,rfl⟩:=h1
      exact ⟨_,hrun,rfl⟩
  · rename_i s e1 e2
    rw [e1] at h1s;rw [e2] at h1d
    simp only [TK.fits] at h1s h1d
    have:=rep_str hu
    simp only [Option.some.injEq,Prod.mk.injEq] at h1
    obtain ⟨rfl,rfl⟩:=h1
    exact ⟨_,by simp [execOp,this,convert,run_underlying h1s,run_underlying h1d],rfl⟩
def evLen : AV→Option Nat
  | .str l=>some l.length
  | .sl _ _ _ _ n=>some n
  | .rsl _ n _ _=>some n
  | .val (.slice none n _)=>some n
  | .emp=>some 0
  | _=>none
def lenK : TK→Bool
  | .str | .slice _=>true
  | _=>false
def lenB : TK→AV→Bool
  | .str,.str _=>true
  | .str,_=>false
  | _,.str _=>false
  | _,_=>true
def nilB : AV→Bool
  | .ptr .. | .rptr ..=>true
  | .fn (.func _) _ _=>true
  | _=>false
theorem len_ok {hT : TIok P t ti} {u : AV} {n : Nat} (hx : ev g e x = some u) (hn : evLen u = some n) (hk : lenK ti.kind = true) (hk2 : lenB ti.kind u = true) :
    OpOk P ⟨d,.call { callee:=.builtin .len,args:=#[x],argTypes:=#[t] },ty,pos,af,gd⟩ g e h (some (.int .i64 n)) h []:=by
  refine OpOk.val fun c a he hh hc=>?_
  have hu:=ev_rep he hx
  have h1:=hT.und
  refine ⟨.int .i64 n,?_,rfl⟩
  have key : (Builtin.len_ #[t] ty #[a.eval x]).run P c.w = .ok (.int .i64 n) c.w:=by
    cases hkk : ti.kind <;> rw [hkk] at hk hk2 h1 <;> simp [lenK] at hk <;> simp only [TK.fits] at h1
    · cases u <;> simp [evLen] at hn <;> simp [lenB] at hk2
      rename_i l
      subst hn
      have:=rep_str hu
      have hsz : (⟨l.toArray⟩ : ByteArray).size = l.length:=rfl
      simp [Builtin.len_,this,run_underlying h1,goInt,hsz]
    · cases u <;> try (simp [evLen] at hn;done)
      · simp [lenB] at hk2
      · rename_i v
        have:=rep_val hu
        cases v <;> simp [evLen] at hn
        rename_i ad n' cap
        cases ad <;> simp [evLen] at hn
        subst hn
        simp [Builtin.len_,this,run_underlying h1,goInt]
      · simp [evLen] at hn
        subst hn
        obtain ⟨_,hv⟩:=hu
        simp only [List.cons.injEq,and_true] at hv
        simp [Builtin.len_,hv,run_underlying h1,goInt]
      · simp [evLen] at hn
        subst hn
        obtain ⟨_,⟨_,hz,_,hv⟩ | ⟨_,_,_,hv,_⟩⟩:=rep_sl hu
        · subst hz;simp [Builtin.len_,hv,run_underlying h1,goInt]
        · simp [Builtin.len_,hv,run_underlying h1,goInt]
      · simp [evLen] at hn
        subst hn
        obtain ⟨_,_,hv,_⟩:=hu
        simp only [List.cons.injEq,and_true] at hv
        simp [Builtin.len_,hv,run_underlying h1,goInt]
  simp only [execOp,resolve,invoke,builtin,Sem.run_bind,Sem.run_pure,Result.andThen_ok,List.map_toArray,List.map_cons,List.map_nil,key]
theorem nilCheck_ok {u : AV} (hx : ev g e x = some u) (hk : nilB u = true) : OpOk P ⟨d,.nilCheck x,ty,pos,af,gd⟩ g e h (some u) h []:=by
  refine OpOk.val fun c a he hh hc=>⟨a.eval x,?_,ev_rep he hx⟩
  have hu:=ev_rep he hx
  cases u <;> try (cases hk;done)
  · obtain ⟨_,_,hv⟩:=rep_ptr hu;simp [execOp,hv]
  · obtain ⟨_,_,_,hv,_⟩:=hu
    simp only [List.cons.injEq,and_true] at hv
    simp [execOp,hv]
  · rename_i f _ _
    cases f <;> try (cases hk;done)
    obtain ⟨_,_,hv,_⟩:=hu
    simp only [List.cons.injEq,and_true] at hv
    simp [execOp,hv]
theorem Rep.chain {c : Ctx} : ∀ {a : AV} {k : Nat} {u : AV} {vs : List Value},Rep c a .T vs→getf a k = some u→∃ v,vs[k]? = some v∧Rep c u .V [v]:=by
  intro a
  induction a with
  | pair a b _ ihb =>
    intro k u vs h hk
    obtain ⟨x,y,rfl,h1,h2⟩:=h
    cases k with
    | zero=>simp only [getf,Option.some.injEq] at hk;subst hk;exact ⟨x,rfl,h1⟩
    | succ k =>
      simp only [getf] at hk
      obtain ⟨v,q1,q2⟩:=ihb h2 hk
      exact ⟨v,by simpa using q1,q2⟩
  | int | bool | str | val | emp | nul | arr | ptr | sl | rsl | rptr | tup | fn | ifc | mp | mo | ob=>intro k u vs h hk;cases k <;> simp [getf] at hk
theorem extract_ok {k : Nat} {tu u : AV} (hx : ev g e x = some (.tup tu)) (hk : getf tu k = some u) : OpOk P ⟨d,.extract x k,ty,pos,af,gd⟩ g e h (some u) h []:=by
  refine OpOk.val fun c a he hh hc=>?_
  obtain ⟨xs,hv,hr⟩:=ev_rep he hx
  simp only [List.cons.injEq,and_true] at hv
  obtain ⟨v,hg,hrep⟩:=hr.chain hk
  exact ⟨v,by simp [execOp,hv,Instr.extract,hg],hrep⟩
theorem iface_ok {hT : TIok P t ti} {u : AV} (hx : ev g e x = some u) (hk : (match ti.kind with | .iface=>false | _=>true) = true) : OpOk P ⟨d,.makeInterface t x,ty,pos,af,gd⟩ g e h (some (.ifc t u)) h []:=by
  refine OpOk.val fun c a he hh hc=>⟨.iface t (a.eval x),?_,_,rfl,ev_rep he hx⟩
  have h1:=hT.und
  cases hkk : ti.kind <;> rw [hkk] at hk h1 <;> simp at hk <;> simp only [TK.fits] at h1
  case struct=>obtain ⟨_,h1,_⟩:=h1;simp [execOp,Instr.makeInterface,run_underlying h1]
  case func=>obtain ⟨_,_,_,h1⟩:=h1;simp [execOp,Instr.makeInterface,run_underlying h1]
  all_goals simp [execOp,Instr.makeInterface,run_underlying h1]
def evs (g e : Asc) : List Operand→Option AV
  | []=>some .nul
  | x::r=>match ev g e x,evs g e r with
    | some a,some b=>some (.pair a b)
    | _,_=>none
theorem evs_rep {c : Ctx} {a : Act} (he : EnvRep c g e a) : ∀ {l : List Operand} {u : AV},evs g e l = some u→Rep c u .T (l.map a.eval)
  | [],u,h=>by simp only [evs,Option.some.injEq] at h;subst h;rfl
  | x :: r,u,h=>by
    simp only [evs] at h
    cases hx : ev g e x with
    | none=>simp [hx] at h
    | some p =>
      cases hr : evs g e r with
      | none=>simp [hx,hr] at h
      | some q =>
        simp only [hx,hr,Option.some.injEq] at h
        subst h
        exact ⟨_,_,rfl,ev_rep he hx,evs_rep he hr⟩
theorem func_ok {f : Fn} {fs cs : Array Operand} {u v : AV} (h1 : evs g e fs.toList = some u) (h2 : evs g e cs.toList = some v) : OpOk P ⟨d,.makeFunc f fs cs,ty,pos,af,gd⟩ g e h (some (.fn f u v)) h []:=by
  refine OpOk.val fun c a he hh hc=>⟨.func f (fs.map a.eval) (cs.map a.eval),?_,fs.toList.map a.eval,cs.toList.map a.eval,?_,evs_rep he h1,evs_rep he h2⟩
  · simp [execOp,Instr.makeFunc]
  · simp only [List.cons.injEq,Value.func.injEq,and_true,true_and]
    exact ⟨Array.ext' (by simp),Array.ext' (by simp)⟩
def evPick (g e : Asc) (cnd x y : Operand) : Option AV:=match ev g e cnd with
  | some (.bool true)=>ev g e x
  | some (.bool false)=>ev g e y
  | _=>none
theorem pick_ok {cnd : Operand} {u : AV} (hu : evPick g e cnd x y = some u) : OpOk P ⟨d,.pick cnd x y,ty,pos,af,gd⟩ g e h (some u) h []:=by
  refine OpOk.val fun c a he hh hc=>?_
  unfold evPick at hu
  split at hu
  · rename_i h1
    exact ⟨a.eval x,by simp [execOp,rep_bool (ev_rep he h1),asBool],ev_rep he hu⟩
  · rename_i h1
    exact ⟨a.eval y,by simp [execOp,rep_bool (ev_rep he h1),asBool],ev_rep he hu⟩
  · cases hu
theorem fold_ovr (off : Nat) : ∀ (zs : List Value) (k : Nat) (cells : List Value),off + k + zs.length ≤ cells.length →
    ((zs.zipIdx k).foldl (fun cs (p : Value × Nat)=>cs.setIfInBounds (off + p.2) p.1) cells.toArray) = (ovr cells (off + k) zs).toArray
  | [],k,cells,_=>by
    unfold ovr
    simp
  | z :: zs,k,cells,hl=>by
    simp only [List.length_cons] at hl
    rw [List.zipIdx_cons,List.foldl_cons]
    have e : cells.toArray.setIfInBounds (off + k) z = (cells.set (off + k) z).toArray:=by simp
    simp only [e]
    rw [fold_ovr off zs (k + 1) _ (by simp;omega)]
    congr 1
    apply List.ext_getElem?
    intro j
    rw [ovr_get _ _ _ _ (by simp;omega),ovr_get _ _ _ _ (by simp;omega)]
    simp only [List.getElem?_set,List.length_cons]
    repeat' split
    all_goals first
      | rfl
      | (exfalso;omega)
      | (rename_i h1 _ _;subst h1;simp)
      | (rw [show j - (off + k) = (j - (off + (k + 1))) + 1 by omega];rfl)
      | (rw [show j - (off + k) = 0 by omega];rfl)
      | skip
end
end Go.V
