/-
  Calls that lend objects, whatever they hold, in regions that are drawn, too.
  An empty object, to be grown by rows that are still written.
  Many objects at once: those with the numbers below n (n at most 1000000; the others have greater ones). Renaming, freezing.
  Another test of a drawn region's order: by the slots that its operations name, where the numbers of objects are not known.
  Tables whose rows are slices of their own, still written: the rows are the objects below n.
  Functions that work on objects that are there: what comes of them from given arguments and memory.
  Lists with room behind them.
  Regions that draw their order, the last operation behind all others.
  A box that keeps the front of an object that nobody else keeps: the object cut to it.
  Boxes that keep a whole object: as a view of it from its front.
  Functions whose result is a new slice that nobody else has: it may go on being written.
  A call that cuts the room behind a slice of an object of the caller's.
  Regions that draw their order: operations that wait for each other through others.
  A call whose result is an empty slice without room, as an object.
  Nil slices, read as such; calls whose result is a view of a new object.
  One row of an array of rows, read otherwise.
  Nothing appended to a slice without room: that slice.
  Ranging over a map that the loop does not write: in whatever order the entries come.
  A slot, read with nothing known of capacities.
  Calls of functions that follow and change a list of numbers in an object: what they leave, in whatever memory they are called.
  Calls by body in a part of the memory: the other objects stay as they are.
  Slices in boxes, their capacity forgotten; whole ones as views.
  Many objects at once: those with the numbers from 2000000 on (less than 1000000 of them). Tables whose rows are such objects.
-/
import Derived.Laws.IdiomRangeMap
import Derived.Test.YthfacnlkecjodaaGreatPart3
set_option linter.unusedSimpArgs false
set_option linter.unusedVariables false
set_option linter.unnecessarySimpa false
set_option linter.deprecated false
namespace Go.Avl
open Go
def lendC(f:AV→AV)(cs:List AV):List AV:=if AV.norefs cs=true then cs else cs.map f
def lendR(f:AV→AV)(es:List (List AV)):List (List AV):=if es.all AV.norefs=true then es else es.map (·.map f)
def lendA(M:Mem):Nat→AV→AV
 | 0,v=>v
 | d+1,.tl i n b=>match mlook M i with
   | some (.arr _ es _)=>.sl b (lendR (lendA M d) es) .unk
   | _=>.tl i n b
 | d+1,.tv i n off len cap=>match mlook M i with
   | some (.arr _ es _)=>.sl false (tvEs (lendR (lendA M d) es) n off len) (tvCap len cap)
   | _=>.tv i n off len cap
 | d+1,.rf i off=>match mlook M i with
   | some (.cells cs)=>.ia ((lendC (lendA M d) cs).drop off)
   | _=>.rf i off
 | d+1,.fn f cs=>.fn f (lendC (lendA M d) cs)
 | d+1,.ag cs=>.ag (lendC (lendA M d) cs)
 | _+1,v=>v
def lendK(M:Mem):Nat→AV→Bool
 | 0,v=>v.noref
 | d+1,.tl i n _=>match mlook M i with
   | some (.arr _ es _)=>decide (n=es.length)&&(es.all AV.norefs||es.all fun c=>c.all (lendK M d))
   | _=>false
 | d+1,.tv i n _ _ _=>match mlook M i with
   | some (.arr _ es _)=>decide (n=es.length)&&(es.all AV.norefs||es.all fun c=>c.all (lendK M d))
   | _=>false
 | d+1,.rf i _=>match mlook M i with
   | some (.cells cs)=>AV.norefs cs||cs.all (lendK M d)
   | _=>false
 | d+1,.fn _ cs=>AV.norefs cs||cs.all (lendK M d)
 | d+1,.ag cs=>AV.norefs cs||cs.all (lendK M d)
 | _+1,v=>v.noref
def lendIs(f:AV→List Nat):List AV→List Nat
 | []=>[]
 | c::cs=>f c++lendIs f cs
def lendIss(f:AV→List Nat):List (List AV)→List Nat
 | []=>[]
 | c::cs=>lendIs f c++lendIss f cs
def lendI(M:Mem):Nat→AV→List Nat
 | 0,_=>[]
 | d+1,.tl i _ _=>i::match mlook M i with
   | some (.arr _ es _)=>if es.all AV.norefs=true then []else lendIss (lendI M d) es
   | _=>[]
 | d+1,.tv i _ _ _ _=>i::match mlook M i with
   | some (.arr _ es _)=>if es.all AV.norefs=true then []else lendIss (lendI M d) es
   | _=>[]
 | d+1,.rf i _=>i::match mlook M i with
   | some (.cells cs)=>if AV.norefs cs=true then []else lendIs (lendI M d) cs
   | _=>[]
 | d+1,.fn _ cs=>if AV.norefs cs=true then []else lendIs (lendI M d) cs
 | d+1,.ag cs=>if AV.norefs cs=true then []else lendIs (lendI M d) cs
 | _+1,_=>[]
section
variable {P:Program} {fr:Fr} {ro:Option Nat} {ds:DS} {st st':St} {Q Q':Exit→St→Prop} {G G':Nat→Option Value} {F F':Nat→Nat→Prop} {a:Act} {w w':World} {x y c:Code}
 {M M':Mem} {ops:Array Oper} {l rest:List Oper} {o:Oper} {id N:Nat} {rd:List Nat}
theorem lendIs_mem{f:AV→List Nat}{i:Nat}{v:AV}:∀{cs:List AV},v∈cs→i∈f v→i∈lendIs f cs
 | c::cs,h,hi=>by
   simp only[lendIs,List.mem_append];rcases List.mem_cons.1 h with rfl|h
   ·exact .inl hi
   ·exact .inr (lendIs_mem h hi)
theorem lendIss_mem{f:AV→List Nat}{i:Nat}{v:List AV}:∀{cs:List (List AV)},v∈cs→i∈lendIs f v→i∈lendIss f cs
 | c::cs,h,hi=>by
   simp only[lendIss,List.mem_append];rcases List.mem_cons.1 h with rfl|h
   ·exact .inl hi
   ·exact .inr (lendIss_mem h hi)
theorem lend_congr:∀(d:Nat) (v:AV),(∀i∈lendI M d v,mlook M' i=mlook M i)→lendA M' d v=lendA M d v∧lendK M' d v=lendK M d v
 | 0,v,_=>⟨rfl,rfl⟩
 | d+1,v,h=>by
   have cells:∀cs:List AV,(∀i∈(if AV.norefs cs=true then []else lendIs (lendI M d) cs),mlook M' i=mlook M i)→lendC (lendA M' d) cs=lendC (lendA M d) cs∧(AV.norefs cs||cs.all (lendK M' d))=(AV.norefs cs||cs.all (lendK M d)):=fun cs hc=>by
    unfold lendC;by_cases hn:AV.norefs cs=true
    ·rw[if_pos hn,if_pos hn,hn];exact⟨rfl,rfl⟩
    ·rw[if_neg hn]at hc;rw[if_neg hn,if_neg hn];have ih:∀c∈cs,lendA M' d c=lendA M d c∧lendK M' d c=lendK M d c:=fun c hc'=>lend_congr d c fun i hi=>hc i (lendIs_mem hc' hi);refine⟨List.map_congr_left fun c hc=>(ih c hc).1,?_⟩;congr 1;rw[Bool.eq_iff_iff,List.all_eq_true,List.all_eq_true];exact⟨fun h c hc=>by rw[←(ih c hc).2];exact h c hc,fun h c hc=>by rw[(ih c hc).2];exact h c hc⟩
   have rows:∀es:List (List AV),(∀i∈(if es.all AV.norefs=true then []else lendIss (lendI M d) es),mlook M' i=mlook M i)→lendR (lendA M' d) es=lendR (lendA M d) es∧(es.all AV.norefs||es.all fun c=>c.all (lendK M' d))=(es.all AV.norefs||es.all fun c=>c.all (lendK M d)):=fun es hc=>by
    unfold lendR;by_cases hn:es.all AV.norefs=true
    ·rw[if_pos hn,if_pos hn,hn];exact⟨rfl,rfl⟩
    ·rw[if_neg hn]at hc;rw[if_neg hn,if_neg hn];have ih:∀r∈es,∀c∈r,lendA M' d c=lendA M d c∧lendK M' d c=lendK M d c:=fun r hr c hc'=>lend_congr d c fun i hi=>hc i (lendIss_mem hr (lendIs_mem hc' hi));refine⟨List.map_congr_left fun r hr=>List.map_congr_left fun c hc=>(ih r hr c hc).1,?_⟩;congr 1;rw[Bool.eq_iff_iff,List.all_eq_true,List.all_eq_true];simp only[List.all_eq_true];exact⟨fun h r hr c hc=>by rw[←(ih r hr c hc).2];exact h r hr c hc,fun h r hr c hc=>by rw[(ih r hr c hc).2];exact h r hr c hc⟩
   cases v with
   | tl i n b=>
     simp only[lendI,List.mem_cons,forall_eq_or_imp]at h;obtain⟨h1,h2⟩:=h;simp only[lendA,lendK,h1];cases hM:mlook M i with
     | none=>exact⟨rfl,rfl⟩
     | some ob=>
       rw[hM]at h2;cases ob with
       | arr esz es fz=>obtain⟨e1,e2⟩:=rows es h2;simp only;rw[e1,e2];exact⟨rfl,rfl⟩
       | _=>exact⟨rfl,rfl⟩
   | tv i n off len cap=>
     simp only[lendI,List.mem_cons,forall_eq_or_imp]at h;obtain⟨h1,h2⟩:=h;simp only[lendA,lendK,h1];cases hM:mlook M i with
     | none=>exact⟨rfl,rfl⟩
     | some ob=>
       rw[hM]at h2;cases ob with
       | arr esz es fz=>obtain⟨e1,e2⟩:=rows es h2;simp only;rw[e1,e2];exact⟨rfl,rfl⟩
       | _=>exact⟨rfl,rfl⟩
   | rf i off=>
     simp only[lendI,List.mem_cons,forall_eq_or_imp]at h;obtain⟨h1,h2⟩:=h;simp only[lendA,lendK,h1];cases hM:mlook M i with
     | none=>exact⟨rfl,rfl⟩
     | some ob=>
       rw[hM]at h2;cases ob with
       | cells cs=>obtain⟨e1,e2⟩:=cells cs h2;simp only;rw[e1,e2];exact⟨rfl,rfl⟩
       | _=>exact⟨rfl,rfl⟩
   | fn f cs=>obtain⟨e1,e2⟩:=cells cs h;simp only[lendA,lendK];rw[e1,e2];exact⟨rfl,rfl⟩
   | ag cs=>obtain⟨e1,e2⟩:=cells cs h;simp only[lendA,lendK];rw[e1,e2];exact⟨rfl,rfl⟩
   | _=>exact⟨rfl,rfl⟩
theorem lendR_len(f:AV→AV)(es:List (List AV)):(lendR f es).length=es.length:=by unfold lendR;split<;>simp
theorem lendC_len(f:AV→AV)(cs:List AV):(lendC f cs).length=cs.length:=by unfold lendC;split<;>simp
theorem RV.lendA{nx:Nat}(hm:SimM P G F M nx w):∀(d:Nat) {v:Value} {y:AV},RV G F M w v y→lendK M d y=true→Imm (Avl.lend G F M) w v (Avl.lendA M d y)
 | 0,v,y,h,hk=>(h.imm_of hk).lend
 | d+1,v,y,h,hk=>by
   have cells:∀(vs:List Value) (cs:List AV),vs.length=cs.length→(∀i (h1:i<vs.length) (h2:i<cs.length),RV G F M w vs[i] cs[i])→(AV.norefs cs||cs.all (lendK M d))=true→
     vs.length=(lendC (Avl.lendA M d) cs).length∧∀i (h1:i<vs.length) (h2:i<(lendC (Avl.lendA M d) cs).length),Imm (Avl.lend G F M) w vs[i] (lendC (Avl.lendA M d) cs)[i]:=fun vs cs hl hr hc=>by
    refine⟨by rw[lendC_len];exact hl,fun i h1 h2=>?_⟩;have h2':i<cs.length:=by rw[lendC_len]at h2;exact h2
    by_cases hn:AV.norefs cs=true
    ·simp only[lendC,if_pos hn];exact((hr i h1 h2').imm_of (norefs_get _ hn i h2')).lend
    ·simp only[lendC,if_neg hn,List.getElem_map];have hn':AV.norefs cs=false:=by simpa using hn
     rw[hn',Bool.false_or,List.all_eq_true]at hc;exact RV.lendA hm d (hr i h1 h2') (hc _ (List.getElem_mem h2'))
   have rows:∀(es:List (List AV)),(es.all AV.norefs||es.all fun c=>c.all (lendK M d))=true→∀i (hi:i<es.length),∃hi':i<(lendR (Avl.lendA M d) es).length,(lendR (Avl.lendA M d) es)[i].length=es[i].length∧
     ∀j (hj:j<es[i].length) (hj':j<(lendR (Avl.lendA M d) es)[i].length) (v:Value),RV G F M w v es[i][j]→Imm (Avl.lend G F M) w v (lendR (Avl.lendA M d) es)[i][j]:=fun es hc i hi=>by
    refine⟨by rw[lendR_len];exact hi,?_⟩;by_cases hn:es.all AV.norefs=true
    ·simp only[lendR,if_pos hn];exact⟨trivial,fun j hj _ v hr=>(hr.imm_of (all_norefs hn i j hi hj)).lend⟩
    ·simp only[lendR,if_neg hn,List.getElem_map,List.length_map];have hn':es.all AV.norefs=false:=by simpa using hn
     rw[hn',Bool.false_or,List.all_eq_true]at hc;have hci:=hc _ (List.getElem_mem hi);rw[List.all_eq_true]at hci;exact⟨trivial,fun j hj _ v hr=>RV.lendA hm d hr (hci _ (List.getElem_mem hj))⟩
   cases y with
   | tl i n b=>
     simp only[lendK]at hk;cases hM:mlook M i with
     | none=>rw[hM]at hk;cases hk
     | some ob=>
       rw[hM]at hk;cases ob with
       | arr esz es fz=>
         simp only[Bool.and_eq_true,decide_eq_true_eq]at hk;obtain⟨hnl,hc⟩:=hk;simp only[Avl.lendA,hM];have hrows:=rows es hc;obtain⟨_,hh⟩:=h.inv_tl;obtain⟨hG,hb⟩:=(hh _ _ _ hM).2 hnl;rcases(hm.obj i _ hM).2 with⟨h0,base,h1,hsp⟩|⟨b',c,cc,e,h1,h2,h3,h4,h5,h6,h7,h8,h9⟩
         ·rw[hG]at h1;cases h1;subst h0;have:lendR (Avl.lendA M d) []=[]:=rfl;rw[this];cases base with
          | none=>simp[isNilSlice]at hb;subst hb;exact .nil _ (.inl rfl)
          | some a=>simp[isNilSlice]at hb;subst hb;exact .sz a .unk (.inl rfl)
         ·have hG1:=hG;rw[hG]at h1;cases h1;simp[isNilSlice]at hb;subst hb;have hown:Owned G M b':=⟨i,_,_,hM,hG1,by simp[blkOf,h2]⟩;have hlen:=lendR_len (Avl.lendA M d) es;have:=Imm.sl (F:=Avl.lend G F M) (w:=w) b' 0 c esz (lendR (Avl.lendA M d) es) .unk (fun i j=>(cc[i*esz+j]?).getD undef) (by rw[hlen];exact h4) (.inl rfl)
           (fun k hk=>by rw[hlen]at hk;obtain⟨_,q1,_⟩:=hrows k hk;rw[q1];exact h6 k hk)
           (fun k j hk hj=>by
            rw[hlen]at hk;refine⟨.inr hown,?_⟩;rw[cell?_block h3,Nat.zero_add];obtain⟨v,hv,h1c,_⟩:=h7 k j hk (by rw[h6 k hk];exact hj);rw[hv];exact⟨rfl,h1c⟩)
           (fun k j hk hj=>by
            have hk':=hk;rw[hlen]at hk';obtain⟨_,q1,q2⟩:=hrows k hk';obtain⟨v,hv,_,hr⟩:=h7 k j hk' (by rw[←q1];exact hj);rw[hv];exact q2 j (by rw[←q1];exact hj) hj v hr)
          rw[hlen]at this;exact this
       | _=>cases hk
   | tv i n off len cap=>
     simp only[lendK]at hk;cases hM:mlook M i with
     | none=>rw[hM]at hk;cases hk
     | some ob=>
       rw[hM]at hk;cases ob with
       | arr esz es fz=>
         simp only[Bool.and_eq_true,decide_eq_true_eq]at hk;obtain⟨hnl,hc⟩:=hk;simp only[Avl.lendA,hM];have hrows:=rows es hc;obtain⟨_,hh⟩:=h.inv_tv;obtain⟨hol,b',c,hG,hc0,c',rfl,hlc,hcp⟩:=(hh _ _ _ hM).2 hnl;rcases hc0 with hc0|⟨hc0,hc2,hc1⟩
         rotate_left
         ·subst hc2;simp only[Value.slice.injEq]at hc1;obtain⟨_,rfl,rfl⟩:=hc1;have:es=[]:=List.length_eq_zero_iff.1 (by omega);subst this;have e1:tvEs (lendR (Avl.lendA M d) ([]:List (List AV))) n off 0=[]:=by unfold tvEs lendR;split<;>simp
          rw[e1];exact .sz _ _ (by simp[tvCap])
         rcases(hm.obj i _ hM).2 with⟨h0,base,h1,hsp⟩|⟨b2,c2,cc,e,h1,h2,h3,h4,h5,h6,h7,h8,h9⟩
         ·rw[hG]at h1;cases h1;exact absurd rfl hc0
         ·have hown:Owned G M b':=⟨i,_,_,hM,hG,by simp[blkOf,hc0]⟩;rw[hG]at h1;cases h1;have hnl':es.length=(lendR (Avl.lendA M d) es).length:=(lendR_len _ _).symm;have hlen:=tvEs_len hol hnl';have hget:=tvEs_get hol hnl';have:=Imm.sl (F:=Avl.lend G F M) (w:=w) b' (off*esz) c' esz (tvEs (lendR (Avl.lendA M d) es) es.length off len) (tvCap len cap) (fun i j=>(cc[(off+i)*esz+j]?).getD undef) (by rw[hlen];exact hlc)
           (by
            rcases hcp with rfl|rfl|⟨rfl,_⟩
            ·exact .inl rfl
            ·simp only[tvCap];by_cases e:c'=len
             ·rw[if_pos e,hlen];exact .inr (.inr (.inl ⟨rfl,e⟩))
             ·rw[if_neg e];exact .inl rfl
            ·exact .inl rfl)
           (fun k hk=>by
            rw[hget k hk];rw[hlen]at hk;obtain⟨_,q1,_⟩:=hrows (off+k) (by omega);rw[q1];exact h6 _ _)
           (fun k j hk hj=>by
            rw[hlen]at hk;have hk2:off+k<es.length:=by omega
            rw[show off*esz+k*esz+j=(off+k)*esz+j by rw[Nat.add_mul]];refine⟨.inr hown,?_⟩;rw[cell?_block h3];obtain⟨v,hv,h1c,_⟩:=h7 (off+k) j hk2 (by rw[h6 _ hk2];exact hj);rw[hv];exact⟨rfl,h1c⟩)
           (fun k j hk hj=>by
            have hk':=hk;rw[hlen]at hk';have hk2:off+k<es.length:=by omega
            simp only[hget k hk]at hj⊢;obtain⟨_,q1,q2⟩:=hrows (off+k) hk2;obtain⟨v,hv,_,hr⟩:=h7 (off+k) j hk2 (by rw[←q1];exact hj);rw[hv];exact q2 j (by rw[←q1];exact hj) hj v hr)
          rw[hlen]at this;exact this
       | _=>cases hk
   | rf i off=>
     simp only[lendK]at hk;cases hM:mlook M i with
     | none=>rw[hM]at hk;cases hk
     | some ob=>
       rw[hM]at hk;cases ob with
       | cells cs=>
         simp only[Avl.lendA,hM];obtain⟨b,hG,rfl⟩:=h.inv_rf;obtain⟨b',cc,e,h1,h2,h3,h4,h5⟩:=(hm.obj i _ hM).2;have hown:Owned G M b':=⟨i,_,_,hM,h1,rfl⟩;rw[hG]at h1;cases h1;obtain⟨q1,q2⟩:=cells cc.toList cs (by simpa using h3) (fun i h1 h2=>by simpa using h4 i (by simpa using h1) h2) hk;refine .ia b off _ (fun j=>(cc[off+j]?).getD undef) (fun j hj=>?_) (fun j hj=>?_)
         ·simp only[List.length_drop,←q1,Array.length_toList]at hj;refine⟨.inr hown,?_⟩;rw[cell?_block h2,Array.getElem?_eq_getElem (by omega)];rfl
         ·have hj':=hj;simp only[List.length_drop,←q1,Array.length_toList]at hj';have:=q2 (off+j) (by simp;omega) (by rw[←q1];simp;omega);simp only[List.getElem_drop];rw[Array.getElem?_eq_getElem (by omega)];simpa using this
       | _=>cases hk
   | fn f cs=>
     obtain⟨vs,rfl,hl,hcs⟩:=h.inv_fn;obtain⟨q1,q2⟩:=cells vs cs hl hcs hk;exact .fn f vs _ q1 q2
   | ag cs=>
     obtain⟨vs,rfl,hl,hcs⟩:=h.inv_ag;obtain⟨q1,q2⟩:=cells vs cs hl hcs hk;exact .ag vs _ q1 q2
   | _=>exact(h.imm_of hk).lend
theorem PureIs.frSc{f:FuncId}{args:List AV}{v:Value}(h:PureIs P f args (.sc v)):PureFr P f args (.sc v):=
 ⟨h.1,fun F w vals hF hi=>(h.2 F w vals hF hi).mono fun _ w' ⟨u,F',he,hv,g⟩=>by
  have hu:u=v:=by cases hv;rfl
  subst hu;exact⟨u,fun b o=>F' b o∧w.heap.size≤b,he,.sc _,fun b o h=>⟨h.2,g.inF b o h.1⟩,
   ⟨g.size,g.old,fun b o h=>.inl h,fun b o h=>h.elim .inl fun h=>.inr h.2,fun b o h=>h.elim (fun h=>Nat.lt_of_lt_of_le (hF.1 b o h) g.size) fun h=>g.inF b o h.1,g.kept⟩⟩⟩
def argsD(fr:Fr)(st:St)(d:Nat)(args:Array Operand):List AV:=args.toList.map fun x=>lendA st.mem d (od fr st true x)
def argsK(fr:Fr)(st:St)(d:Nat)(args:Array Operand):Bool:=args.toList.all fun x=>lendK st.mem d (od fr st true x)
def argsI(fr:Fr)(st:St)(d:Nat):List Operand→List Nat
 | []=>[]
 | x::xs=>odds (lendI st.mem d (od fr st true x))++argsI fr st d xs
def rdL(fr:Fr)(st:St)(d:Nat)(gs:List Nat)(o:Oper)(args:Array Operand):List Nat:=gs++(opSlots o.op.operands.toList++argsI fr st d args.toList)
theorem argsI_mem{d:Nat}{x:Operand}{i:Nat}:∀{xs:List Operand},x∈xs→i∈lendI st.mem d (od fr st true x)→2*i+1∈argsI fr st d xs
 | y::xs,h,hi=>by
   simp only[argsI,List.mem_append];rcases List.mem_cons.1 h with rfl|h
   ·exact .inl (odds_mem hi)
   ·exact .inr (argsI_mem h hi)
theorem SimD.callD{f:FuncId}{callee:Operand}{args:Array Operand}{tys:Array TypeId}{xs:List AV}{r:AV}{d:Nat}{K:Act→World→Prop}{Q1:Exit→Act→World→Prop}
  (s:SimD P fr ds G F st N a w)(hop:o.op=.call ⟨.value callee,args,tys⟩)(hd:dok fr o.dst=true)(hcal:od fr st true callee=.fn f [])
  (hxs:argsD fr st d args=xs)(hk:argsK fr st d args=true)(hc:PureFr P f xs r)
  (h:∀G' F' a' w',SimD P fr ds G' F' (run1 fr o.dst ⟨r,none⟩ st) N a' w'→Step All G F st.mem w G' F' (run1 fr o.dst ⟨r,none⟩ st).mem w'→(∀j,j≠id→G j=none→G' j=none)→K a' w'):o.wpIn (fc ro) 0 P a w K Q1:=by
 refine⟨fun _ _=>trivial,?_⟩;rw[Oper.semAt_eq _ _ _ (by rw[hop];intro c h;cases h)];have hv:=(s.eval callee).unopt;have hv:RV G F st.mem w (a.eval callee) (.fn f []):=by unfold od at hcal;rwa[hcal]at hv
 obtain⟨vs,hev,hl,_⟩:=hv.inv_fn
 have hvs:vs=[]:=by cases vs with
  | nil=>rfl
  | cons a l=>simp at hl
 subst hvs;have hrun:(execOp a.eval o).run P w=.ok (.enter f ((args.toList.map a.eval).toArray)) w:=by
  obtain⟨dst,op,ty,pos,after,guard⟩:=o;simp only at hop;subst hop;simp only[execOp,resolve,hev,Deferred.ofValue,Sem.run_bind,Sem.run_pure,Result.andThen_ok,invoke];rw[hc.1];congr 2;apply Array.ext';simp
 rw[hrun];have hi:Imms (Avl.lend G F st.mem) w (args.toList.map a.eval) xs:=by
  subst hxs;refine⟨by simp[argsD],fun i h1 h2=>?_⟩;simp only[argsD,List.getElem_map]at h2⊢;unfold argsK at hk;rw[List.all_eq_true]at hk;exact RV.lendA s.mem d (s.eval _).unopt (hk _ (List.getElem_mem _))
 have hin:∀b o,Avl.lend G F st.mem b o→b<w.heap.size:=fun b o h=>h.elim (s.mem.inF b o) fun h=>s.mem.lt h;refine⟨fun h=>by simp[fc,Fence.wide]at h,callsIn_fc ((hc.2 _ w _ ⟨hin,s.mem.gl.mono (fun _ _ h=>.inl h) fun _ _ _=>rfl⟩ hi).mono ?_)⟩;rintro e w' ⟨v,Fr,rfl,hv,hFr,g⟩;have g':=s.mem.frGrown g hFr;obtain⟨hm',S'⟩:=simM_grown s.mem g';obtain⟨s1,S1⟩:=s.put (d:=o.dst) (r:=⟨r,none⟩) (u:=v) hm' (fun _=>rfl) S' hd (.imm (hv.mono (fun _ _ h=>.inr h) fun _ _ _=>rfl));exact h G _ _ w' s1 S1 (fun _ _ h=>h)
theorem OpIs.callD{f:FuncId}{callee:Operand}{args:Array Operand}{tys:Array TypeId}{xs:List AV}{v:AV}(d:Nat)(hg:o.guard=none)(hop:o.op=.call ⟨.value callee,args,tys⟩)(hd:dok fr o.dst=true)
  (hcal:od fr st true callee=.fn f [])(hxs:argsD fr st d args=xs)(hk:argsK fr st d args=true)(hrd:rdL fr st d [] o args=rd)(hc:PureFr P f xs v):OpIs P fr ro ds ops id st ⟨o,⟨v,none⟩,rd⟩:=by
 intro st' G F a w N K Q1 s hN hG hl h;simp only[Region.wanted,hg,if_true];have hslot:∀x∈o.op.operands.toList,opnd fr st' x=opnd fr st x:=fun x hx=>by
  cases x with
  | tmp t=>exact look_slot (hl _ (by simp only;rw[←hrd];unfold rdL;exact List.mem_append_right _ (List.mem_append_left _ (opSlots_mem hx))))
  | _=>rfl
 rw[hop]at hslot;have hodc:od fr st' true callee=od fr st true callee:=by unfold od;rw[hslot callee (by simp[Op.operands,Call.operands])]
 have hoda:∀x∈args.toList,od fr st' true x=od fr st true x:=fun x hx=>by
  unfold od;rw[hslot x (by simp only[Op.operands,Call.operands];simp;exact .inr (by simpa using hx))]
 have hcg:∀x∈args.toList,lendA st'.mem d (od fr st' true x)=lendA st.mem d (od fr st true x)∧lendK st'.mem d (od fr st' true x)=lendK st.mem d (od fr st true x):=fun x hx=>by
  rw[hoda x hx];exact lend_congr d _ fun i hi=>look_obj (hl _ (by simp only;rw[←hrd];unfold rdL;exact List.mem_append_right _ (List.mem_append_right _ (argsI_mem hx hi))))
 refine s.callD (d:=d) hop hd (by rw[hodc];exact hcal) ?_ ?_ hc h
 ·rw[←hxs];unfold argsD;exact List.map_congr_left fun x hx=>(hcg x hx).1
 ·rw[←hk];unfold argsK;rw[Bool.eq_iff_iff,List.all_eq_true,List.all_eq_true];exact⟨fun h x hx=>by rw[←(hcg x hx).2];exact h x hx,fun h x hx=>by rw[(hcg x hx).2];exact h x hx⟩
end
attribute [go_sem] lendC lendR lendA lendK lendIs lendIss lendI argsD argsK argsI rdL
def St.thaw(i:Nat)(st:St):Option St:=
 match mlook st.mem i with
 | some (.arr esz [] _)=>some ⟨st.vars,st.tmps,mset st.mem i (.arr esz [] false),st.nx⟩
 | _=>none
def St.snapE(j k:Nat)(st:St):Option St:=
 match mlook st.mem j with
 | some (.arr esz es false)=>match es[k]? with
   | some c=>some ⟨st.vars,st.tmps,mset st.mem j (.arr esz (es.set k (c.map (AV.deep (snap st.mem)))) false),st.nx⟩
   | none=>none
 | _=>none
section
variable {P:Program} {fr:Fr} {ro:Option Nat} {ds:DS} {st st':St} {Q Q':Exit→St→Prop} {G G':Nat→Option Value} {F F':Nat→Nat→Prop} {a:Act} {w w':World} {x y c:Code} {M:Mem}
theorem simM_thaw{nx i esz:Nat}{fz:Bool}(hm:SimM P G F M nx w)(ho:mlook M i=some (.arr esz [] fz)):
  SimM P G F (mset M i (.arr esz [] false)) nx w∧Step All G F M w G F (mset M i (.arr esz [] false)) w:=by
 have hold:=(hm.obj i _ ho).2;have S:Step All G F M w G F (mset M i (.arr esz [] false)) w:=
  { kept:=.refl
    size:=Nat.le_refl _
    out:=fun _ _ _=>rfl
    F1:=fun _ _ h=>h
    F2:=fun _ _ _=>rfl
    F3:=fun b o h=>.inl h
    own:=fun b ⟨id,o,v,h3,h4,h5⟩=>by
     rw[mlook_mset]at h3;by_cases hi:id=i
     ·subst hi;exact .inr ⟨id,_,v,ho,h4,h5⟩
     ·rw[if_neg hi]at h3;exact .inr ⟨id,o,v,h3,h4,h5⟩
    some':=fun _ _ h=>h
    same:=fun _ _ _ h _=>h
    keep:=fun id o' _ hG h3=>by
     obtain⟨v,hv⟩:=Option.ne_none_iff_exists'.1 hG;rw[mlook_mset]at h3;by_cases hi:id=i
     ·subst hi;rw[if_pos rfl]at h3;cases h3;exact⟨_,v,v,ho,hv,hv,⟨rfl,.inl ⟨rfl,rfl⟩⟩⟩
     ·rw[if_neg hi]at h3;exact⟨o',v,v,h3,hv,hv,objKeep.refl v o'⟩ }
 have hinj:∀id id' v v' b,mlook (mset M i (.arr esz [] false)) id≠none→mlook (mset M i (.arr esz [] false)) id'≠none→G id=some v→G id'=some v'→blkOf v=some b→blkOf v'=some b→id=id':=by
  intro id id' v v' b h1 h2;refine hm.inj id id' v v' b ?_ ?_
  ·rw[mlook_mset]at h1;by_cases hi:id=i
   ·subst hi;rw[ho];simp
   ·rwa[if_neg hi]at h1
  ·rw[mlook_mset]at h2;by_cases hi:id'=i
   ·subst hi;rw[ho];simp
   ·rwa[if_neg hi]at h2
 refine⟨simM_gen hm S (fun id o' h=>?_) hinj hm.inF,S⟩;rw[mlook_mset]at h;by_cases hi:id=i
 ·subst hi;rw[if_pos rfl]at h;cases h;refine⟨(hm.obj id _ ho).1,.inl ?_⟩;rcases hold with h|⟨b,c,cc,e,h1,h2,h3,h4,h5,h6,h7,h8,h9⟩
  ·exact .inl h
  ·exact .inr ⟨b,c,cc,e,h1,h2,h3,h4,h5,h6,fun k j hk=>absurd hk (Nat.not_lt_zero _),fun o h=>absurd (h8 o h).2 (by simp),fun h=>(by cases h)⟩
 ·rw[if_neg hi]at h;exact⟨(hm.obj id _ h).1,.inr ⟨h,rfl,fun b v hG hb=>⟨rfl,fun _ h=>h⟩⟩⟩
theorem SimA.thaw{i:Nat}(s:SimA P fr ds G F st a w)(h:st.thaw i=some st'):SimA P fr ds G F st' a w∧Step (·<fr.base) G F st.mem w G F st'.mem w:=by
 unfold St.thaw at h;split at h
 ·rename_i esz fz ho;cases h;obtain⟨hm',S'⟩:=simM_thaw s.sim.mem ho;exact⟨⟨⟨hm',fun k=>(s.sim.slots k).step S' (fun _ _=>trivial),s.sim.size⟩,s.fresh,s.defers⟩,S'.mono fun _ _=>trivial⟩
 ·cases h
theorem EvC.thaw(i:Nat)(h:st.thaw i=some st')(hc:EvC P fr ro ds c st' Q):EvC P fr ro ds c st Q:=
 EvC.conv (fun _ _ _ _ s=>let⟨s',S'⟩:=s.thaw h;⟨_,_,s',S'⟩) hc
theorem simM_snapE{nx j esz k:Nat}{es:List (List AV)}{c0:List AV}(hm:SimM P G F M nx w)(ho:mlook M j=some (.arr esz es false))(hk:es[k]?=some c0):
  SimM P G F (mset M j (.arr esz (es.set k (c0.map (AV.deep (snap M)))) false)) nx w∧Step All G F M w G F (mset M j (.arr esz (es.set k (c0.map (AV.deep (snap M)))) false)) w:=by
 obtain⟨es',hes⟩:∃es',es'=es.set k (c0.map (AV.deep (snap M))):=⟨_,rfl⟩;rw[←hes];have hle:es'.length=es.length:=by rw[hes,List.length_set]
 have hold:=(hm.obj j _ ho).2;have S:Step All G F M w G F (mset M j (.arr esz es' false)) w:=
  { kept:=.refl
    size:=Nat.le_refl _
    out:=fun _ _ _=>rfl
    F1:=fun _ _ h=>h
    F2:=fun _ _ _=>rfl
    F3:=fun b o h=>.inl h
    own:=fun b ⟨id,o,v,h3,h4,h5⟩=>by
     rw[mlook_mset]at h3;by_cases hi:id=j
     ·subst hi;exact .inr ⟨id,_,v,ho,h4,h5⟩
     ·rw[if_neg hi]at h3;exact .inr ⟨id,o,v,h3,h4,h5⟩
    some':=fun _ _ h=>h
    same:=fun _ _ _ h _=>h
    keep:=fun id o' _ hG h3=>by
     obtain⟨v,hv⟩:=Option.ne_none_iff_exists'.1 hG;rw[mlook_mset]at h3;by_cases hi:id=j
     ·subst hi;rw[if_pos rfl]at h3;cases h3;exact⟨_,v,v,ho,hv,hv,⟨rfl,.inl ⟨hle,rfl⟩⟩⟩
     ·rw[if_neg hi]at h3;exact⟨o',v,v,h3,hv,hv,objKeep.refl v o'⟩ }
 have hinj:∀id id' v v' b,mlook (mset M j (.arr esz es' false)) id≠none→mlook (mset M j (.arr esz es' false)) id'≠none→G id=some v→G id'=some v'→blkOf v=some b→blkOf v'=some b→id=id':=by
  intro id id' v v' b h1 h2;refine hm.inj id id' v v' b ?_ ?_
  ·rw[mlook_mset]at h1;by_cases hi:id=j
   ·subst hi;rw[ho];simp
   ·rwa[if_neg hi]at h1
  ·rw[mlook_mset]at h2;by_cases hi:id'=j
   ·subst hi;rw[ho];simp
   ·rwa[if_neg hi]at h2
 refine⟨simM_gen hm S (fun id o' h=>?_) hinj hm.inF,S⟩;rw[mlook_mset]at h;by_cases hi:id=j
 ·subst hi;rw[if_pos rfl]at h;cases h;refine⟨(hm.obj id _ ho).1,.inl ?_⟩;have hkl:k<es.length:=(List.getElem?_eq_some_iff.1 hk).1;have hke:es[k]=c0:=by rw[List.getElem?_eq_getElem hkl]at hk;exact Option.some.inj hk
  rcases hold with⟨h0,_⟩|⟨b,c,cc,e,h1,h2,h3,h4,h5,h6,h7,h8,h9⟩
  ·rw[h0]at hkl;exact absurd hkl (Nat.not_lt_zero _)
  ·refine .inr ⟨b,c,cc,e,by rw[hle];exact h1,h2,h3,by rw[hle];exact h4,h5,fun i hi'=>?_,fun i l hi' hl'=>?_,fun o h=>absurd (h8 o h).1 (by simp),fun h=>(by cases h)⟩
   ·have hi2:i<es.length:=by rw[←hle];exact hi'
    simp only[hes,List.getElem_set];split
    ·rename_i e1;subst e1;rw[List.length_map,←hke];exact h6 _ hi2
    ·exact h6 _ hi2
   ·have hi2:i<es.length:=by rw[←hle];exact hi'
    by_cases e1:k=i
    ·subst e1;have e2:es'[k]=es[k].map (AV.deep (snap M)):=by simp[hes,hke]
     have hl2:l<es[k].length:=by rw[e2,List.length_map]at hl';exact hl'
     obtain⟨v,k1,k2,k3⟩:=h7 k l hi2 hl2;refine⟨v,k1,k2,?_⟩;have e3:es'[k][l]=AV.deep (snap M) es[k][l]:=by simp[e2]
     rw[e3];exact(k3.deep fun v y h=>h.snap hm).step S fun _ _=>trivial
    ·have e2:es'[i]=es[i]:=by simp[hes,e1]
     have hl2:l<es[i].length:=by rw[e2]at hl';exact hl'
     obtain⟨v,k1,k2,k3⟩:=h7 i l hi2 hl2;have e3:es'[i][l]=es[i][l]:=by simp[e2]
     exact⟨v,k1,k2,by rw[e3];exact k3.step S fun _ _=>trivial⟩
 ·rw[if_neg hi]at h;exact⟨(hm.obj id _ h).1,.inr ⟨h,rfl,fun b v hG hb=>⟨rfl,fun _ h=>h⟩⟩⟩
theorem SimA.snapE{j k:Nat}(s:SimA P fr ds G F st a w)(h:st.snapE j k=some st'):SimA P fr ds G F st' a w∧Step (·<fr.base) G F st.mem w G F st'.mem w:=by
 unfold St.snapE at h;split at h
 ·rename_i esz es ho;split at h
  ·rename_i c0 hk;cases h;obtain⟨hm',S'⟩:=simM_snapE s.sim.mem ho hk;exact⟨⟨⟨hm',fun k=>(s.sim.slots k).step S' (fun _ _=>trivial),s.sim.size⟩,s.fresh,s.defers⟩,S'.mono fun _ _=>trivial⟩
  ·cases h
 ·cases h
theorem EvC.snapE(j k:Nat)(h:st.snapE j k=some st')(hc:EvC P fr ro ds c st' Q):EvC P fr ro ds c st Q:=
 EvC.conv (fun _ _ _ _ s=>let⟨s',S'⟩:=s.snapE h;⟨_,_,s',S'⟩) hc
end
attribute [go_sem] St.snapE
attribute [go_sem] St.thaw
def msegA:Nat→List RObj→Mem
 | _,[]=>[]
 | b,o::r=>(b,o)::msegA (b+1) r
def mseg(l:List RObj):Mem:=msegA 0 l
theorem mlook_msegA:∀(l:List RObj) (b i:Nat),mlook (msegA b l) i=if b≤i then l[i-b]? else none
 | [],b,i=>by simp[msegA,mlook]
 | o::r,b,i=>by
   simp only[msegA,mlook];by_cases h:i=b
   ·subst h;simp
   ·rw[if_neg h,mlook_msegA r (b+1) i];by_cases h2:b≤i
    ·rw[if_pos (by omega),if_pos h2,show i-b=(i-(b+1))+1 by omega];rfl
    ·rw[if_neg (by omega),if_neg h2]
theorem mlook_mseg(l:List RObj)(i:Nat):mlook (mseg l) i=l[i]?:=by rw[mseg,mlook_msegA,if_pos (Nat.zero_le _),Nat.sub_zero]
theorem mset_msegA:∀(l:List RObj) (b i:Nat) (o:RObj),b≤i→i<b+l.length→mset (msegA b l) i o=msegA b (l.set (i-b) o)
 | [],b,i,o,h1,h2=>by simp at h2;omega
 | x::r,b,i,o,h1,h2=>by
   simp only[msegA,mset];by_cases h:i=b
   ·subst h;simp[msegA]
   ·rw[if_neg h,mset_msegA r (b+1) i o (by omega) (by simp at h2;omega),show i-b=(i-(b+1))+1 by omega];rfl
theorem msegA_append:∀(l r:List RObj) (b:Nat),msegA b (l++r)=msegA b l++msegA (b+l.length) r
 | [],r,b=>by simp[msegA]
 | x::l,r,b=>by simp only[List.cons_append,msegA,msegA_append l r (b+1),List.length_cons];rw[show b+1+l.length=b+(l.length+1) by omega]
def idK(n:Nat):List (Nat×Nat):=(List.range n).map fun i=>(i,i)
def segK(A:List (Nat×Nat))(n:Nat)(B:List (Nat×Nat)):List (Nat×Nat):=A++(idK n++B)
theorem rlook_append(A B:List (Nat×Nat))(k:Nat):rlook (A++B) k=(rlook A k).or (rlook B k):=by
 induction A with
 | nil=>simp[rlook]
 | cons p A ih=>
   obtain⟨i,j⟩:=p;simp only[List.cons_append,rlook];split
   ·rfl
   ·exact ih
theorem blook_append(A B:List (Nat×Nat))(k:Nat):blook (A++B) k=(blook A k).or (blook B k):=by
 induction A with
 | nil=>simp[blook]
 | cons p A ih=>
   obtain⟨i,j⟩:=p;simp only[List.cons_append,blook];split
   ·rfl
   ·exact ih
theorem renMem_append(M:Mem)(K:List (Nat×Nat)):∀(A B:List (Nat×Nat)),renMem M K (A++B)=renMem M K A++renMem M K B
 | [],B=>rfl
 | (i,j)::A,B=>by
   simp only[List.cons_append,renMem,renMem_append M K A B];split<;>simp
theorem renMem_segK(M:Mem)(A B:List (Nat×Nat))(n:Nat):renMem M (segK A n B) (segK A n B)=renMem M (segK A n B) A++(renMem M (segK A n B) (idK n)++renMem M (segK A n B) B):=by
 conv=>lhs;arg 3;rw[segK]
 rw[renMem_append,renMem_append]
theorem renMem_congr{M M':Mem}(K:List (Nat×Nat)):∀{K':List (Nat×Nat)},(∀p∈K',mlook M p.1=mlook M' p.1)→renMem M K K'=renMem M' K K'
 | [],_=>rfl
 | (i,j)::K',h=>by
   simp only[renMem];rw[h (i,j) List.mem_cons_self,renMem_congr K fun p hp=>h p (List.mem_cons_of_mem _ hp)]
theorem gcOk_append{base nx:Nat}:∀{A B:List (Nat×Nat)},gcOk base nx A=true→gcOk base nx B=true→(∀p∈A,blook B p.2=none∧rlook B p.1=none)→gcOk base nx (A++B)=true
 | [],B,_,h,_=>h
 | (i,j)::A,B,h1,h2,h3=>by
   simp only[gcOk,Bool.and_eq_true,beq_iff_eq]at h1;have h4:=h3 (i,j) List.mem_cons_self;simp only[List.cons_append,gcOk,Bool.and_eq_true,beq_iff_eq];refine⟨⟨⟨h1.1.1.1,?_⟩,?_⟩,gcOk_append h1.2 h2 fun p hp=>h3 p (List.mem_cons_of_mem _ hp)⟩
   ·rw[blook_append,h1.1.1.2,h4.1];rfl
   ·rw[rlook_append,h1.1.2,h4.2];rfl
def RObj.fzn:RObj→RObj
 | .arr esz es _=>.arr esz es true
 | o=>o
def St.snapA(j:Nat)(st:St):Option St:=
 match mlook st.mem j with
 | some (.arr esz es false)=>some ⟨st.vars,st.tmps,mset st.mem j (.arr esz (es.map fun c=>c.map (AV.deep (snap st.mem))) false),st.nx⟩
 | _=>none
section
variable {P:Program} {fr:Fr} {ro:Option Nat} {ds:DS} {st st':St} {Q Q':Exit→St→Prop} {G G':Nat→Option Value} {F F':Nat→Nat→Prop} {a:Act} {w w':World} {x y c:Code} {M:Mem}
theorem simM_snapA{nx j esz:Nat}{es:List (List AV)}(hm:SimM P G F M nx w)(ho:mlook M j=some (.arr esz es false)):
  SimM P G F (mset M j (.arr esz (es.map fun c=>c.map (AV.deep (snap M))) false)) nx w∧Step All G F M w G F (mset M j (.arr esz (es.map fun c=>c.map (AV.deep (snap M))) false)) w:=by
 obtain⟨es',hes⟩:∃es',es'=es.map fun c=>c.map (AV.deep (snap M)):=⟨_,rfl⟩;rw[←hes];have hle:es'.length=es.length:=by rw[hes,List.length_map]
 have hold:=(hm.obj j _ ho).2;have S:Step All G F M w G F (mset M j (.arr esz es' false)) w:=
  { kept:=.refl
    size:=Nat.le_refl _
    out:=fun _ _ _=>rfl
    F1:=fun _ _ h=>h
    F2:=fun _ _ _=>rfl
    F3:=fun b o h=>.inl h
    own:=fun b ⟨id,o,v,h3,h4,h5⟩=>by
     rw[mlook_mset]at h3;by_cases hi:id=j
     ·subst hi;exact .inr ⟨id,_,v,ho,h4,h5⟩
     ·rw[if_neg hi]at h3;exact .inr ⟨id,o,v,h3,h4,h5⟩
    some':=fun _ _ h=>h
    same:=fun _ _ _ h _=>h
    keep:=fun id o' _ hG h3=>by
     obtain⟨v,hv⟩:=Option.ne_none_iff_exists'.1 hG;rw[mlook_mset]at h3;by_cases hi:id=j
     ·subst hi;rw[if_pos rfl]at h3;cases h3;exact⟨_,v,v,ho,hv,hv,⟨rfl,.inl ⟨hle,rfl⟩⟩⟩
     ·rw[if_neg hi]at h3;exact⟨o',v,v,h3,hv,hv,objKeep.refl v o'⟩ }
 have hinj:∀id id' v v' b,mlook (mset M j (.arr esz es' false)) id≠none→mlook (mset M j (.arr esz es' false)) id'≠none→G id=some v→G id'=some v'→blkOf v=some b→blkOf v'=some b→id=id':=by
  intro id id' v v' b h1 h2;refine hm.inj id id' v v' b ?_ ?_
  ·rw[mlook_mset]at h1;by_cases hi:id=j
   ·subst hi;rw[ho];simp
   ·rwa[if_neg hi]at h1
  ·rw[mlook_mset]at h2;by_cases hi:id'=j
   ·subst hi;rw[ho];simp
   ·rwa[if_neg hi]at h2
 refine⟨simM_gen hm S (fun id o' h=>?_) hinj hm.inF,S⟩;rw[mlook_mset]at h;by_cases hi:id=j
 ·subst hi;rw[if_pos rfl]at h;cases h;refine⟨(hm.obj id _ ho).1,.inl ?_⟩;rcases hold with⟨h0,h0'⟩|⟨b,c,cc,e,h1,h2,h3,h4,h5,h6,h7,h8,h9⟩
  ·exact .inl ⟨by rw[hes,h0];rfl,h0'⟩
  ·refine .inr ⟨b,c,cc,e,by rw[hle];exact h1,h2,h3,by rw[hle];exact h4,h5,fun i hi'=>?_,fun i l hi' hl'=>?_,fun o h=>absurd (h8 o h).1 (by simp),fun h=>(by cases h)⟩
   ·have hi2:i<es.length:=by rw[←hle];exact hi'
    simp only[hes,List.getElem_map,List.length_map];exact h6 _ hi2
   ·have hi2:i<es.length:=by rw[←hle];exact hi'
    have e2:es'[i]=es[i].map (AV.deep (snap M)):=by simp[hes]
    have hl2:l<es[i].length:=by rw[e2,List.length_map]at hl';exact hl'
    obtain⟨v,k1,k2,k3⟩:=h7 i l hi2 hl2;refine⟨v,k1,k2,?_⟩;have e3:es'[i][l]=AV.deep (snap M) es[i][l]:=by simp[e2]
    rw[e3];exact(k3.deep fun v y h=>h.snap hm).step S fun _ _=>trivial
 ·rw[if_neg hi]at h;exact⟨(hm.obj id _ h).1,.inr ⟨h,rfl,fun b v hG hb=>⟨rfl,fun _ h=>h⟩⟩⟩
theorem SimA.snapA{j:Nat}(s:SimA P fr ds G F st a w)(h:st.snapA j=some st'):SimA P fr ds G F st' a w∧Step (·<fr.base) G F st.mem w G F st'.mem w:=by
 unfold St.snapA at h;split at h
 ·rename_i esz es ho;cases h;obtain⟨hm',S'⟩:=simM_snapA s.sim.mem ho;exact⟨⟨⟨hm',fun k=>(s.sim.slots k).step S' (fun _ _=>trivial),s.sim.size⟩,s.fresh,s.defers⟩,S'.mono fun _ _=>trivial⟩
 ·cases h
theorem EvC.snapA(j:Nat)(h:st.snapA j=some st')(hc:EvC P fr ro ds c st' Q):EvC P fr ro ds c st Q:=
 EvC.conv (fun _ _ _ _ s=>let⟨s',S'⟩:=s.snapA h;⟨_,_,s',S'⟩) hc
end
attribute [go_sem] St.snapA mlook_mseg renMem_segK
def slotsOf(ops:List It)(o:Oper):List Nat:=opSlots o.op.operands.toList++match o.guard with
 | some (j,_)=>match ops[j]? with
   | some u=>match u.o.dst with
     | some k=>[2*k]
     | none=>[]
   | none=>[]
 | none=>[]
def dstC(o:Oper):List Nat:=match o.dst with
 | some k=>[2*k]
 | none=>[]
def rdOk(ops:List It)(t:It):Bool:=t.rd.all fun x=>(x%2==1&&!memless t.o.op)||(slotsOf ops t.o).contains x
def confT(ops:List It)(i:Nat)(t:It):Nat→List It→Bool
 | _,[]=>true
 | m,u::l=>(i==m||(depsOf t.o).contains m||(depsOf u.o).contains i||(!((slotsOf ops t.o++dstC t.o).any fun x=>(dstC u.o).contains x)&&!((!memless t.o.op||t.r.fx.isSome)&&u.r.fx.isSome)))&&confT ops i t (m+1) l
def confS(all:List It):Nat→List It→Bool
 | _,[]=>true
 | i,t::l=>(depsOf t.o).all (fun e=>decide (e<i))&&confT all i t 0 all&&confS all (i+1) l
theorem confT_spec{all:List It}{i:Nat}{t:It}:∀(l:List It) (m0:Nat),confT all i t m0 l=true→∀m u,l[m]?=some u→i=m0+m∨m0+m∈depsOf t.o∨i∈depsOf u.o∨((∀x,x∈slotsOf all t.o∨x∈dstC t.o→x∉dstC u.o)∧(memless t.o.op=true∧t.r.fx=none∨u.r.fx=none)):=by
 intro l
 induction l with
 | nil=>intro m0 _ m u hm;simp at hm
 | cons u0 l ih=>
   intro m0 h m u hm;simp only[confT,Bool.and_eq_true]at h;cases m with
   | zero=>
     have e:u0=u:=by simpa using hm
     subst e;have h1:=h.1;simp only[Bool.or_eq_true,beq_iff_eq,List.contains_iff_mem,Bool.and_eq_true,Bool.not_eq_true',List.any_eq_false,List.mem_append]at h1;rcases h1 with((h1|h1)|h1)|h1
     ·exact .inl h1
     ·exact .inr (.inl h1)
     ·exact .inr (.inr (.inl h1))
     ·refine .inr (.inr (.inr ⟨fun x hx hm=>h1.1 x hx (by simpa using hm),?_⟩));have h2:=h1.2;cases hu:u0.r.fx with
      | none=>exact .inr rfl
      | some p=>
        left;rw[hu]at h2;cases ht:t.r.fx with
        | none=>rw[ht]at h2;simp at h2;exact⟨h2,rfl⟩
        | some q=>rw[ht]at h2;simp at h2
   | succ m=>
     have:=ih (m0+1) h.2 m u (by simpa using hm)
     rwa[show m0+1+m=m0+(m+1) by omega]at this
theorem confS_spec{all:List It}:∀(l:List It) (i0:Nat),confS all i0 l=true→∀i t,l[i]?=some t→(∀e∈depsOf t.o,e<i0+i)∧confT all (i0+i) t 0 all=true:=by
 intro l
 induction l with
 | nil=>intro i0 _ i t hi;simp at hi
 | cons t0 l ih=>
   intro i0 h i t hi;simp only[confS,Bool.and_eq_true]at h;cases i with
   | zero=>
     have e:t0=t:=by simpa using hi
     subst e;refine⟨fun e he=>?_,h.1.2⟩;have:=h.1.1;rw[List.all_eq_true]at this;simpa using this e he
   | succ i=>
     have:=ih (i0+1) h.2 i t (by simpa using hi)
     rwa[show i0+1+i=i0+(i+1) by omega]at this
theorem wl_split{d:Option Nat}{r:Rc}{x:Nat}(h:x∈wl d r):(d.isSome=true∧x∈(match d with|some k=>[2*k]|none=>[]))∨(x%2=1∧r.fx≠none):=by
 unfold wl at h;rcases List.mem_append.1 h with h|h
 ·cases d with
  | none=>cases h
  | some k=>exact .inl ⟨rfl,h⟩
 ·right;cases hf:r.fx with
  | none=>rw[hf]at h;cases h
  | some p=>rw[hf]at h;simp at h;exact⟨by omega,by simp⟩
theorem Conf.ofS{l:List It}(h1:l.all (rdOk l)=true)(h2:confS l 0 l=true):Conf l where
 back:=fun i t hi e he=>by have:=(confS_spec l 0 h2 i t hi).1 e he;omega
 edge:=fun i m t u hi hm hne x hx hu=>by
  have h3:=(confS_spec l 0 h2 i t hi).2;rw[Nat.zero_add]at h3;have h4:=confT_spec l 0 h3 m u hm;rw[Nat.zero_add]at h4;rcases h4 with h4|h4|h4|⟨h4,h5⟩
  ·exact absurd h4 hne
  ·exact .inl h4
  ·exact .inr h4
  ·exfalso;rw[List.all_eq_true]at h1;have h6:=h1 t (List.mem_of_getElem? hi);unfold rdOk at h6;rw[List.all_eq_true]at h6;have hd:∀{o:Oper} {r:Rc},x∈wl o.dst r→x∈dstC o∨(x%2=1∧r.fx≠none):=fun{o r} h=>by
    rcases wl_split h with h|h
    ·exact .inl h.2
    ·exact .inr h
   have he:∀{o:Oper},x∈dstC o→x%2=0:=fun{o} h=>by
    unfold dstC at h;split at h
    ·simp at h;omega
    ·cases h
   rcases hd hu with hu|⟨hu1,hu2⟩
   ·have hev:=he hu;rcases hx with hx|hx
    ·have:=h6 x hx;simp only[Bool.or_eq_true,Bool.and_eq_true,beq_iff_eq,List.contains_iff_mem]at this;rcases this with h|h
     ·omega
     ·exact h4 x (.inl h) hu
    ·rcases hd hx with hx|⟨h,_⟩
     ·exact h4 x (.inr hx) hu
     ·omega
   ·rcases h5 with⟨h5,h5'⟩|h5
    ·rcases hx with hx|hx
     ·have:=h6 x hx;simp only[Bool.or_eq_true,Bool.and_eq_true,beq_iff_eq,List.contains_iff_mem,h5,Bool.not_true,Bool.false_eq_true,and_false,false_or]at this;have hs:∀y∈slotsOf l t.o,y%2=0:=fun y hy=>by
       unfold slotsOf at hy;rcases List.mem_append.1 hy with hy|hy
       ·have hos:∀xs:List Operand,∀y∈opSlots xs,y%2=0:=by
          intro xs
          induction xs with
          | nil=>intro y hy;simp[opSlots]at hy
          | cons z xs ih=>
            intro y hy;cases z with
            | tmp t=>
              simp only[opSlots,List.mem_cons]at hy;rcases hy with hy|hy
              ·omega
              ·exact ih y hy
            | const v=>exact ih y (by simpa only[opSlots]using hy)
            | global g=>exact ih y (by simpa only[opSlots]using hy)
            | func f=>exact ih y (by simpa only[opSlots]using hy)
        exact hos _ y hy
       ·split at hy
        ·split at hy
         ·split at hy
          ·simp at hy;omega
          ·cases hy
         ·cases hy
        ·cases hy
      have:=hs x this;omega
     ·rcases hd hx with hx|⟨_,h⟩
      ·have:=he hx;omega
      ·exact h h5'
    ·exact hu2 h5
theorem confOne_of{i:Nat}{t:It}{all:List It}(hc:Conf all)(hi:all[i]?=some t):∀(l:List It) (m0:Nat),(∀m u,l[m]?=some u→all[m0+m]?=some u)→confOne i t m0 l=true
 | [],_,_=>rfl
 | u::l,m0,h=>by
   simp only[confOne,Bool.and_eq_true];refine⟨?_,confOne_of hc hi l (m0+1) fun m u hm=>by rw[show m0+1+m=m0+(m+1) by omega];exact h (m+1) u (by simpa using hm)⟩;have hu:=h 0 u (by simp);rw[Nat.add_zero]at hu;by_cases e:i=m0
   ·simp[e]
   by_cases hx:((t.rd++wl t.o.dst t.r).any fun x=>(wl u.o.dst u.r).contains x)=true
   ·rw[List.any_eq_true]at hx;obtain⟨x,h1,h2⟩:=hx;rcases hc.edge i m0 t u hi hu e x (List.mem_append.1 h1) (by simpa using h2)with h|h
    ·simp[h]
    ·simp[h]
   ·simp only[Bool.not_eq_true]at hx;rw[hx];simp
theorem confAll_of'{all:List It}(hc:Conf all):∀(l:List It) (i0:Nat),(∀i t,l[i]?=some t→all[i0+i]?=some t)→confAll all i0 l=true
 | [],_,_=>rfl
 | t::l,i0,h=>by
   have ht:=h 0 t (by simp);rw[Nat.add_zero]at ht;simp only[confAll,Bool.and_eq_true];refine⟨⟨?_,confOne_of hc ht all 0 fun m u hm=>by rw[Nat.zero_add];exact hm⟩,confAll_of' hc l (i0+1) fun i t hi=>by rw[show i0+1+i=i0+(i+1) by omega];exact h (i+1) t (by simpa using hi)⟩;rw[List.all_eq_true];intro e he;simpa using hc.back i0 t ht e he
theorem confAll_slots{l:List It}(h1:l.all (rdOk l)=true)(h2:confS l 0 l=true):confAll l 0 l=true:=
 confAll_of' (Conf.ofS h1 h2) l 0 fun i t h=>by rw[Nat.zero_add];exact h
section
variable {α:Type}
def upd1(f:Nat→α)(t:Nat)(x:α):Nat→α:=fun k=>if k=t then x else f k
def upd2(W:Nat→Nat→α)(s t:Nat)(x:α):Nat→Nat→α:=fun a b=>if a=s∧b=t then x else W a b
def gcells(C:α→List AV)(f:Nat→α)(m:Nat):List (List AV):=(List.range m).map fun t=>C (f t)
theorem gcells_len(C:α→List AV)(f:Nat→α)(m:Nat):(gcells C f m).length=m:=by simp[gcells]
theorem gcells_get(C:α→List AV)(f:Nat→α){m t:Nat}(h:t<m):(gcells C f m)[t]?=some (C (f t)):=by rw[gcells,List.getElem?_map,List.getElem?_range h];rfl
theorem gcells_norefs{C:α→List AV}(hC:∀x,AV.norefs (C x)=true)(f:Nat→α)(m:Nat):(gcells C f m).all AV.norefs=true:=by simp[List.all_eq_true,gcells,hC]
theorem gcells_const(C:α→List AV)(x:α)(m:Nat):List.replicate m (C x)=gcells C (fun _=>x) m:=
 List.ext_getElem (by simp[gcells]) fun i h1 h2=>by simp[gcells]
theorem gcells_congr(C:α→List AV){f g:Nat→α}{m:Nat}(h:∀t,t<m→f t=g t):gcells C f m=gcells C g m:=
 List.map_congr_left fun t ht=>by rw[h t (List.mem_range.1 ht)]
theorem range_set{β:Type}(f:Nat→β){n s:Nat}(x:β)(h:s<n):((List.range n).map f).set s x=(List.range n).map fun i=>if i=s then x else f i:=by
 refine List.ext_getElem (by simp) fun i h1 h2=>?_;simp only[List.getElem_set,List.getElem_map,List.getElem_range];by_cases e:s=i
 ·subst e;simp
 ·rw[if_neg e,if_neg (Ne.symm e)]
theorem gcells_set(C:α→List AV)(f:Nat→α){m t:Nat}(x:α)(h:t<m):(gcells C f m).set t (C x)=gcells C (upd1 f t x) m:=by
 rw[gcells,range_set _ _ h,gcells];refine List.map_congr_left fun k _=>?_;by_cases e:k=t
 ·subst e;simp[upd1]
 ·simp[upd1,e]
theorem gcells_snoc(C:α→List AV)(f:Nat→α)(m:Nat):gcells C f m++[C (f m)]=gcells C f (m+1):=by simp[gcells,List.range_succ]
def grow(e:Nat)(C:α→List AV)(W:Nat→Nat→α)(m s:Nat):RObj:=.arr e (gcells C (W s) m) false
end
def retB(P:Program)(fr:Fr)(results:List ResultVar)(R:AV→Mem→Nat→Prop):Exit→St→Prop:=
 fun e st=>(e=.ret∨e=.normal)∧∃rs,resAllR P fr st results=some rs∧R (mkRes rs) st.mem st.nx
def BodyIs(P:Program)(f:FuncId)(args:List AV)(M:Mem)(nx:Nat)(R:AV→Mem→Nat→Prop):Prop:=
 ∃fn c nv hid,P.funcs[f]?=some fn∧fn.body=some c∧(fn.name== "runtime.NumGoroutine")=false∧args.length≤fn.ntmps∧
  ∀h0:Nat,EvC P ⟨nx,nv,hid,fn.ntmps⟩ none ⟨h0,none,false⟩ c ⟨vars0 0 args,[],M,nx⟩ (retB P ⟨nx,nv,hid,fn.ntmps⟩ fn.results.toList R)
section
variable {P:Program} {fr:Fr} {ro:Option Nat} {ds:DS} {st st':St} {Q Q':Exit→St→Prop} {c:Code} {M:Mem} {ops:Array Oper} {l rest:List Oper} {o:Oper}
theorem BodyIs.of{f:FuncId}{fn:Func}{args:List AV}{nx nv:Nat}{hid:List Nat}{R:AV→Mem→Nat→Prop}(hf:P.funcs[f]?=some fn)(hb:fn.body=some c)(hnm:(fn.name== "runtime.NumGoroutine")=false)(hsz:args.length≤fn.ntmps)
  (h:∀h0:Nat,EvC P ⟨nx,nv,hid,fn.ntmps⟩ none ⟨h0,none,false⟩ c ⟨vars0 0 args,[],M,nx⟩ (retB P ⟨nx,nv,hid,fn.ntmps⟩ fn.results.toList R)):BodyIs P f args M nx R:=
 ⟨fn,c,nv,hid,hf,hb,hnm,hsz,h⟩
theorem BodyIs.mono{f:FuncId}{args:List AV}{nx:Nat}{R R':AV→Mem→Nat→Prop}(h:BodyIs P f args M nx R)(hr:∀r M nx,R r M nx→R' r M nx):BodyIs P f args M nx R':=by
 obtain⟨fn,c,nv,hid,h1,h2,h3,h4,h5⟩:=h;exact⟨fn,c,nv,hid,h1,h2,h3,h4,fun h0=>(h5 h0).mono fun e st ⟨k1,rs,k2,k3⟩=>⟨k1,rs,k2,hr _ _ _ k3⟩⟩
theorem XR.callI{f:FuncId}{cs:List AV}{callee:Operand}{args:Array Operand}{tys:Array TypeId}{xs:List AV}(hg:o.guard=none)(hop:o.op=.call ⟨.value callee,args,tys⟩)(hd:dok fr o.dst=true)
  (hcal:od fr st true callee=.fn f cs)(hxs:bodyArgs fr st args++cs=xs)
  (hb:BodyIs P f xs st.mem st.nx fun r M' nx'=>XR P fr ro ds ops rest ((⟨st.vars,st.tmps,M',nx'⟩:St).put fr o.dst r) Q):XR P fr ro ds ops (o::rest) st Q:=by
 obtain⟨fn,c,nv,hid,h1,h2,h3,h4,h5⟩:=hb;exact XR.callB nv hid hg hop hd hcal hxs h1 h2 h3 h4 fun h0=>(h5 h0).mono fun e st ⟨k1,rs,k2,k3⟩=>⟨k1,rs,k2,k3⟩
end
attribute [go_sem] resAllR resOneR bodyArgs
def ancOk(last:List Nat):Nat→List It→Bool
 | _,[]=>true
 | i,_::l=>(last.contains i||l.any fun u=>(depsOf u.o).contains i)&&ancOk last (i+1) l
section
variable {P:Program} {fr:Fr} {ro:Option Nat} {ds:DS} {st st':St} {Q:Exit→St→Prop} {G G':Nat→Option Value} {F F':Nat→Nat→Prop} {a:Act} {w w':World}
 {M M':Mem} {ops:Array Oper} {o:Oper} {id N:Nat} {S S':Nat→Bool} {d:Option Nat} {r:Rc} {x y:Nat} {l:List It}
theorem ancOk_spec{last:List Nat}:∀(l:List It) (i0:Nat),ancOk last i0 l=true→∀i,i<l.length→i0+i∈last∨∃(m:Nat) (t:It),i<m∧l[m]?=some t∧i0+i∈depsOf t.o:=by
 intro l
 induction l with
 | nil=>intro i0 _ i hi;simp at hi
 | cons t l ih=>
   intro i0 h i hi;simp only[ancOk,Bool.and_eq_true,Bool.or_eq_true,List.contains_iff_mem,List.any_eq_true]at h;obtain⟨h1,h2⟩:=h;cases i with
   | zero=>
     rcases h1 with h1|⟨u,hu,hd⟩
     ·exact .inl h1
     ·obtain⟨m,hm,rfl⟩:=List.getElem_of_mem hu;exact .inr ⟨m+1,l[m],by omega,by simp[List.getElem?_eq_getElem hm],hd⟩
   | succ i=>
     rcases ih (i0+1) h2 i (by simpa using hi)with h|⟨m,u,hm,hu,hd⟩
     ·exact .inl (by rw[show i0+(i+1)=i0+1+i by omega];exact h)
     ·exact .inr ⟨m+1,u,by omega,by simpa using hu,by rw[show i0+(i+1)=i0+1+i by omega];exact hd⟩
theorem trun_pre{all:List Oper}:∀{l:List Oper} {id:Nat} {st:St} {ok:Bool} {its:List It} {st':St} {rest:List Oper} {id':Nat},trun P fr all l id st=.stop ok its st' rest id'→ok=true→
  ∃pre,l=pre++rest∧id'=id+its.length∧Tr P fr ro ds all.toArray id pre st its st'
 | [],id,st,ok,its,st',rest,id',h,_=>by simp only[trun]at h;cases h
 | o::l,id,st,ok,its,st',rest,id',h,hok=>by
   have stopCase:trun P fr all (o::l) id st=.stop true [] st (o::l) id→∃pre,o::l=pre++rest∧id'=id+its.length∧Tr P fr ro ds all.toArray id pre st its st':=fun h1=>by
    rw[h1]at h;cases h;exact⟨[],rfl,rfl,.nil _ _⟩
   have goCase:∀{b:Bool} {r:Rc} {rd:List Nat},trun P fr all (o::l) id st=(trun P fr all l (id+1) (run1 fr o.dst r st)).cons b ⟨o,r,rd⟩→
     (b=true→OpIs P fr ro ds all.toArray id st ⟨o,r,rd⟩)→∃pre,o::l=pre++rest∧id'=id+its.length∧Tr P fr ro ds all.toArray id pre st its st':=by
    intro b r rd h1 h2;rw[h1]at h;cases hres:trun P fr all l (id+1) (run1 fr o.dst r st)with
    | done ok its st1=>rw[hres]at h;simp only[TRes.cons]at h;cases h
    | stop ok1 its1 st1 rest1 id1=>
      rw[hres]at h;simp only[TRes.cons]at h;cases h;simp only[Bool.and_eq_true]at hok;obtain⟨pre,e1,e2,t⟩:=trun_pre hres hok.2;exact⟨o::pre,by rw[e1];rfl,by rw[e2];simp;omega,.cons (h2 hok.1) t⟩
   cases hd:dok fr o.dst with
   | false=>exact stopCase (by simp only[trun,hd])
   | true=>
     cases hg:o.guard with
     | none=>
       cases he:efRc id (xop P fr st true id o)with
       | none=>exact stopCase (by simp only[trun,hd,hg,he])
       | some p=>
         obtain⟨b,r⟩:=p;exact goCase (by simp only[trun,hd,hg,he]) fun hb=>.op hg hd he hb rfl
     | some p=>
       obtain⟨j,want⟩:=p;cases hj:gslot all.toArray j with
       | none=>exact stopCase (by simp only[trun,hd,hg,hj])
       | some k=>
         cases hk:gval want (st.get fr k)with
         | none=>exact stopCase (by simp only[trun,hd,hg,hj,hk])
         | some g=>
           cases he:efRcG g (xop P fr st g id o)with
           | none=>exact stopCase (by simp only[trun,hd,hg,hj,hk,he])
           | some p=>
             obtain⟨b,r⟩:=p;exact goCase (by simp only[trun,hd,hg,hj,hk,he]) fun hb=>.guard hg hj hk hd he hb rfl
def TrTo(P:Program)(fr:Fr)(ro:Option Nat)(ds:DS)(ops:Array Oper)(id:Nat)(l:List Oper)(st:St)(its:List It)(st':St)(rest:List Oper):Prop:=
 ∃pre,l=pre++rest∧Tr P fr ro ds ops id pre st its st'
theorem TrTo.here{l:List Oper}:TrTo P fr ro ds ops id l st [] st l:=⟨[],rfl,.nil _ _⟩
theorem TrTo.run{all l rest rest':List Oper}{ok:Bool}{its its2:List It}{id':Nat}{st2:St}(h:trun P fr all l id st=.stop ok its st' rest id')(hok:ok=true)(t:TrTo P fr ro ds all.toArray id' rest st' its2 st2 rest'):TrTo P fr ro ds all.toArray id l st (its++its2) st2 rest':=by
 obtain⟨pre,e1,e2,t1⟩:=trun_pre (ro:=ro) (ds:=ds) h hok;obtain⟨pre2,e3,t2⟩:=t;subst e3;subst e1;exact⟨pre++pre2,by rw[List.append_assoc],t1.append e2 t2⟩
end
def St.shrinkC(k j:Nat)(st:St):Option St:=
 match mlook st.mem k with
 | some (.cells cs)=>match cs[j]? with
   | some (.tv i n 0 len .rest)=>match mlook st.mem i with
     | some (.arr esz es false)=>if n=es.length then some ⟨st.vars,st.tmps,mset ((st.nx,.arr esz (es.take len) false)::mdel st.mem i) k (.cells (cs.set j (.tl st.nx len false))),st.nx+1⟩else none
     | _=>none
   | _=>none
 | _=>none
section
variable {P:Program} {fr:Fr} {ro:Option Nat} {ds:DS} {st st':St} {Q Q':Exit→St→Prop} {G G':Nat→Option Value} {F F':Nat→Nat→Prop} {a:Act} {w w':World} {x y c:Code} {M:Mem}
 {ops:Array Oper} {l rest:List Oper}
attribute [go_sem] St.shrinkC
end
def tvOf(M:Mem)(i:Nat):AV→AV
 | .tl j n b=>if j=i∧n≠0 then match mlook M i with
   | some (.arr _ es _)=>if n=es.length then .tv i n 0 n .rest else .tl j n b
   | _=>.tl j n b else .tl j n b
 | v=>v
def St.toTv(i:Nat)(st:St):St:=⟨st.vars,st.tmps,memMap (tvOf st.mem i) st.mem,st.nx⟩
section
variable {P:Program} {fr:Fr} {ro:Option Nat} {ds:DS} {st st':St} {Q Q':Exit→St→Prop} {G G':Nat→Option Value} {F F':Nat→Nat→Prop} {a:Act} {w w':World} {c:Code}
theorem tvOf_rv{M:Mem}{nx i:Nat}(hm:SimM P G F M nx w){v:Value}{y:AV}(h:RV G F M w v y):RV G F M w v (tvOf M i y):=by
 unfold tvOf;split
 ·rename_i j n b;split
  ·rename_i hj;obtain⟨rfl,h0⟩:=hj;split
   ·rename_i esz es fz ho;split
    ·rename_i hn;exact h.tl_tv hm ho hn h0
    ·exact h
   ·exact h
  ·exact h
 ·exact h
theorem EvC.toTv(i:Nat)(hc:EvC P fr ro ds c (st.toTv i) Q):EvC P fr ro ds c st Q:=
 EvC.conv (fun _ F _ _ s=>let⟨s',S'⟩:=s.memMap (f:=tvOf st.mem i) fun _ _ h=>tvOf_rv s.sim.mem h;⟨_,F,s',S'⟩) hc
theorem EvC.mergeS{α:Type}(sh:α→St)(ok:α→Prop)(L:List Nat)(nx:Nat){c rest:Code}(h1:EvC P fr ro ds c st (fun e st'=>e=.normal∧∃(K:List (Nat×Nat)) (a:α),gcOk fr.base nx K=true∧st'.gc L K nx=sh a∧ok a))
  (h2:∀a,ok a→EvC P fr ro ds rest (sh a) Q):EvC P fr ro ds (.seq c rest) st Q:=
 .seq (h1.mono fun e st' ⟨he,K,a,hk,hs,ha⟩=>by
  subst he;show EvC P fr ro ds rest st' Q;exact .gc L K nx hk (by rw[hs];exact h2 a ha))
theorem EvC.mergeC{α:Type}(sh:α→St)(ok:α→Prop){c rest:Code}(h1:EvC P fr ro ds c st (fun e st'=>e=.normal∧∃a:α,ok a∧∀(c:Code) (Q:Exit→St→Prop),EvC P fr ro ds c (sh a) Q→EvC P fr ro ds c st' Q))
  (h2:∀a,ok a→EvC P fr ro ds rest (sh a) Q):EvC P fr ro ds (.seq c rest) st Q:=
 .seq (h1.mono fun e st' ⟨he,a,ha,hc⟩=>by
  subst he;exact hc _ _ (h2 a ha))
theorem EvC.gcE{c:Code}{Q:Exit→St→Prop}(L:List Nat)(K:List (Nat×Nat))(nx:Nat){st2:St}(hk:gcOk fr.base nx K=true)(he:st.gc L K nx=st2)(h:EvC P fr ro ds c st2 Q):EvC P fr ro ds c st Q:=.gc L K nx hk (by rw[he];exact h)
end
attribute [go_sem] St.toTv tvOf
def newRes(F:Nat→Nat→Prop)(w:World)(esz:Nat)(es:List (List AV))(e:Ending)(w':World):Prop:=
 ∃(b c:Nat) (cc:Array Value) (elem:TypeId) (F':Nat→Nat→Prop),e=.returned (.slice (some ⟨b,0,none⟩) es.length c)∧c≠0∧w.heap.size≤b∧w'.heap[b]?=some (.cells cc elem (0,0))∧es.length≤c∧cc.size=c*esz∧
  (∀i (h:i<es.length),es[i].length=esz)∧(∀i j (h:i<es.length) (h':j<es[i].length),∃v,cc[i*esz+j]?=some v∧v.oneCell'=true∧Imm F' w' v es[i][j])∧(∀o,¬F' b o)∧Grown F w F' w'
def PureNew(P:Program)(f:FuncId)(args:List AV)(esz:Nat)(es:List (List AV)):Prop:=
 callable P f∧∀F w vals,FOk F w→Imms F w vals args→CallsIn Fence.wide 0 P f vals.toArray w fun e w'=>newRes F w esz es e w'
def retN(P:Program)(fr:Fr)(results:List ResultVar)(esz:Nat)(es:List (List AV))(e:Exit)(st:St):Prop:=
 (e=.ret∨e=.normal)∧∃(r0:AV) (i:Nat),resAllR P fr st results=some [r0]∧(r0=.tl i es.length false∨r0=.tv i es.length 0 es.length .rest)∧mlook st.mem i=some (.arr esz es false)∧es.length≠0∧es.all AV.norefs=true
section
variable {P:Program} {fr:Fr} {ro:Option Nat} {ds:DS} {st st':St} {Q Q':Exit→St→Prop} {G G':Nat→Option Value} {F F':Nat→Nat→Prop} {a:Act} {w w':World} {M M':Mem}
 {ops:Array Oper} {l rest:List Oper} {o:Oper} {N id:Nat} {rd gs:List Nat}
theorem PureNew.of{c:Code}{f:FuncId}{fn:Func}{args:List AV}{esz:Nat}{es:List (List AV)}{nv:Nat}{hid:List Nat}(hf:P.funcs[f]?=some fn)(hb:fn.body=some c)(hnm:(fn.name== "runtime.NumGoroutine")=false)(hsz:args.length≤fn.ntmps)
  (h:∀h0:Nat,EvC P ⟨0,nv,hid,fn.ntmps⟩ none ⟨h0,none,false⟩ c (st0 args) (retN P ⟨0,nv,hid,fn.ntmps⟩ fn.results.toList esz es)):PureNew P f args esz es:=by
 refine⟨callable_of hf hnm (by rw[hb];rfl),fun F w vals hF hi=>?_⟩;obtain⟨hl,hi⟩:=hi;have s0:SimA P ⟨0,nv,hid,fn.ntmps⟩ ⟨w.heap.size,none,false⟩ (fun _=>none) F (st0 args) { tmps:=vals.toArray++Array.replicate (fn.ntmps-vals.toArray.size) undef,defers:=[] } w:=by
  refine⟨⟨⟨fun id o h=>(by cases h),fun id id' v v' b h=>absurd rfl h,hF.1,hF.2⟩,fun k=>?_,by simp;omega⟩,fun _ _=>rfl,Marks.none _ _ _ (Nat.le_refl _)⟩;have key:∀x,(x=.junk∨∃h:k<args.length,x=args[k])→RV (fun _=>none) F (st0 args).mem w ((vals.toArray++Array.replicate (fn.ntmps-vals.toArray.size) undef).getD k undef) x:=by
   rintro x (rfl|⟨hk,rfl⟩)
   ·exact .imm (.junk _)
   ·have:(vals.toArray++Array.replicate (fn.ntmps-vals.toArray.size) undef).getD k undef=vals[k]'(by omega):=by
      rw[Array.getD_eq_getD_getElem?,Array.getElem?_append_left (by simp;omega)];simp[List.getElem?_eq_getElem (show k<vals.length by omega)]
    rw[this];exact .imm (hi k (by omega) hk)
  refine key _ ?_;unfold St.get;split
  ·rcases alook_vars0 args 0 k with h|⟨h1,h2,h3⟩
   ·exact .inl h
   ·exact .inr ⟨by simpa using h1,by simpa[st0]using h3⟩
  ·exact .inl rfl
 refine callsIn_of_wp_marks (F:=Fence.wide) hf hb trivial (wpIn_mono (h _ _ _ _ _ _ _ _ _ .refl s0) ?_);rintro e a' w' ⟨G',F',st',s',S',he,r0,i,hrs,hr0,ho,hne,hnr⟩;have hown:∀b,Owned G' st'.mem b→w.heap.size≤b:=fun b hb=>(S'.own b hb).elim id fun⟨_,_,_,h,_⟩=>by cases h
 have g:∀w2:World,w.heap.size≤w2.heap.size→(∀b,b<w.heap.size→w2.heap[b]?=w.heap[b]?)→Kept w w2→(∀b o,F' b o→b<w2.heap.size)→Grown F w F' w2:=fun w2 h1 h2 h3 h4=>
  ⟨h1,h2,S'.F1,fun b o h=>by
   rcases S'.F3 b o h with h|h|⟨_,_,_,h,_⟩
   ·exact .inl h
   ·exact .inr h
   ·exact(by cases h),h4,h3⟩
 have hfin:∀(Ds:List Nat) (w2:World),Ds.Nodup→(∀D∈Ds,w.heap.size≤D∧w2.heap[D]?=some (.deferred (some [])))→w.heap.size≤w2.heap.size→(∀b,b<w.heap.size→w2.heap[b]?=w.heap[b]?)→Kept w w2→
   SimA P ⟨0,nv,hid,fn.ntmps⟩ ⟨w.heap.size,none,false⟩ G' F' st' { a' with defers:=[] } w2→
   LeavesInM Fence.wide 0 P fn a'.tmps (fun e w'=>newRes F w esz es e w') (Ds.map dmark) .returning w2:=by
  intro Ds
  induction Ds with
  | nil=>
    intro w2 _ _ h1 h2 h3 s2;obtain⟨u,k1,k2⟩:=resultsR_ok s2 hrs;have hu:u=u:=rfl;refine⟨u,k1,?_⟩;have k2:RV G' F' st'.mem w2 u r0:=k2;have hv:G' i=some u∧isNilSlice u=false:=by
     rcases hr0 with rfl|rfl
     ·obtain⟨_,hh⟩:=k2.inv_tl;obtain⟨q1,q2⟩:=(hh _ _ _ ho).2 rfl;exact⟨q1,q2.symm⟩
     ·obtain⟨_,hh⟩:=k2.inv_tv;obtain⟨_,b,c,hG,hc0,c',hval,_,hcp⟩:=(hh _ _ _ ho).2 rfl;subst hval;have hc0:c≠0:=hc0.resolve_right fun h=>hne h.1;rcases hcp with h|h|⟨h,_⟩
      ·cases h
      ·cases h
      ·have:c'=c:=by omega
       subst this;exact⟨by rw[hG,Nat.zero_mul],rfl⟩
    obtain⟨hGi,_⟩:=hv;rcases(s2.sim.mem.obj i _ ho).2 with⟨h0,_⟩|⟨b,c,cc,el,q1,q2,q3,q4,q5,q6,q7,q8,_⟩
    ·subst h0;exact absurd rfl hne
    ·rw[hGi]at q1;cases q1;refine⟨b,c,cc,el,F',rfl,q2,hown b ⟨i,_,_,ho,hGi,by simp[blkOf,q2]⟩,q3,q4,q5,q6,fun k j hk hj=>?_,fun o hF=>(by cases (q8 o hF).1),g w2 h1 h2 h3 s2.sim.mem.inF⟩;obtain⟨v,hv,h1c,hr⟩:=q7 k j hk hj;exact⟨v,hv,h1c,hr.imm_of (all_norefs hnr k j hk hj)⟩
  | cons D Ds ih=>
    intro w2 hnd hD h1 h2 h3 s2;obtain⟨d1,d2⟩:=hD D List.mem_cons_self;have hnd:=List.nodup_cons.1 hnd;have hk:∀(b:Nat) (o:Obj),w2.heap[b]?=some o→isData o=true→(w2.putObj D (.deferred none)).heap[b]?=some o:=fun b o hb ho=>by
     rw[World.putObj_heap_other (by rintro rfl;rw[d2]at hb;cases hb;cases ho)];exact hb
    refine⟨(by intro h;cases h),.inl ⟨D,_,rfl,run_takeDeferred d2,ih _ hnd.2 (fun D' hD'=>?_) (by rw[World.putObj_size];exact h1) (fun b hb=>?_) (h3.trans (.set d2 rfl rfl)) ?_⟩⟩
    ·refine⟨(hD D' (List.mem_cons_of_mem _ hD')).1,?_⟩;rw[World.putObj_heap_other (by rintro rfl;exact hnd.1 hD')];exact(hD D' (List.mem_cons_of_mem _ hD')).2
    ·rw[World.putObj_heap_other (by omega)];exact h2 b hb
    ·exact⟨⟨s2.sim.mem.keepData hk (by rw[World.putObj_size];exact Nat.le_refl _),fun k=>(s2.sim.slots k).keepData hk,s2.sim.size⟩,s2.fresh,Marks.none _ _ _ (by rw[World.putObj_size];exact h1)⟩
 obtain⟨⟨Ds,hDs,hnd,hD⟩,_⟩:=s'.defers;have:=hfin Ds w' hnd hD S'.size (fun b hb=>S'.out b hb (fun⟨_,_,_,h,_⟩=>by cases h)) S'.kept ⟨⟨s'.sim.mem,s'.sim.slots,s'.sim.size⟩,s'.fresh,Marks.none _ _ _ S'.size⟩;rw[←hDs]at this;rcases he with rfl|rfl
 ·exact this
 ·exact this
theorem simM_grownNew{nx b:Nat}(hm:SimM P G F M nx w)(g:Grown F w F' w')(hid:G id=none)(hn:id<nx)(h:Value)(ob:RObj)(hb:blkOf h=some b)(hb1:w.heap.size≤b)
  (S':Step All G F M w (upG G id h) F' ((id,ob)::M) w'→ObjOk P (upG G id h) F' ((id,ob)::M) w' id ob):
  SimM P (upG G id h) F' ((id,ob)::M) nx w'∧Step All G F M w (upG G id h) F' ((id,ob)::M) w':=by
 have hne:∀j,G j≠none→j≠id:=fun j hj e=>hj (e▸hid);have S:Step All G F M w (upG G id h) F' ((id,ob)::M) w':=
  { kept:=g.kept
    size:=g.size
    out:=fun b hb _=>g.old b hb
    F1:=g.F1
    F2:=fun b o' hF=>cell?_same (g.old b (hm.inF b o' hF)) o'
    F3:=fun b o h=>(g.F3 b o h).imp (fun h=>h) fun h=>.inl h
    own:=fun b1 ⟨j,o',v,ho,hv,hbv⟩=>by
     by_cases e:j=id
     ·subst e;rw[upG_self]at hv;cases hv;rw[hb]at hbv;cases hbv;exact .inl hb1
     ·rw[mlook_cons,if_neg e]at ho;rw[upG_other G h e]at hv;exact .inr ⟨j,o',v,ho,hv,hbv⟩
    some':=fun j _ hj=>by rw[upG_other G h (hne j hj)];exact hj
    same:=fun j v _ hj _=>by rw[upG_other G h (hne j (by simp[hj]))];exact hj
    keep:=fun j o' _ hj ho=>by
     have e:=hne j hj;rw[mlook_cons,if_neg e]at ho;cases hv:G j with
     | none=>exact absurd hv hj
     | some v=>exact⟨o',v,v,ho,rfl,by rw[upG_other G h e];exact hv,objKeep.refl v o'⟩ }
 refine⟨simM_gen hm S (fun j o' ho=>?_) (fun i j v v' b1 hi hj hv hv' hbv hbv'=>?_) g.inF,S⟩
 ·by_cases e:j=id
  ·subst e;rw[mlook_cons,if_pos rfl]at ho;cases ho;exact⟨hn,.inl (S' S)⟩
  ·rw[mlook_cons,if_neg e]at ho;refine⟨(hm.obj j o' ho).1,.inr ⟨ho,upG_other G h e,fun b1 v hv hbv=>?_⟩⟩;have hlt:b1<w.heap.size:=hm.lt ⟨j,o',v,ho,hv,hbv⟩;exact⟨g.old b1 hlt,fun o h=>by rcases g.F3 b1 o h with h|h;exact h;omega⟩
 ·have old:∀j v,j≠id→mlook ((id,ob)::M) j≠none→upG G id h j=some v→mlook M j≠none∧G j=some v:=fun j v e h1 h2=>
    ⟨by rwa[mlook_cons,if_neg e]at h1,by rwa[upG_other G h e]at h2⟩
  have lt:∀j v,mlook M j≠none→G j=some v→blkOf v=some b1→b1<w.heap.size:=fun j v h1 h2 h3=>by
   cases ho:mlook M j with
   | none=>exact absurd ho h1
   | some o'=>exact hm.lt ⟨j,o',v,ho,h2,h3⟩
  by_cases ei:i=id
  ·by_cases ej:j=id
   ·rw[ei,ej]
   ·subst ei;rw[upG_self]at hv;cases hv;obtain⟨h1,h2⟩:=old j v' ej hj hv';have:=lt j v' h1 h2 hbv';rw[hb]at hbv;cases hbv;omega
  ·by_cases ej:j=id
   ·subst ej;rw[upG_self]at hv';cases hv';obtain⟨h1,h2⟩:=old i v ei hi hv;have:=lt i v h1 h2 hbv;rw[hb]at hbv';cases hbv';omega
   ·obtain⟨h1,h2⟩:=old i v ei hi hv;obtain⟨h3,h4⟩:=old j v' ej hj hv';exact hm.inj i j v v' b1 h1 h3 h2 h4 hbv hbv'
theorem SimD.callN{f:FuncId}{cs:List AV}{callee:Operand}{args:Array Operand}{tys:Array TypeId}{xs:List AV}{esz:Nat}{es:List (List AV)}{K:Act→World→Prop}{Q1:Exit→Act→World→Prop}
  (s:SimD P fr ds G F st N a w)(hN:id<N)(hid:G id=none)(hop:o.op=.call ⟨.value callee,args,tys⟩)(hd:dok fr o.dst=true)(hcal:od fr st true callee=.fn f cs)
  (hxs:callArgs fr st args++cs=xs)(hn:AV.norefs xs=true)(hc:PureNew P f xs esz es)
  (h:∀G' F' a' w',SimD P fr ds G' F' (run1 fr o.dst ⟨.tl id es.length false,some (id,.arr esz es false)⟩ st) N a' w'→Step All G F st.mem w G' F' (run1 fr o.dst ⟨.tl id es.length false,some (id,.arr esz es false)⟩ st).mem w'→(∀j,j≠id→G j=none→G' j=none)→K a' w'):o.wpIn (fc ro) 0 P a w K Q1:=by
 refine⟨fun _ _=>trivial,?_⟩;rw[Oper.semAt_eq _ _ _ (by rw[hop];intro c h;cases h)];have hv:=(s.eval callee).unopt;have hv:RV G F st.mem w (a.eval callee) (.fn f cs):=by unfold od at hcal;rwa[hcal]at hv
 obtain⟨vs,hev,hl,hcs⟩:=hv.inv_fn;have hrun:(execOp a.eval o).run P w=.ok (.enter f ((args.toList.map a.eval++vs).toArray)) w:=by
  obtain⟨dst,op,ty,pos,after,guard⟩:=o;simp only at hop;subst hop;simp only[execOp,resolve,hev,Deferred.ofValue,Sem.run_bind,Sem.run_pure,Result.andThen_ok,invoke];rw[hc.1];congr 2;apply Array.ext';simp
 rw[hrun];have hi:Imms F w (args.toList.map a.eval++vs) xs:=by
  subst hxs;refine .of_rv (G:=G) (M:=st.mem) (by simp[callArgs,hl]) (fun i h1 h2=>?_) hn;by_cases hlt:i<args.toList.length
  ·rw[List.getElem_append_left (by simpa using hlt),List.getElem_append_left (by simpa[callArgs]using hlt)];simp only[callArgs,List.getElem_map];exact((s.eval _).unopt).snap s.mem
  ·rw[List.getElem_append_right (by simpa using hlt),List.getElem_append_right (by simpa[callArgs]using hlt)];simp only[List.length_map,callArgs];exact hcs _ _ _
 refine⟨fun h=>by simp[fc,Fence.wide]at h,callsIn_fc ((hc.2 F w _ s.mem.fok hi).mono ?_)⟩;rintro e w' ⟨b,c,cc,el,F',rfl,q2,qb,q3,q4,q5,q6,q7,q8,g⟩;obtain⟨hm',S'⟩:=simM_grownNew (id:=id) s.mem g hid hN (.slice (some ⟨b,0,none⟩) es.length c) (.arr esz es false) (by simp[blkOf,q2]) qb fun S=>
  .inr ⟨b,c,cc,el,upG_self _ _ _,q2,q3,q4,q5,q6,fun i j hi hj=>by
   obtain⟨v,k1,k2,k3⟩:=q7 i j hi hj;exact⟨v,k1,k2,.imm k3⟩,fun o hF=>absurd hF (q8 o),fun hz=>by cases hz⟩
 have hmid:mlook st.mem id=none:=s.mem.noM hid;obtain⟨s1,S1⟩:=s.put (d:=o.dst) (r:=⟨.tl id es.length false,some (id,.arr esz es false)⟩) (u:=.slice (some ⟨b,0,none⟩) es.length c) hm' (fun i=>by
  simp only[Rc.mem];rw[mlook_mset,mlook_cons]) S' hd (.tl id es.length false _ (by rw[upG_self];simp) fun esz' es' fz' ho=>by
   rw[mlook_cons,if_pos rfl]at ho;cases ho;exact⟨Nat.le_refl _,fun _=>⟨upG_self _ _ _,rfl⟩⟩)
 exact h _ _ _ w' s1 S1 fun j hj hG=>by rw[upG_other G _ hj];exact hG
theorem OpIs.callN{f:FuncId}{cs:List AV}{callee:Operand}{args:Array Operand}{tys:Array TypeId}{xs:List AV}{esz:Nat}{es:List (List AV)}(hg:o.guard=none)(hop:o.op=.call ⟨.value callee,args,tys⟩)(hd:dok fr o.dst=true)
  (hcal:od fr st true callee=.fn f cs)(hxs:callArgs fr st args++cs=xs)(hn:AV.norefs xs=true)(hrd:rdOf fr st [] o=rd)(hc:PureNew P f xs esz es):OpIs P fr ro ds ops id st ⟨o,⟨.tl id es.length false,some (id,.arr esz es false)⟩,rd⟩:=by
 intro st' G F a w N K Q1 s hN hG hl h;simp only[Region.wanted,hg,if_true];obtain⟨e1,e2⟩:=callArgs_look (gs:=[]) (by rw[hrd];exact hl) hop;exact s.callN hN hG hop hd (by rw[e1];exact hcal) (by rw[e2];exact hxs) hn hc h
end
section
variable {P:Program} {fr:Fr} {ro:Option Nat} {ds:DS} {st st':St} {Q Q':Exit→St→Prop} {G G':Nat→Option Value} {F F':Nat→Nat→Prop} {a:Act} {w w':World} {M M':Mem}
 {ops:Array Oper} {l rest:List Oper} {o:Oper} {N id:Nat} {rd gs:List Nat}
def Clips(P:Program)(f:FuncId):Prop:=∀(a:Addr) (n c:Nat),n≤c→(n:Int)<1000000→PureIs P f [.sc (.slice (some a) n c)] (.sc (.slice (some a) n n))
theorem OpIs.clip{f:FuncId}{callee x:Operand}{tys:Array TypeId}{i n esz:Nat}{nl fz:Bool}{es:List (List AV)}(hg:o.guard=none)(hop:o.op=.call ⟨.value callee,#[x],tys⟩)(hd:dok fr o.dst=true)
  (hcal:od fr st true callee=.fn f [])(hx:od fr st true x=.tl i n nl)(ho:mlook st.mem i=some (.arr esz es fz))(hn:n=es.length)(h0:n≠0)(hlt:(n:Int)<1000000)(hrd:rdOf fr st [] o=rd)(hc:Clips P f):
  OpIs P fr ro ds ops id st ⟨o,⟨.tv i n 0 n (.val n),none⟩,rd⟩:=by
 intro st' G F a w N K Q1 s hN hG hl h;simp only[Region.wanted,hg,if_true];have hs:=opSame_look (gs:=[]) (by rw[hrd];exact hl) (by rw[hop];rfl) (by rw[hop];rfl);rw[hop]at hs;have e1:od fr st' true callee=.fn f []:=by rw[(hs.od (x:=callee) (by simp[Op.operands,Call.operands]) true).1,hcal]
 obtain⟨e2,e3⟩:=hs.od (x:=x) (by simp[Op.operands,Call.operands]) true;have e4:mlook st'.mem i=some (.arr esz es fz):=by rw[e3 i (by rw[hx];simp[AV.ids])];exact ho
 rw[hx]at e2;refine⟨fun _ _=>trivial,?_⟩;rw[Oper.semAt_eq _ _ _ (by rw[hop];intro c h;cases h)];have hv:=(s.eval callee).unopt;have hv:RV G F st'.mem w (a.eval callee) (.fn f []):=by unfold od at e1;rwa[e1]at hv
 obtain⟨vs,hev,hl2,_⟩:=hv.inv_fn
 have hvs:vs=[]:=by cases vs with
  | nil=>rfl
  | cons a l=>simp at hl2
 subst hvs;have hxv:=(s.eval x).unopt;have hxv:RV G F st'.mem w (a.eval x) (.tl i n nl):=by unfold od at e2;rwa[e2]at hxv
 obtain⟨hGi,hnl,va,vc,hval,hcase⟩:=tl_handle s.mem hxv e4 hn;rcases hcase with⟨h1,_⟩|⟨b,cc,el,rfl,k2,k3,k4,_⟩
 ·subst h1;exact absurd hn h0
 have hrun:(execOp a.eval o).run P w=.ok (.enter f #[a.eval x]) w:=by
  obtain⟨dst,op,ty,pos,after,guard⟩:=o;simp only at hop;subst hop;simp only[execOp,resolve,hev,Deferred.ofValue,Sem.run_bind,Sem.run_pure,Result.andThen_ok,invoke];rw[(hc ⟨b,0,none⟩ n vc (by omega) hlt).1];congr 2
  all_goals (apply Array.ext';simp)
 rw[hrun];rw[←hn]at hval;have hi:Imms F w [a.eval x] [.sc (.slice (some ⟨b,0,none⟩) n vc)]:=⟨rfl,fun j h1 h2=>by
  have:j=0:=by simp at h1;omega
  subst this;simp only[List.getElem_cons_zero];rw[hval,hn];exact .sc _⟩
 refine⟨fun h=>by simp[fc,Fence.wide]at h,callsIn_fc (((hc ⟨b,0,none⟩ n vc (by omega) hlt).2 F w _ s.mem.fok hi).mono ?_)⟩;rintro e w' ⟨u,F',rfl,hu,g⟩;obtain⟨hm',S'⟩:=simM_grown s.mem g;have hu':u=.slice (some ⟨b,0,none⟩) n n:=by cases hu;rfl
 subst hu';obtain⟨s1,S1⟩:=s.put (d:=o.dst) (r:=⟨.tv i n 0 n (.val n),none⟩) (u:=.slice (some ⟨b,0,none⟩) n n) hm' (fun _=>rfl) S' hd (.tv i n 0 n _ _ (by rw[hGi];simp) fun esz' es' fz' ho'=>by
  rw[e4]at ho';cases ho';exact⟨by omega,fun _=>⟨by omega,b,vc,by rw[hGi,hval,hn],.inl k2,n,by rw[Nat.zero_mul],Nat.le_refl _,.inr (.inl rfl)⟩⟩)
 exact h G F' _ w' s1 S1 (fun _ _ h=>h)
end
inductive Anc (l:List It):Nat→Nat→Prop
 | base {i m:Nat} {t:It} (h:l[i]?=some t) (hm:m∈depsOf t.o):Anc l i m
 | step {i e m:Nat} {t:It} (h:l[i]?=some t) (he:e∈depsOf t.o) (h2:Anc l e m):Anc l i m
def ancB(l:List It):Nat→Nat→Nat→Bool
 | 0,_,_=>false
 | k+1,i,m=>match l[i]? with
   | none=>false
   | some t=>(depsOf t.o).contains m||(depsOf t.o).any fun e=>ancB l k e m
theorem ancB_spec{l:List It}:∀{k i m:Nat},ancB l k i m=true→Anc l i m
 | 0,_,_,h=>by cases h
 | k+1,i,m,h=>by
   simp only[ancB]at h;split at h
   ·cases h
   ·rename_i t ht;rw[Bool.or_eq_true]at h;rcases h with h|h
    ·exact .base ht (by simpa using h)
    ·rw[List.any_eq_true]at h;obtain⟨e,he,h⟩:=h;exact .step ht he (ancB_spec h)
structure ConfA (l:List It):Prop where
 back:∀i t,l[i]?=some t→∀e∈depsOf t.o,e<i
 edge:∀i m t u,l[i]?=some t→l[m]?=some u→i≠m→∀x,(x∈t.rd∨x∈wl t.o.dst t.r)→x∈wl u.o.dst u.r→Anc l i m∨Anc l m i
theorem ConfA.lt{l:List It}(hc:ConfA l){i m:Nat}(h:Anc l i m):m<i:=by
 induction h with
 | base h hm=>exact hc.back _ _ h _ hm
 | step h he _ ih=>have:=hc.back _ _ h _ he;omega
theorem Anc.closed{l:List It}{p:Nat→Bool}(hcl:∀i t,l[i]?=some t→p i=true→∀e∈depsOf t.o,p e=true){i m:Nat}(h:Anc l i m)(hi:p i=true):p m=true:=by
 induction h with
 | base h hm=>exact hcl _ _ h hi _ hm
 | step h he _ ih=>exact ih (hcl _ _ h hi _ he)
theorem Anc.ready{l:List It}{p:Nat→Bool}(hcl:∀i t,l[i]?=some t→p i=true→∀e∈depsOf t.o,p e=true){i m:Nat}{t:It}(h:Anc l i m)(ht:l[i]?=some t)(hd:∀e∈depsOf t.o,p e=true):p m=true:=by
 cases h with
 | base h hm=>rw[ht]at h;cases h;exact hd _ hm
 | step h he h2=>rw[ht]at h;cases h;exact h2.closed hcl (hd _ he)
def confOneA(all:List It)(i:Nat)(t:It):Nat→List It→Bool
 | _,[]=>true
 | m,u::l=>(i==m||!((t.rd++wl t.o.dst t.r).any fun x=>(wl u.o.dst u.r).contains x)||ancB all 4 i m||ancB all 4 m i)&&confOneA all i t (m+1) l
def confAllA(all:List It):Nat→List It→Bool
 | _,[]=>true
 | i,t::l=>(depsOf t.o).all (fun e=>decide (e<i))&&confOneA all i t 0 all&&confAllA all (i+1) l
section
variable {P:Program} {fr:Fr} {ro:Option Nat} {ds:DS} {st st':St} {Q:Exit→St→Prop} {G G':Nat→Option Value} {F F':Nat→Nat→Prop} {a:Act} {w w':World}
 {M M':Mem} {ops:Array Oper} {o:Oper} {id N:Nat} {S S':Nat→Bool} {d:Option Nat} {r:Rc} {x y:Nat} {l:List It}
theorem confOneA_spec{all:List It}{i:Nat}{t:It}:∀(l:List It) (m0:Nat),confOneA all i t m0 l=true→∀m u,l[m]?=some u→i≠m0+m→∀x,(x∈t.rd∨x∈wl t.o.dst t.r)→x∈wl u.o.dst u.r→Anc all i (m0+m)∨Anc all (m0+m) i:=by
 intro l
 induction l with
 | nil=>intro m0 _ m u hm;simp at hm
 | cons u0 l ih=>
   intro m0 h m u hm hne x hx hu;simp only[confOneA,Bool.and_eq_true]at h;cases m with
   | zero=>
     have e:u0=u:=by simpa using hm
     subst e;have h1:=h.1;simp only[Bool.or_eq_true,beq_iff_eq,Bool.not_eq_true']at h1;rcases h1 with((h1|h1)|h1)|h1
     ·exact absurd h1 (by simpa using hne)
     ·rw[List.any_eq_false]at h1;exact absurd (by simpa using hu) (h1 x (List.mem_append.2 hx))
     ·exact .inl (ancB_spec h1)
     ·exact .inr (ancB_spec h1)
   | succ m=>
     have:=ih (m0+1) h.2 m u (by simpa using hm) (by omega) x hx hu
     rwa[show m0+1+m=m0+(m+1) by omega]at this
theorem confAllA_spec{all:List It}:∀(l:List It) (i0:Nat),confAllA all i0 l=true→∀i t,l[i]?=some t→(∀e∈depsOf t.o,e<i0+i)∧confOneA all (i0+i) t 0 all=true:=by
 intro l
 induction l with
 | nil=>intro i0 _ i t ht;simp at ht
 | cons t0 l ih=>
   intro i0 h i t ht;simp only[confAllA,Bool.and_eq_true,List.all_eq_true,decide_eq_true_eq]at h;cases i with
   | zero=>
     have e:t0=t:=by simpa using ht
     subst e;exact⟨h.1.1,h.1.2⟩
   | succ i=>
     have:=ih (i0+1) h.2 i t (by simpa using ht)
     rwa[show i0+1+i=i0+(i+1) by omega]at this
theorem ConfA.of(h:confAllA l 0 l=true):ConfA l where
 back:=fun i t ht=>by simpa using (confAllA_spec l 0 h i t ht).1
 edge:=fun i m t u ht hu hne x hx hxu=>by
  have:=confOneA_spec l 0 (by simpa using (confAllA_spec l 0 h i t ht).2) m u hu (by simpa using hne) x hx hxu;simpa using this
theorem drawAnyA{nx:Nat}{l:List It}{st:St}{G0:Nat→Option Value}{F0:Nat→Nat→Prop}{M0:Mem}{w0:World}(hops:∀i:Nat,(ops[i]?:Option Oper)=(l[i]?).map fun t=>t.o)(hn:ops.size=l.length)(hc:ConfA l)
  (his:∀i t,l[i]?=some t→OpIs P fr ro ds ops (nx+i) (foldS fr (fun j=>decide (j<i)) 0 l st) t)
  (hQ:∀G F a w,SimD P fr ds G F (foldS fr (fun _=>true) 0 l st) (nx+l.length) a w→(∀j,nx+l.length≤j→G j=none)→Step (·<fr.base) G0 F0 M0 w0 G F (foldS fr (fun _=>true) 0 l st).mem w→Post P fr ds G0 F0 M0 w0 Q .normal a w):
  ∀(fuel:Nat) (listed:Array Bool) (G:Nat→Option Value) (F:Nat→Nat→Prop) (a:Act) (w:World),listed.size=l.length→
   SimD P fr ds G F (foldS fr (inS listed) 0 l st) (nx+l.length) a w→Step (·<fr.base) G0 F0 M0 w0 G F (foldS fr (inS listed) 0 l st).mem w→
   (∀j,nx≤j→(∀i,i<l.length→inS listed i=true→j≠nx+i)→G j=none)→
   (∀i t,l[i]?=some t→inS listed i=true→∀e∈depsOf t.o,inS listed e=true)→
   (List.range l.length).countP (fun i=>!inS listed i)≤fuel→
   wpAnyIn (fc ro) 0 P .any ops (Post P fr ds G0 F0 M0 w0 Q) fuel listed a w:=by
 have allDone:∀(listed:Array Bool) (G:Nat→Option Value) (F:Nat→Nat→Prop) (a:Act) (w:World),SimD P fr ds G F (foldS fr (inS listed) 0 l st) (nx+l.length) a w→Step (·<fr.base) G0 F0 M0 w0 G F (foldS fr (inS listed) 0 l st).mem w→
   (∀j,nx≤j→(∀i,i<l.length→inS listed i=true→j≠nx+i)→G j=none)→(∀i,i<l.length→inS listed i=true)→Post P fr ds G0 F0 M0 w0 Q .normal a w:=by
  intro listed G F a w s S hfr hall;have e:foldS fr (inS listed) 0 l st=foldS fr (fun _=>true) 0 l st:=foldS_congr fun m hm=>by rw[Nat.zero_add];exact hall m hm
  rw[e]at s S;exact hQ G F a w s (fun j hj=>hfr j (by omega) fun i hi _=>by omega) S
 have readyOf:∀(listed:Array Bool),listed.size=l.length→∀i,i∈Region.ready .any ops listed↔inS listed i=false∧∃t,l[i]?=some t∧∀e∈depsOf t.o,inS listed e=true:=by
  intro listed hsz i;rw[mem_ready];constructor
  ·rintro⟨h1,o,ho,h2⟩;rw[hops]at ho;obtain⟨t,ht,rfl⟩:=Option.map_eq_some_iff.1 ho;have hi:i<l.length:=(List.getElem?_eq_some_iff.1 ht).1;refine⟨?_,t,ht,fun e he=>?_⟩
   ·unfold inS;rw[Array.getD_eq_getD_getElem?]at h1⊢;rw[Array.getElem?_eq_getElem (by omega)]at h1⊢;exact h1
   ·simp only[depsOf,List.mem_map,List.mem_filter]at he;obtain⟨e',⟨he1,he2⟩,rfl⟩:=he;exact h2 e' (by simpa using he1) he2
  ·rintro⟨h1,t,ht,h2⟩;have hi:i<l.length:=(List.getElem?_eq_some_iff.1 ht).1;refine⟨?_,t.o,by rw[hops,ht];rfl,fun e he hb=>h2 e.on ?_⟩
   ·unfold inS at h1;rw[Array.getD_eq_getD_getElem?]at h1⊢;rw[Array.getElem?_eq_getElem (by omega)]at h1⊢;exact h1
   ·simp only[depsOf,List.mem_map,List.mem_filter];exact⟨e,⟨by simpa using he,hb⟩,rfl⟩
 have noneReady:∀(listed:Array Bool),listed.size=l.length→Region.ready .any ops listed=[]→∀i,i<l.length→inS listed i=true:=by
  intro listed hsz hr i
  induction i using Nat.strongRecOn with
  | _ i ih=>
    intro hi;cases hs:inS listed i with
    | true=>rfl
    | false=>
      have:i∈Region.ready .any ops listed:=(readyOf listed hsz i).2 ⟨hs,l[i],List.getElem?_eq_getElem hi,fun e he=>by
       have:=hc.back i l[i] (List.getElem?_eq_getElem hi) e he;exact ih e this (by omega)⟩
      rw[hr]at this;cases this
 intro fuel
 induction fuel with
 | zero=>
   intro listed G F a w hsz s S hfr hcl hcount;have hall:∀i,i<l.length→inS listed i=true:=by
    intro i hi;have h0:(List.range l.length).countP (fun i=>!inS listed i)=0:=by omega
    rw[List.countP_eq_zero]at h0;have:=h0 i (by simpa using hi);simpa using this
   refine⟨?_,allDone listed G F a w s S hfr hall⟩;cases hr:Region.ready .any ops listed with
   | nil=>rfl
   | cons i rs=>
     have:=(readyOf listed hsz i).1 (by rw[hr];exact List.mem_cons_self);obtain⟨h1,t,ht,_⟩:=this;rw[hall i (List.getElem?_eq_some_iff.1 ht).1]at h1;cases h1
 | succ fuel ih=>
   intro listed G F a w hsz s S hfr hcl hcount;refine⟨fun hr=>allDone listed G F a w s S hfr (noneReady listed hsz hr),fun i hi=>?_⟩;obtain⟨hSi,t,ht,hdep⟩:=(readyOf listed hsz i).1 hi;have hil:i<l.length:=(List.getElem?_eq_some_iff.1 ht).1;unfold wpOpIn;rw[hops,ht];simp only[Option.map_some];have hadd:∀j,inS (listed.setIfInBounds i true) j=addS (inS listed) i j:=by
    intro j;unfold inS addS;simp only[Array.getD_eq_getD_getElem?,Array.getElem?_setIfInBounds];by_cases h:i=j
    ·subst h;simp[show i<listed.size by omega]
    ·simp[h,Ne.symm h]
   have hfold:foldS fr (inS (listed.setIfInBounds i true)) 0 l st=foldS fr (addS (inS listed) i) 0 l st:=foldS_congr fun m _=>hadd _;have hlook:∀x,look fr (foldS fr (inS (listed.setIfInBounds i true)) 0 l st) x=look fr (run1 fr t.o.dst t.r (foldS fr (inS listed) 0 l st)) x:=by
    intro x;rw[hfold];refine foldS_add ht hSi (fun m u hu hlt hSm x hx=>?_) x;cases hw:wrt u.o.dst u.r x with
    | none=>rfl
    | some v=>
      exfalso;rcases hc.edge i m t u ht hu (by omega) x (.inr (wrt_wl hx)) (wrt_wl (by rw[hw];rfl))with h|h
      ·have:=hc.lt h;omega
      ·have:=h.closed hcl hSm;rw[hSi]at this;cases this
   refine his i t ht _ G F a w (nx+l.length) _ _ s (by omega) (hfr _ (by omega) fun i' _ hS' he=>?_) (fun x hx=>?_) (fun G' F' a' w' s' S' hfr'=>?_)
   ·have:i=i':=by omega
    subst this;rw[hSi]at hS';cases hS'
   ·rw[look_foldS,look_foldS];refine lastW_agree l 0 _ fun m u hu hw=>?_;rw[Nat.zero_add];by_cases hmi:m=i
    ·subst hmi;rw[hSi];simp
    ·rcases hc.edge i m t u ht hu (fun h=>hmi h.symm) x (.inl hx) (wrt_wl hw)with h|h
     ·have:=hc.lt h;rw[h.ready hcl ht hdep];simp[this]
     ·have h1:=hc.lt h;cases hSm:inS listed m with
      | false=>simp;omega
      | true=>
        have:=h.closed hcl hSm;rw[hSi]at this;cases this
   ·refine ih _ G' F' a' w' (by simpa using hsz) (s'.ext hlook) ((S.trans (S'.mono fun _ _=>trivial)).ext (look_mem hlook)) (fun j hj hne=>?_) (fun i' t' ht' hS' e he=>?_) ?_
    ·refine hfr' j (hne i hil (by rw[hadd];simp[addS])) (hfr j hj fun i' hi' hS'=>hne i' hi' (by rw[hadd];simp[addS,hS']))
    ·rw[hadd]at hS'⊢;simp only[addS,Bool.or_eq_true,decide_eq_true_eq]at hS'⊢;rcases hS' with hS'|rfl
     ·exact .inl (hcl i' t' ht' hS' e he)
     ·rw[ht]at ht';cases ht';exact .inl (hdep e he)
    ·have:=countP_less (p:=fun i=>!inS listed i) (q:=fun j=>!inS (listed.setIfInBounds i true) j) hil (by simp[hSi]) (by simp only[hadd];simp[addS]) (fun j hj=>by
       rw[hadd]at hj;simp only[addS,Bool.not_or,Bool.and_eq_true]at hj;exact hj.1)
     omega
theorem EvC.drawA{idr:Nat}{l:List Oper}{its:List It}(hm:P.follows .mixedOrders=true)(ht:Tr P fr ro ds l.toArray st.nx l st.clr its st')(hc:confAllA its 0 its=true)
  (hq:Q .normal ⟨st'.vars,st'.tmps,st'.mem,st.nx+its.length⟩):EvC P fr ro ds (.region idr l.toArray true) st Q:=by
 intro G0 F0 M0 w0 G F a w S s;obtain⟨h1,h2,h3⟩:=ht.spec;obtain⟨hm',S'⟩:=simM_drew (w':={ w with drawn:=w.drawn+1 }) (s.clr.sim.mem.more (Nat.le_add_right _ its.length)) rfl ⟨rfl,rfl,rfl,fun _=>rfl,.refl⟩;have hlen:l.length=its.length:=by rw[←h1];simp
 refine wpIn_region_any hm ?_;have hnone:∀i,inS (Array.replicate l.toArray.size false) i=false:=fun i=>by
  unfold inS;simp only[Array.getD_eq_getD_getElem?,Array.getElem?_replicate];split<;>rfl
 have e:foldS fr (inS (Array.replicate l.toArray.size false)) 0 its st.clr=st.clr:=by
  have:∀(l':List It) (m:Nat) (st:St),foldS fr (inS (Array.replicate l.toArray.size false)) m l' st=st:=by
   intro l'
   induction l' with
   | nil=>intro m st;rfl
   | cons u l' ih=>intro m st;simp only[foldS];rw[hnone];exact ih _ _
  exact this _ _ _
 refine drawAnyA (l:=its) (nx:=st.nx) (st:=st.clr) (fun i=>by rw[←h1];simp) (by simp[hlen]) (ConfA.of hc) h2 (fun G F a w s hfr S=>?_) _ _ G F a _ (by simp[hlen]) ?_ ?_ (fun j hj _=>s.fresh j hj) (fun i t _ h=>by rw[hnone]at h;cases h) ?_
 ·refine⟨G,F,_,⟨⟨?_,fun k=>?_,s.size⟩,hfr,s.defers⟩,?_,hq⟩
  ·rw[h3];exact s.mem
  ·have:=s.slots k;rw[←h3]at this;exact this
  ·rw[←h3]at S;exact S
 ·rw[e];exact⟨hm',fun k=>(s.clr.sim.slots k).step S' (fun _ _=>trivial),s.clr.sim.size,s.clr.defers⟩
 ·rw[e];exact S.trans (S'.mono fun _ _=>trivial)
 ·refine Nat.le_trans List.countP_le_length (by simp[hlen])
theorem EvC.drwA{id:Nat}{l:List Oper}{its:List It}(hm:P.follows .mixedOrders=true)(ht:Tr P fr ro ds l.toArray st.nx l st.clr its st')(hc:confAllA its 0 its=true)(hq:Q .normal (st'.fin (st.nx+its.length))):EvC P fr ro ds (.region id l.toArray true) st Q:=
 .clrQ (.drawA hm ht hc hq)
end
section
variable {P:Program} {fr:Fr} {ro:Option Nat} {ds:DS} {st st':St} {Q Q':Exit→St→Prop} {G G':Nat→Option Value} {F F':Nat→Nat→Prop} {a:Act} {w w':World} {M M':Mem}
 {ops:Array Oper} {l rest:List Oper} {o:Oper} {N id:Nat} {rd gs:List Nat}
end
theorem Imm.nil_zer{F:Nat→Nat→Prop}{w:World}{v:Value}{c:Cp}(h:Imm F w v (.sl true [] c)):Imm F w v (.sl true [] .zer):=by
 cases h with
 | nil _ _=>exact .nil _ (.inr (.inl rfl))
def nilA(M:Mem):AV→AV
 | .sl true [] _=>.sl true [] .zer
 | .tl j 0 true=>match mlook M j with
   | some (.arr _ [] _)=>.sl true [] .zer
   | _=>.tl j 0 true
 | v=>v
def St.zerN(st:St):St:=⟨st.vars,st.tmps,memMap (nilA st.mem) st.mem,st.nx⟩
attribute [go_sem] nilA St.zerN
section
variable {P:Program} {fr:Fr} {ro:Option Nat} {ds:DS} {st st':St} {Q Q':Exit→St→Prop} {G G':Nat→Option Value} {F F':Nat→Nat→Prop} {a:Act} {w w':World} {M M':Mem}
 {ops:Array Oper} {c:Code} {l rest:List Oper} {o:Oper} {N id:Nat} {rd gs:List Nat}
end
def St.mapE(f:AV→AV)(j k:Nat)(st:St):Option St:=
 match mlook st.mem j with
 | some (.arr esz es false)=>match es[k]? with
   | some c=>some ⟨st.vars,st.tmps,mset st.mem j (.arr esz (es.set k (c.map f)) false),st.nx⟩
   | none=>none
 | _=>none
attribute [go_sem] St.mapE
section
variable {P:Program} {fr:Fr} {ro:Option Nat} {ds:DS} {st st':St} {Q Q':Exit→St→Prop} {G G':Nat→Option Value} {F F':Nat→Nat→Prop} {a:Act} {w w':World} {x y c:Code} {M:Mem}
end
section
variable {P:Program} {fr:Fr} {ro:Option Nat} {ds:DS} {st st':St} {G G':Nat→Option Value} {F F':Nat→Nat→Prop} {a:Act} {w w':World} {M M':Mem}
 {ops:Array Oper} {o:Oper} {N id:Nat} {rd gs:List Nat}
theorem app_zer{t t' e e' ty:TypeId}{ti:TI}{nx:Nat}(hm:SimM P G F M nx w)(ht:telem P t=some e)(ht':telem P t'=some e')(hti:tinfo P e=some ti){v u:Value}{nl nl':Bool}{c:Cp}
  (hv:RV G F M w v (.sl nl [] .zer))(hu:RV G F M w u (.sl nl' [] c)):
  ((do pure (Next.value (←Builtin.append_ #[t,t'] ty #[v,u])):Sem Next).run P w)=.ok (.value v) w:=by
 obtain⟨va,rfl⟩:∃va,v=.slice va 0 0:=by
  cases hv.inv_sl with
  | nil _ _=>exact⟨none,rfl⟩
  | sz a _ _=>exact⟨some a,rfl⟩
  | sl b off c esz _ _ vs hc hcap hes hF hi=>
    rcases hcap with h|⟨_,h⟩|⟨h,_⟩|h
    ·cases h
    ·subst h;exact⟨some ⟨b,off,none⟩,rfl⟩
    ·cases h
    ·cases h
 obtain⟨_,hlen,cy,hcy,hry⟩:=elems_cells (size:=ti.size) hm hu (ys:=[]) rfl (fun i h=>by simp at h);have hcy0:cy=[]:=by have:=hry.1;simpa using this
 subst hcy0;exact run_v (run_append_place (w':=w) (ty:=ty) ht ht' hti (base:=va) (sLen:=0) (sCap:=0) hlen hcy (by simp) (fun a _=>by simp[storeCells]) (fun _=>rfl))
theorem OpIs.appZ{x y:Operand}{t t' e e':TypeId}{ti:TI}{nl nl':Bool}{c:Cp}(hg:o.guard=none)(hop:o.op=.call ⟨.builtin .append,#[x,y],#[t,t']⟩)(hd:dok fr o.dst=true)
  (ht:telem P t=some e)(ht':telem P t'=some e')(hti:tinfo P e=some ti)(hx:od fr st true x=.sl nl [] .zer)(hy:od fr st true y=.sl nl' [] c)(hrd:rdOf fr st [] o=rd):
  OpIs P fr ro ds ops id st ⟨o,⟨.sl nl [] .zer,none⟩,rd⟩:=by
 intro st' G F a w N K Q1 s hN hG hl h;simp only[Region.wanted,hg,if_true];have hlk:∀z∈o.op.operands.toList,opnd fr st' z=opnd fr st z:=fun z hz=>by
  cases z with
  | tmp k=>exact look_slot (hl _ (by rw[←hrd];unfold rdOf;exact List.mem_append_right _ (List.mem_append_left _ (opSlots_mem hz))))
  | _=>rfl
 rw[hop]at hlk;have hx':RV G F st'.mem w (a.eval x) (.sl nl [] .zer):=by
  rw[←hx,od,←hlk x (by simp[Op.operands,Call.operands])];exact od_rv s.eval x
 have hy':RV G F st'.mem w (a.eval y) (.sl nl' [] c):=by
  rw[←hy,od,←hlk y (by simp[Op.operands,Call.operands])];exact od_rv s.eval y
 refine⟨fun _ _=>trivial,?_⟩;rw[Oper.semAt_eq _ _ _ (by rw[hop];intro c hc;cases hc)];have hrun:(execOp a.eval o).run P w=.ok (.value (a.eval x)) w:=by
  obtain⟨dst,op,ty,pos,after,guard⟩:=o;simp only at hop;subst hop;rw[exec_builtin];simp only[List.map_toArray,List.map_cons,List.map_nil];exact app_zer (ty:=ty) s.mem ht ht' hti hx' hy'
 rw[hrun];obtain⟨s1,S1⟩:=s.put (d:=o.dst) (r:=⟨.sl nl [] .zer,none⟩) (u:=a.eval x) s.mem (fun _=>rfl) .refl hd hx';exact h _ _ _ _ s1 S1 (fun _ _ h=>h)
end
section
variable {P:Program}
theorem test_false(seen:Array Nat)(es:Array MapEntry)(c0:Nat)(h2:∀x∈es.toList,x.born<c0):(!seen.isEmpty&&!es.isEmpty&&es.all (fun x=>decide (x.born≥c0)))=false:=by
 cases he:es.isEmpty with
 | true=>simp
 | false=>
   have hall:es.all (fun x=>decide (x.born≥c0))=false:=by
    rw[Bool.eq_false_iff];intro h;rw[Array.all_eq_true_iff_forall_mem]at h;have h0:0<es.size:=by
     rcases Nat.eq_zero_or_pos es.size with h0|h0
     ·simp[Array.isEmpty,h0]at he
     ·exact h0
    have h1:=h _ (Array.getElem_mem h0);have h2:=h2 es[0] (by simp);simp at h1;omega
   simp[hall]
theorem run_setIt{w:World}{r:Nat}{x1 x2 x3 x4}(o:Obj)(h:w.heap[r]?=some (.mapIter x1 x2 x3 x4)):(setObj r o).run P w=.ok () (w.putObj r o):=by
 simp only[setObj,Sem.run,h];rfl
theorem run_range_iter{w:World}{t:TypeId}{bm:Nat}{es:Array MapEntry}{clock:Nat}(ht:(tmap P t).isSome=true)(hb:w.heap[bm]?=some (.map es clock)):
  (Instr.range t (.map (some bm))).run P w=.ok (.pointer (some ⟨w.heap.size,0,none⟩)) (w.alloc (.mapIter (some bm) clock #[] clock)):=by
 obtain⟨⟨k,e⟩,h⟩:=Option.isSome_iff_exists.1 ht;exact run_range_map w t k e bm es clock (tmap_inv h) hb
theorem run_next_iter{w:World}{ty:TypeId}{r bm since c0:Nat}{seen:Array Nat}{es:Array MapEntry}{clock:Nat}(hr:w.heap[r]?=some (.mapIter (some bm) since seen c0))(hb:w.heap[bm]?=some (.map es clock))
  (h1:∀x∈es.toList,x.born<since)(h2:∀x∈es.toList,x.born<c0):
  ((∀x∈es.toList,seen.contains x.born=true)∧(Instr.next (.pointer (some ⟨r,0,none⟩)) false ty).run P w=.ok (.tuple #[.bool false]) w)∨
  ∃(j:Nat) (hj:j<es.size) (w1:World),seen.contains es[j].born=false∧(w1=w∨w1=drew1 w)∧
   (Instr.next (.pointer (some ⟨r,0,none⟩)) false ty).run P w=.ok (.tuple #[.bool true,es[j].key,es[j].val]) (w1.putObj r (.mapIter (some bm) since (seen.push es[j].born) clock)):=by
 simp only[Instr.next,getObj,Sem.run_bind,Sem.run,hr,hb,Result.andThen,test_false seen es c0 h2,Bool.false_eq_true,if_false];have hmem:∀x∈(Array.filter (fun e=>!seen.contains e.born) es).toList,x∈es.toList∧seen.contains x.born=false:=fun x hx=>by
  have h:=Array.mem_filter.1 (Array.mem_toList_iff.1 hx);exact⟨Array.mem_toList_iff.2 h.1,by simpa using h.2⟩
 have hnone:(Array.filter (fun e=>!seen.contains e.born) es).size=0→∀x∈es.toList,seen.contains x.born=true:=fun h0 x hx=>by
  cases hc:seen.contains x.born with
  | true=>rfl
  | false=>
    have:x∈Array.filter (fun e=>!seen.contains e.born) es:=Array.mem_filter.2 ⟨Array.mem_toList_iff.1 hx,by rw[hc];rfl⟩;rw[Array.eq_empty_of_size_eq_zero h0]at this;simp at this
 generalize Array.filter (fun e=>!seen.contains e.born) es=L at hmem hnone⊢;have e1:L.filter (fun x=>decide (x.born<since))=L:=Array.filter_eq_self.2 (fun x hx=>by simpa using h1 x (hmem x (by simpa using hx)).1);have e2:L.filter (fun x=>decide (x.born≥since))=#[]:=by
  rw[Array.filter_eq_empty_iff];intro x hx;have:=h1 x (hmem x (by simpa using hx)).1;simp;omega
 simp only[e1,e2,Array.append_empty];by_cases h0:L.size=0
 ·left;refine⟨hnone h0,?_⟩;have:L=#[]:=Array.eq_empty_of_size_eq_zero h0;subst this;simp[choose,Sem.run,Question.forced]
 ·right;have hne:L.isEmpty=false:=by simp[Array.isEmpty,h0]
  simp only[hne,Bool.false_eq_true,if_false,Array.empty_append,Array.size_map];have hch:∃(k:Nat) (w1:World),k<L.size∧(w1=w∨w1=drew1 w)∧(choose (Question.mapNext L.size)).run P w=.ok k w1:=by
   by_cases hf:L.size≤1
   ·exact⟨0,w,by omega,.inl rfl,by simp[choose,Sem.run,Question.forced,hf]⟩
   ·exact⟨_,drew1 w,Nat.mod_lt _ (by omega),.inr rfl,by
     simp only[choose,Sem.run,Question.forced,decide_eq_true_eq,hf,if_false,Question.cut];rfl⟩
  obtain⟨k,w1,hk,hw,hrun⟩:=hch;obtain⟨h3,h4⟩:=hmem L[k] (by simp);obtain⟨j,hj,hje⟩:=Array.mem_iff_getElem.1 (Array.mem_toList_iff.1 h3);refine⟨j,hj,w1,by rw[hje];exact h4,hw,?_⟩;have hr1:w1.heap[r]?=some (.mapIter (some bm) since seen c0):=by rcases hw with rfl|rfl<;>exact hr
  have hset:∀o':Obj,(setObj r o').run P w1=.ok () (w1.putObj r o'):=fun o'=>run_setIt _ hr1;simp only[hrun,Array.getElem?_map,Array.getElem?_eq_getElem hk,Option.map_some,Sem.run_bind,hset,Result.andThen,hje];rfl
theorem run_entry_iter{w:World}{r bm since:Nat}{seen:Array Nat}{es:Array MapEntry}{clock j:Nat}(hj:j<es.size)(hr:w.heap[r]?=some (.mapIter (some bm) since (seen.push es[j].born) clock))(hb:w.heap[bm]?=some (.map es clock))
  (hn:(bornsOf es).Nodup):(Instr.entry (.pointer (some ⟨r,0,none⟩))).run P w=.ok (.tuple #[es[j].key,es[j].val]) w:=by
 have hf:es.find? (·.born==es[j].born)=some es[j]:=by rw[←Array.find?_toList];exact find_born es[j] es.toList hn (by simp)
 simp only[Instr.entry,getObj,Sem.run_bind,Sem.run,hr,hb,Result.andThen,Array.back?_push,bne_self_eq_false,Bool.false_eq_true,if_false,hf];rfl
end
section
variable {P:Program} {fr:Fr} {ro:Option Nat} {ds:DS} {st st1:St} {Q:Exit→St→Prop} {G:Nat→Option Value} {F:Nat→Nat→Prop} {a:Act} {w w':World}
theorem SimA.putJ{d:Nat}(s:SimA P fr ds G F st a w)(hj:st.get fr d=.junk)(u:Value):SimA P fr ds G F st (a.put (some d) u) w:=
 ⟨⟨s.sim.mem,fun k=>by
   rw[getD_put];split
   ·rename_i h;rw[h.1,hj];exact .imm (.junk _)
   ·exact s.sim.slots k,by simp only[Act.put,Array.size_setIfInBounds];exact s.sim.size⟩,s.fresh,s.defers⟩
theorem SimA.putV{d:Nat}{u:Value}{v:AV}(s:SimA P fr ds G F st a w)(hd:d<fr.sz)(h:RV G F st.mem w u v):SimA P fr ds G F (st.put fr (some d) v) (a.put (some d) u) w:=
 s.step_put (st1:=st) .refl s.sim.mem rfl rfl s.fresh (fun k hk=>by cases hk;exact hd) h
theorem Marks.putIt{l:List Deferred}{r:Nat}{x1 x2 x3 x4}(h:Marks ds l w)(hr:w.heap[r]?=some (.mapIter x1 x2 x3 x4))(o:Obj):Marks ds l (w.putObj r o):=by
 obtain⟨⟨Ds,h1,h2,h3⟩,h4,h5,h6⟩:=h;refine⟨⟨Ds,h1,h2,fun D hD=>⟨(h3 D hD).1,?_⟩⟩,fun l0 hl=>?_,h5,by rw[World.putObj_size];exact h6⟩
 ·rw[World.putObj_heap_other (by rintro rfl;have:=(h3 _ hD).2;rw[hr]at this;cases this)];exact(h3 D hD).2
 ·obtain⟨r0,hr0⟩:=h4 l0 hl;exact⟨r0,by rw[World.putObj_heap_other (by rintro rfl;rw[hr]at hr0;cases hr0)];exact hr0⟩
theorem Step.drew{B:Nat→Prop}{G0:Nat→Option Value}{F0:Nat→Nat→Prop}{M0 M:Mem}{w0:World}(S:Step B G0 F0 M0 w0 G F M w)(hF:∀b o,F b o→b<w.heap.size):Step B G0 F0 M0 w0 G F M (drew1 w):=
 S.allocs (Nat.le_refl _) (fun _ _=>rfl) hF ⟨rfl,rfl,rfl,fun _=>rfl,.refl⟩
theorem wpOp{o:Oper}{K:Act→World→Prop}{Q1:Exit→Act→World→Prop}(hd:∀c,o.op≠ .defer c){u:Value}(hrun:(execOp a.eval o).run P w=.ok (.value u) w')(h:K (a.put o.dst u) w'):o.wpIn (fc ro) 0 P a w K Q1:=by
 refine⟨fun _ _=>trivial,?_⟩;rw[Oper.semAt_eq _ _ _ hd,hrun];exact h
theorem nodup_inj{l:List Nat}(h:l.Nodup){i j:Nat}(hi:i<l.length)(hj:j<l.length)(e:l[i]=l[j]):i=j:=by
 rcases Nat.lt_trichotomy i j with h1|h1|h1
 ·exact absurd e (List.pairwise_iff_getElem.1 h i j hi hj h1)
 ·exact h1
 ·exact absurd e.symm (List.pairwise_iff_getElem.1 h j i hj hi h1)
def remOf(n:Nat)(dn:List Nat):List Nat:=(List.range n).filter fun j=>!dn.contains j
theorem rem_lt{n j:Nat}{dn:List Nat}(hj:j<n)(hn:j∉dn):(remOf n (j::dn)).length<(remOf n dn).length:=
 filter_lt (fun i=>!dn.contains i) (fun i=>!(j::dn).contains i) (fun i hi=>by simp at hi⊢;exact hi.2) j (by simpa using hn) (by simp) _ (by simpa using hj)
theorem EvC.rangeMap{σ:Type}{i1 i2 i3 out nb id it m' p q pair nxn:Nat}{t t2 t3 kt:TypeId}{ty1 ty2 ty3 ty4:TypeId}{ps1 ps2 ps3 ps4:String}{af1 af2 af3 af4:Array Edge}{mv:Oper}{rest3:List Oper}{body:Code}{ok:Bool}{es:List (Value×AV)}
  (sh:Nat→σ→St)(inv:σ→List Nat→Prop)(L:List Nat)
  (hg:mv.guard=none)(hmv:st.clr.eff fr mv.dst (xop P fr st.clr true st.clr.nx mv)=some (ok,st1))(hok:ok=true)(hd:dok fr mv.dst=true)
  (hm:opnd fr st1 (.tmp m')=.mp id)(hmm:mlook st1.mem id=some (.map kt es))(hid:id<fr.base)(ht:(tmap P t).isSome=true)(hsz:it<fr.sz∧p<fr.sz∧q<fr.sz∧pair<fr.sz)
  (hpq:p≠q∧it≠p∧it≠q)
  (h0:∀r,∃K s,gcOk fr.base nxn K=true∧(st1.put fr (some it) (.sc (.pointer (some ⟨r,0,none⟩)))).gc L K nxn=sh r s∧inv s [])
  (hj:∀r s dn,inv s dn→(sh r s).get fr it=.sc (.pointer (some ⟨r,0,none⟩))∧(sh r s).get fr p=.junk∧(sh r s).get fr q=.junk∧mlook (sh r s).mem id=some (.map kt es))
  (round:∀r s dn j (h:j<es.length),inv s dn→j∉dn→XR P fr ro ds (⟨some pair,.entry (.tmp it),ty4,ps4,af4,none⟩::rest3).toArray rest3 ((sh r s).clr.put fr (some pair) (.tu [.sc es[j].1,es[j].2]))
   (thenE (fun st'=>EvC P fr ro ds body st' (inBlockE nb (thenE (fun st''=>∃K s',gcOk fr.base nxn K=true∧st''.gc L K nxn=sh r s'∧inv s' (j::dn)) (inBlockE out Q))))
    (inBlockE nb (thenE (fun st''=>∃K s',gcOk fr.base nxn K=true∧st''.gc L K nxn=sh r s'∧inv s' (j::dn)) (inBlockE out Q)))))
  (fin:∀r s dn,inv s dn→(∀j,j<es.length→j∈dn)→Q .normal (sh r s)):
  EvC P fr ro ds (.seq (.region i1 #[mv,⟨some it,.range t (.tmp m'),ty1,ps1,af1,none⟩] false)
   (.block out (.loop (.seq (.region i2 #[⟨some p,.next (.tmp it) false,ty2,ps2,af2,none⟩,⟨some q,.extract (.tmp p) 0,ty3,ps3,af3,none⟩] false)
    (.seq (.cond (.tmp q) .skip (.exit out)) (.block nb (.seq (.region i3 (⟨some pair,.entry (.tmp it),ty4,ps4,af4,none⟩::rest3).toArray false) body))))))) st Q:=by
 intro G0 F0 M0 w0 G F a w S s;refine wpIn_seq (wpIn_region_lit (l:=[mv,_]) ?_);refine wpListIn_plain hg fun K hK=>s.clr.wp hmv hok (dok_spec hd) fun G1 F1 a1 w1 s1 S1=>hK _ _ ?_;have hmp:∃bm,G1 id=some (.map (some bm))∧a1.eval (.tmp m')=.map (some bm):=by
  have:=s1.eval (.tmp m');rw[hm]at this;exact this.inv_mp
 obtain⟨bm,hG1,hval⟩:=hmp;obtain⟨ents1,clock1,hb1,hsz1,hent1,_⟩:=map_of s1.sim.mem hG1 hmm;have S01:Step (·<fr.base) G0 F0 M0 w0 G1 F1 st1.mem w1:=S.trans (S1.mono fun _ _=>trivial);refine wpListIn_plain rfl fun K hK=>wpOp (u:=.pointer (some ⟨w1.heap.size,0,none⟩)) (fun c=>by simp) (by
  refine run_v ?_;rw[hval];exact run_range_iter ht hb1) (hK _ _ (wpListIn_nil ?_))
 have hr1:(w1.alloc (.mapIter (some bm) clock1 #[] clock1)).heap[w1.heap.size]?=some (.mapIter (some bm) clock1 #[] clock1):=World.alloc_heap_new w1 _;have hold:∀b,b<w1.heap.size→(w1.alloc (.mapIter (some bm) clock1 #[] clock1)).heap[b]?=w1.heap[b]?:=fun b hb=>RowKit.Below.heap_alloc _ _ _ hb;have hkd:∀(b:Nat) (o:Obj),w1.heap[b]?=some o→(w1.alloc (.mapIter (some bm) clock1 #[] clock1)).heap[b]?=some o:=fun b o hb=>by
  rw[hold _ (Array.getElem?_eq_some_iff.1 hb).1];exact hb
 have hs2:w1.heap.size≤(w1.alloc (.mapIter (some bm) clock1 #[] clock1)).heap.size:=by rw[World.size_alloc];omega
 have s2:=s1.keepData (fun b o hb _=>hkd b o hb) hs2 (s1.defers.keep (fun b o hb _=>hkd b o hb) hs2);have S02:=S01.allocs hs2 hold s1.sim.mem.inF (.push rfl);have s3:=s2.putV (u:=.pointer (some ⟨w1.heap.size,0,none⟩)) hsz.1 (.imm (.sc _));have hb2:=hkd bm _ hb1;have hrw:w0.heap.size≤w1.heap.size:=S01.size;have hrbm:bm≠w1.heap.size:=by have:=(Array.getElem?_eq_some_iff.1 hb1).1;omega
 show Code.wpIn (fc ro) 0 P _ _ _ _;generalize hw2:w1.alloc (.mapIter (some bm) clock1 #[] clock1)=w2 at *;generalize hr:w1.heap.size=r at *;obtain⟨K0,σ0,hK0,hsh0,hinv0⟩:=h0 r;have S03:Step (·<fr.base) G0 F0 M0 w0 G1 F1 (st1.put fr (some it) (.sc (.pointer (some ⟨r,0,none⟩)))).mem w2:=by rw[St.put_mem];exact S02
 obtain⟨s4,S4⟩:=s3.gc (L:=L) (nx:=nxn) hK0;rw[hsh0]at s4 S4;have hG4:gcG fr.base K0 G1 id=some (.map (some bm)):=by unfold gcG;rw[if_pos hid];exact hG1
 have hbl:(bornsOf ents1).length=es.length:=by simp[bornsOf,hsz1.1]
 obtain⟨hb3,hb4⟩:=hsz1.2;have hb3':∀x∈bornsOf ents1,x<clock1:=fun x hx=>by
  obtain⟨y,hy,rfl⟩:=List.mem_map.1 hx;exact hb3 y hy
 have hb4:(bornsOf ents1).Nodup:=hb4;generalize hbs:bornsOf ents1=bs at *
 let J:Act→World→List Nat→Prop:=fun a w dn=>∃s G F seen c0 ents clock,Step (·<fr.base) G0 F0 M0 w0 G F (sh r s).mem w∧SimA P fr ds G F (sh r s) a w∧inv s dn∧G id=some (.map (some bm))∧
  w.heap[r]?=some (.mapIter (some bm) clock1 seen c0)∧w.heap[bm]?=some (.map ents clock)∧bornsOf ents=bs∧(∀x∈bs,x<c0)∧∀j (h:j<bs.length),seen.contains bs[j]=true↔j∈dn
 refine wpIn_block (wpIn_loop (fun a w=>∃dn,J a w dn) (fun a w=>leastOf fun n=>∃dn,J a w dn∧(remOf es.length dn).length=n) ⟨[],σ0,_,_,#[],clock1,ents1,clock1,S03.trans S4,s4,hinv0,hG4,hr1,hb2,hbs,hb3',fun j h=>by simp⟩ ?_);rintro a3 w3 ⟨dn1,h1⟩;obtain⟨dn,hJ,hμ⟩:=leastOf_spec (p:=fun n=>∃dn,J a3 w3 dn∧(remOf es.length dn).length=n) ⟨_,dn1,h1,rfl⟩;rw[←hμ];clear hμ h1 dn1;obtain⟨s,G,F,seen,c0,ents,clock,S,s',hinv,hG,hr3,hb,hbe,hc0,hseen⟩:=hJ;obtain⟨hj1,hj2,hj3,hj4⟩:=hj r s dn hinv;obtain⟨ents',clock',hb',hsz3,hent3,_⟩:=map_of s'.sim.mem hG hj4;rw[hb]at hb';cases hb';have hmemb:∀x∈ents.toList,x.born∈bs:=fun x hx=>by rw[←hbe];exact List.mem_map.2 ⟨x,hx,rfl⟩
 have hit:a3.eval (.tmp it)=.pointer (some ⟨r,0,none⟩):=by
  have:=s'.sim.slots it;rw[hj1]at this;exact this.inv_sc
 refine wpIn_seq (wpIn_region_lit (l:=[_,_]) ?_);have hpx:∀(u:Value),(a3.put (some p) u).eval (.tmp p)=u:=fun u=>by
  show(a3.put (some p) u).tmps.getD p undef=u;rw[getD_put,if_pos ⟨rfl,by rw[s'.sim.size];exact hsz.2.1⟩]
 have hqx:∀(u v:Value),((a3.put (some p) u).put (some q) v).eval (.tmp q)=v:=fun u v=>by
  show((a3.put (some p) u).put (some q) v).tmps.getD q undef=v;rw[getD_put,if_pos ⟨rfl,by simp only[Act.put,Array.size_setIfInBounds];rw[s'.sim.size];exact hsz.2.2.1⟩]
 rcases run_next_iter (P:=P) (ty:=ty2) hr3 hb (fun x hx=>hb3' _ (hmemb x hx)) (fun x hx=>hc0 _ (hmemb x hx))with⟨hall,hrun⟩|⟨j,hjn,w4,hns,hw4,hrun⟩
 ·refine wpListIn_plain rfl fun K hK=>wpOp (u:=.tuple #[.bool false]) (fun c=>by simp) (by
    refine run_v ?_;rw[hit];exact hrun) (hK _ _ ?_)
  refine wpListIn_plain rfl fun K hK=>wpOp (u:=.bool false) (fun c=>by simp) (by
   refine run_v ?_;rw[hpx];rfl) (hK _ _ (wpListIn_nil ?_))
  refine wpIn_seq (wpIn_cond_split (hqx _ _) (fun h=>by cases h) fun _=>wpIn_exit ?_);show Exit.inBlock out _ (.exit out) _ _;simp only[Exit.inBlock,if_true];refine⟨G,F,sh r s,(s'.putJ hj2 _).putJ hj3 _,S,fin r s dn hinv fun j hjl=>?_⟩;have hjb:j<bs.length:=by omega
  rw[←hseen j hjb];have hjs:j<ents.toList.length:=by rw[←hbe]at hjb;simpa[bornsOf]using hjb
  have:=hall ents.toList[j] (List.getElem_mem hjs);have e:bs[j]=ents.toList[j].born:=by simp only[←hbe,bornsOf,List.getElem_map]
  rw[e];exact this
 ·have hjb:j<bs.length:=by rw[←hbe];simpa[bornsOf]using hjn
  have ejb:bs[j]=ents[j].born:=by simp only[←hbe,bornsOf,List.getElem_map,Array.getElem_toList]
  have hjl:j<es.length:=by omega
  have hjd:j∉dn:=fun h=>by
   have:=(hseen j hjb).2 h;rw[ejb,hns]at this;cases this
  have h4:w4.heap=w3.heap∧Step (·<fr.base) G0 F0 M0 w0 G F (sh r s).mem w4∧Marks ds a3.defers w4:=by
   rcases hw4 with rfl|rfl
   ·exact⟨rfl,S,s'.defers⟩
   ·exact⟨rfl,S.drew s'.sim.mem.inF,s'.defers⟩
  obtain⟨h4h,S4',m4⟩:=h4;have hr4:w4.heap[r]?=some (.mapIter (some bm) clock1 seen c0):=by rw[h4h];exact hr3
  have hrl:r<w4.heap.size:=(Array.getElem?_eq_some_iff.1 hr4).1;have S5:=S4'.putAbove hrw hr4 rfl (o2:=.mapIter (some bm) clock1 (seen.push ents[j].born) clock) rfl;have hkd5:∀(b:Nat) (o:Obj),w3.heap[b]?=some o→isData o=true→(w4.putObj r (.mapIter (some bm) clock1 (seen.push ents[j].born) clock)).heap[b]?=some o:=fun b o hb ho=>keep_put hr4 rfl _ b o (by rw[h4h];exact hb) ho;have s5:=s'.keepData (w':=w4.putObj r (.mapIter (some bm) clock1 (seen.push ents[j].born) clock)) hkd5 (by rw[World.putObj_size,h4h];exact Nat.le_refl _) (m4.putIt hr4 _);have hr5:=World.putObj_heap_same (o:=.mapIter (some bm) clock1 (seen.push ents[j].born) clock) hrl;have hb5:(w4.putObj r (.mapIter (some bm) clock1 (seen.push ents[j].born) clock)).heap[bm]?=some (.map ents clock):=by rw[World.putObj_heap_other hrbm,h4h];exact hb
  generalize w4.putObj r (.mapIter (some bm) clock1 (seen.push ents[j].born) clock)=w5 at *;refine wpListIn_plain rfl fun K hK=>wpOp (u:=.tuple #[.bool true,ents[j].key,ents[j].val]) (w':=w5) (fun c=>by simp) (by
   refine run_v ?_;rw[hit];exact hrun) (hK _ _ ?_)
  refine wpListIn_plain rfl fun K hK=>wpOp (u:=.bool true) (fun c=>by simp) (by
   refine run_v ?_;rw[hpx];rfl) (hK _ _ (wpListIn_nil ?_))
  have s6:=((s5.putJ hj2 (.tuple #[.bool true,ents[j].key,ents[j].val])).putJ hj3 (.bool true));refine wpIn_seq (wpIn_cond_split (hqx _ _) (fun _=>wpIn_skip ?_) fun h=>by cases h);have hit6:=s6.sim.slots it;rw[hj1]at hit6;have hit6:=hit6.inv_sc;obtain⟨k1,k2,_⟩:=hent3 j hjn hjl
  let B:Exit→St→Prop:=inBlockE nb (thenE (fun st''=>∃K s',gcOk fr.base nxn K=true∧st''.gc L K nxn=sh r s'∧inv s' (j::dn)) (inBlockE out Q))
  have hreg:(Code.region i3 (⟨some pair,.entry (.tmp it),ty4,ps4,af4,none⟩::rest3).toArray false).wpIn (fc ro) 0 P (Post P fr ds G F (sh r s).mem w5 (thenE (fun st'=>EvC P fr ro ds body st' B) B))
    ((a3.put (some p) (.tuple #[.bool true,ents[j].key,ents[j].val])).put (some q) (.bool true)) w5:=by
   refine wpIn_region_lit ?_;refine wpListIn_plain rfl fun K hK=>wpOp (u:=.tuple #[ents[j].key,ents[j].val]) (fun c=>by simp) (by
    refine run_v ?_;show(Instr.entry (((a3.put _ _).put _ _).tmps.getD it undef)).run P _=_;rw[hit6];exact run_entry_iter hjn hr5 hb5 (by rw[hbe];exact hb4)) (hK _ _ ?_)
   have s7:=s6.clr.putV (d:=pair) (u:=.tuple #[ents[j].key,ents[j].val]) (v:=.tu [.sc es[j].1,es[j].2]) hsz.2.2.2 (.tu [ents[j].key,ents[j].val] _ rfl fun i h1 h2=>by
    rcases i with _|_|i
    ·simp only[List.getElem_cons_zero,k1];exact .imm (.sc _)
    ·simp only[List.getElem_cons_succ,List.getElem_cons_zero];exact k2.keepData hkd5
    ·simp at h1;omega)
   exact round r s dn j hjl hinv hjd _ _ _ _ _ _ _ _ (by rw[St.put_mem];exact .refl) s7
  have hB:∀e a' w',Post P fr ds G F (sh r s).mem w5 B e a' w'→Exit.inBlock nb (Exit.then (fun a' w'=>(∃dn,J a' w' dn)∧(leastOf fun n=>∃dn,J a' w' dn∧(remOf es.length dn).length=n)<(remOf es.length dn).length) (Exit.inBlock out (Post P fr ds G0 F0 M0 w0 Q))) e a' w':=by
   rintro e a' w' ⟨G',F',st',h1,h2,h3⟩;have hS0:=S5.trans h2;have norm:(∃K s',gcOk fr.base nxn K=true∧st'.gc L K nxn=sh r s'∧inv s' (j::dn))→(∃dn,J a' w' dn)∧(leastOf fun n=>∃dn,J a' w' dn∧(remOf es.length dn).length=n)<(remOf es.length dn).length:=by
    rintro⟨K',s2,hK',hsh',hinv'⟩;obtain⟨t1,T1⟩:=h1.gc (L:=L) (nx:=nxn) hK';rw[hsh']at t1 T1;have hG':G' id=some (.map (some bm)):=h2.same id _ hid hG (fun a n c h=>by cases h);have hG'':gcG fr.base K' G' id=some (.map (some bm)):=by unfold gcG;rw[if_pos hid];exact hG'
    obtain⟨_,_,_,hj4'⟩:=hj r s2 (j::dn) hinv';obtain⟨ents2,clock2,q1,q2,_,_⟩:=map_of t1.sim.mem hG'' hj4';obtain⟨ents3,clock3,q3,q4⟩:=h2.kept.maps bm ents clock hb5;rw[q1]at q3;cases q3;have hbe2:bornsOf ents2=bs:=by
     rw[hbe]at q4;exact(q4.eq_of_length (by rw[hbl];simp[bornsOf,q2.1])).symm
    have hJ':J a' w' (j::dn):=⟨s2,_,_,seen.push ents[j].born,clock,ents2,clock2,hS0.trans T1,t1,hinv',hG'',h2.keepObj s5.sim.mem hr5 rfl,q1,hbe2,fun x hx=>by
     rw[←hbe]at hx;obtain⟨y,hy,rfl⟩:=List.mem_map.1 hx;exact hsz3.2.1 y hy,fun i hi=>by
     rw[contains_push,Bool.or_eq_true,hseen i hi,←ejb,List.mem_cons,beq_iff_eq];constructor
     ·rintro(h|h)
      ·exact .inr h
      ·exact .inl (nodup_inj hb4 _ _ h)
     ·rintro(rfl|h)
      ·exact .inr rfl
      ·exact .inl h⟩
    exact⟨⟨_,hJ'⟩,Nat.lt_of_le_of_lt (leastOf_le (p:=fun n=>∃dn,J a' w' dn∧(remOf es.length dn).length=n) ⟨_,hJ',rfl⟩) (rem_lt hjl hjd)⟩
   cases e with
   | normal=>exact norm h3
   | exit id'=>
     simp only[Exit.inBlock];simp only[B,inBlockE]at h3;split
     ·rename_i hi;rw[if_pos hi]at h3;exact norm h3
     ·rename_i hi;rw[if_neg hi]at h3;simp only[Exit.then,Exit.inBlock];simp only[thenE,inBlockE]at h3;split
      ·rename_i hi;rw[if_pos hi]at h3;exact⟨G',F',st',h1,hS0,h3⟩
      ·rename_i hi;rw[if_neg hi]at h3;exact⟨G',F',st',h1,hS0,h3⟩
   | _=>exact⟨G',F',st',h1,hS0,h3⟩
  refine wpIn_block (wpIn_seq (wpIn_mono hreg fun e a' w' h=>?_));cases e with
  | normal=>
    obtain⟨G',F',st',h1,h2,h3⟩:=h;exact wpIn_mono (h3 _ _ _ _ _ _ _ _ h2 h1) hB
  | exit i=>obtain⟨G',F',st',h1,h2,h3⟩:=h;exact hB (.exit i) _ _ ⟨G',F',st',h1,h2,h3⟩
  | goto l=>obtain⟨G',F',st',h1,h2,h3⟩:=h;exact hB (.goto l) _ _ ⟨G',F',st',h1,h2,h3⟩
  | ret=>obtain⟨G',F',st',h1,h2,h3⟩:=h;exact hB .ret _ _ ⟨G',F',st',h1,h2,h3⟩
  | panic c=>obtain⟨G',F',st',h1,h2,h3⟩:=h;exact hB (.panic c) _ _ ⟨G',F',st',h1,h2,h3⟩
  | outgrown=>obtain⟨G',F',st',h1,h2,h3⟩:=h;exact hB .outgrown _ _ ⟨G',F',st',h1,h2,h3⟩
end
def St.unkV(fr:Fr)(k:Nat)(st:St):Option St:=
 match(st.get fr k).noref with
 | true=>some (st.put fr (some k) (st.get fr k).unk)
 | false=>none
attribute [go_sem] St.unkV
section
variable {P:Program} {fr:Fr} {ro:Option Nat} {ds:DS} {st st':St} {Q:Exit→St→Prop} {G:Nat→Option Value} {F:Nat→Nat→Prop} {a:Act} {w:World} {c:Code}
theorem SimA.unkV{k:Nat}(s:SimA P fr ds G F st a w)(h:st.unkV fr k=some st'):SimA P fr ds G F st' a w∧st'.mem=st.mem:=by
 unfold St.unkV at h;split at h
 ·rename_i hn;cases h;refine⟨⟨⟨by rw[St.put_mem,St.put_nx];exact s.sim.mem,fun j=>?_,s.sim.size⟩,fun j hj=>s.fresh j (by rw[St.put_nx]at hj;exact hj),s.defers⟩,St.put_mem ..⟩;rw[St.put_mem,St.get_put];split
  ·rename_i hj;subst hj;exact .imm ((s.sim.slots j).imm_of hn).unk
  ·exact s.sim.slots j
 ·cases h
theorem EvC.unkV(k:Nat)(h:st.unkV fr k=some st')(hc:EvC P fr ro ds c st' Q):EvC P fr ro ds c st Q:=
 EvC.conv (fun G F _ _ s=>⟨G,F,(s.unkV h).1,by rw[(s.unkV h).2];exact .refl⟩) hc
end
section
variable {P:Program} {fr:Fr} {ro:Option Nat} {ds:DS} {st st':St} {Q Q':Exit→St→Prop} {G G':Nat→Option Value} {F F':Nat→Nat→Prop} {a:Act} {w w':World} {c:Code}
 {M:Mem} {ops:Array Oper} {l rest:List Oper} {o:Oper} {id N:Nat} {rd:List Nat}
theorem BodyIs.calls{f:FuncId}{xs:List AV}{nx:Nat}{R:AV→Mem→Nat→Prop}(hb:BodyIs P f xs M nx R):
  callable P f∧∀G F w (vals:List Value),SimM P G F M nx w→(∀j,nx≤j→G j=none)→(vals.length=xs.length∧∀i (h1:i<vals.length) (h2:i<xs.length),RV G F M w vals[i] xs[i])→
   CallsIn Fence.wide 0 P f vals.toArray w fun e w2=>∃u G' F' r M' nx',e=.returned u∧R r M' nx'∧RV G' F' M' w2 u r∧SimM P G' F' M' nx' w2∧(∀j,nx'≤j→G' j=none)∧Step All G F M w G' F' M' w2:=by
 obtain⟨fn,c,nv,hid,hf,hb,hnm,hsz,hbody⟩:=hb;refine⟨callable_of hf hnm (by rw[hb];rfl),fun G F w vals hm hfr hi=>?_⟩;have s0:SimA P ⟨nx,nv,hid,fn.ntmps⟩ ⟨w.heap.size,none,false⟩ G F ⟨vars0 0 xs,[],M,nx⟩ { tmps:=vals.toArray++Array.replicate (fn.ntmps-vals.toArray.size) undef,defers:=[] } w:=by
  refine⟨⟨hm,fun k=>?_,by simp;omega⟩,hfr,Marks.none _ _ _ (Nat.le_refl _)⟩;have key:∀x,(x=.junk∨∃h:k<xs.length,x=xs[k])→RV G F M w ((vals.toArray++Array.replicate (fn.ntmps-vals.toArray.size) undef).getD k undef) x:=by
   rintro x (rfl|⟨hk,rfl⟩)
   ·exact .imm (.junk _)
   ·have:(vals.toArray++Array.replicate (fn.ntmps-vals.toArray.size) undef).getD k undef=vals[k]'(by omega):=by
      rw[Array.getD_eq_getD_getElem?,Array.getElem?_append_left (by simp;omega)];simp[List.getElem?_eq_getElem (show k<vals.length by omega)]
    rw[this];exact hi.2 k (by omega) hk
  refine key _ ?_;unfold St.get;split
  ·rcases alook_vars0 xs 0 k with h|⟨h1,h2,h3⟩
   ·exact .inl h
   ·exact .inr ⟨by simpa using h1,by simpa using h3⟩
  ·exact .inl rfl
 refine callsIn_of_wp_marks (F:=Fence.wide) hf hb trivial (wpIn_mono (hbody _ _ _ _ _ _ _ _ _ .refl s0) ?_);rintro e a' w' ⟨G',F',st',s',S',he,rs,hrs,hR⟩;have SA:=S'.all hfr;have hfin:∀(Ds:List Nat) (w2:World),Ds.Nodup→(∀D∈Ds,w.heap.size≤D∧w2.heap[D]?=some (.deferred (some [])))→SimA P ⟨nx,nv,hid,fn.ntmps⟩ ⟨w.heap.size,none,false⟩ G' F' st' { a' with defers:=[] } w2→Step All G F M w G' F' st'.mem w2→
   LeavesInM Fence.wide 0 P fn a'.tmps (fun e w2=>∃u G' F' r M' nx',e=.returned u∧R r M' nx'∧RV G' F' M' w2 u r∧SimM P G' F' M' nx' w2∧(∀j,nx'≤j→G' j=none)∧Step All G F M w G' F' M' w2) (Ds.map dmark) .returning w2:=by
  intro Ds
  induction Ds with
  | nil=>
    intro w2 _ _ s2 S2;obtain⟨u,hu,hru⟩:=resultsR_ok s2 hrs;exact⟨u,hu,u,G',F',mkRes rs,st'.mem,st'.nx,rfl,hR,hru,s2.sim.mem,s'.fresh,S2⟩
  | cons D Ds ih=>
    intro w2 hnd hD s2 S2;obtain⟨h1,h2⟩:=hD D List.mem_cons_self;have hnd:=List.nodup_cons.1 hnd;have hk:∀(b:Nat) (o:Obj),w2.heap[b]?=some o→isData o=true→(w2.putObj D (.deferred none)).heap[b]?=some o:=fun b o hb ho=>by
     rw[World.putObj_heap_other (by rintro rfl;rw[h2]at hb;cases hb;cases ho)];exact hb
    refine⟨(by intro h;cases h),.inl ⟨D,_,rfl,run_takeDeferred h2,ih _ hnd.2 (fun D' hD'=>?_) ⟨⟨s2.sim.mem.keepData hk (by rw[World.putObj_size];exact Nat.le_refl _),fun k=>(s2.sim.slots k).keepData hk,s2.sim.size⟩,s2.fresh,Marks.none _ _ _ (by rw[World.putObj_size];exact S2.size)⟩ ?_⟩⟩
    ·refine⟨(hD D' (List.mem_cons_of_mem _ hD')).1,?_⟩;rw[World.putObj_heap_other (by rintro rfl;exact hnd.1 hD')];exact(hD D' (List.mem_cons_of_mem _ hD')).2
    ·exact S2.putAbove h1 h2 rfl rfl
 obtain⟨⟨Ds,hDs,hnd,hD⟩,_⟩:=s'.defers;have:=hfin Ds w' hnd hD ⟨⟨s'.sim.mem,s'.sim.slots,s'.sim.size⟩,s'.fresh,Marks.none _ _ _ SA.size⟩ SA;rw[←hDs]at this;rcases he with rfl|rfl
 ·exact this
 ·exact this
def prM(n:Nat)(es:List (List AV))(x:AV):Mem:=[(0,.cells [.tv 1 n 0 n .unk,x]),(1,.arr 1 es false)]
def WrIs(P:Program)(f:FuncId)(n:Nat)(es:List (List AV))(y r:AV)(es':List (List AV)):Prop:=
 ∀v:Value,BodyIs P f [.rf 0 0,y] (prM n es (.sc v)) 2 fun r' M' _=>r'=r∧M'=prM n es' (.sc v)
theorem simM_wr{i u n:Nat}{e r y:AV}{es es':List (List AV)}{f:FuncId}{x1:Value}(hm:SimM P G F M N w)(hi:mlook M i=some (.cells [.tv u n 0 n .unk,e]))(hu:mlook M u=some (.arr 1 es false))
  (hn:n=es.length)(h0:n≠0)(hl:es'.length=es.length)(hes:es.all AV.norefs=true)(hes':es'.all AV.norefs=true)(hy:y.noref=true)(hr:r.noref=true)(hc:WrIs P f n es y r es'){b:Nat}(hG:G i=some (.pointer (some ⟨b,0,none⟩)))(hx1:Imm F w x1 y):
  callable P f∧CallsIn Fence.wide 0 P f #[.pointer (some ⟨b,0,none⟩),x1] w fun ed w2=>∃v F',ed=.returned v∧Imm F' w2 v r∧SimM P G F' (mset M u (.arr 1 es' false)) N w2∧Step All G F M w G F' (mset M u (.arr 1 es' false)) w2:=by
 subst hn;have hui:u≠i:=by rintro rfl;rw[hi]at hu;cases hu
 obtain⟨hiN,hio⟩:=hm.obj i _ hi;obtain⟨huN,huo⟩:=hm.obj u _ hu;obtain⟨b',c,el,k1,k2,k3,k4,k5⟩:=hio;rw[hG]at k1;cases k1;rcases huo with⟨q0,_⟩|⟨bu,cu,ccu,eu,q1,q2,q3,q4,q5,q6,q7,q8,q9⟩
 ·rw[q0]at h0;exact absurd rfl h0
 have hc2:c.size=2:=by rw[k3];rfl
 have hv0:=k4 0 (by omega) (by simp);have hv1:=k4 1 (by omega) (by simp);simp only[List.getElem_cons_zero,List.getElem_cons_succ]at hv0 hv1;have hbne:b≠bu:=fun he=>hui (hm.inj u i _ _ bu (by simp[hu]) (by simp[hi]) q1 hG (by simp[blkOf,q2]) (by simp[blkOf,he]));obtain⟨gG,hgG⟩:∃gG:Nat→Option Value,gG=fun j=>if j=0 then G i else if j=1 then G u else none:=⟨_,rfl⟩;have g0:gG 0=some (.pointer (some ⟨b,0,none⟩)):=by rw[hgG];exact hG
 have g1:gG 1=some (.slice (some ⟨bu,0,none⟩) es.length cu):=by rw[hgG];exact q1
 have g2:∀j,2≤j→gG j=none:=fun j hj=>by rw[hgG];simp only;rw[if_neg (by omega),if_neg (by omega)]
 have m0:∀(es2:List (List AV)) (x:AV),mlook (prM es.length es2 x) 0=some (.cells [.tv 1 es.length 0 es.length .unk,x]):=fun _ _=>rfl;have m1:∀(es2:List (List AV)) (x:AV),mlook (prM es.length es2 x) 1=some (.arr 1 es2 false):=fun _ _=>rfl;have m2:∀(es2:List (List AV)) (x:AV) j,2≤j→mlook (prM es.length es2 x) j=none:=fun _ _ j hj=>by
  simp only[prM,mlook];rw[if_neg (by omega),if_neg (by omega)]
 obtain⟨v,hv⟩:∃v,v=c[1]'(by omega):=⟨_,rfl⟩;have imm_row:∀{x:Value} {k j:Nat} (hk:k<es.length) (hj:j<es[k].length),RV G F M w x es[k][j]→Imm F w x es[k][j]:=fun hk hj h=>h.imm_of (all_norefs hes _ _ hk hj);have hm1:SimM P gG F (prM es.length es (.sc v)) 2 w:=by
  refine⟨fun j ob hj=>?_,fun j j' z z' bb h1 h2 h3 h4 h5 h6=>?_,hm.inF,hm.gl⟩
  ·by_cases hj0:j=0
   ·subst hj0;rw[m0]at hj;cases hj;refine⟨by omega,b,c,el,g0,k2,by rw[hc2];rfl,fun t h1 h2=>?_,k5⟩
    match t with
    | 0=>
      obtain⟨_,hh⟩:=hv0.inv_tv;obtain⟨h3,h4⟩:=hh _ _ _ hu;obtain⟨h5,b2,c2,h6,h7,h8⟩:=h4 rfl;rw[q1]at h6;cases h6;refine .tv 1 es.length 0 es.length .unk _ (by rw[g1];simp) fun esz es1 fz ho=>?_;rw[m1]at ho;cases ho;rw[g1];exact⟨h3,fun _=>⟨h5,bu,cu,rfl,h7,h8⟩⟩
    | 1=>
      simp only[List.getElem_cons_zero,List.getElem_cons_succ];rw[hv];exact .imm (.sc _)
   ·by_cases hj1:j=1
    ·subst hj1;rw[m1]at hj;cases hj;refine⟨by omega,.inr ⟨bu,cu,ccu,eu,g1,q2,q3,q4,q5,q6,fun k j hk hj=>?_,q8,q9⟩⟩;obtain⟨z,z1,z2,z3⟩:=q7 k j hk hj;exact⟨z,z1,z2,.imm (imm_row hk hj z3)⟩
    ·rw[m2 _ _ j (by omega)]at hj;cases hj
  ·have lt:∀j,mlook (prM es.length es (.sc v)) j≠none→j=0∨j=1:=fun j hj=>by
     by_cases h:2≤j
     ·exact absurd (m2 _ _ j h) hj
     ·omega
   rcases lt j h1 with rfl|rfl<;>rcases lt j' h2 with rfl|rfl
   ·rfl
   ·rw[g0]at h3;rw[g1]at h4;cases h3;cases h4;simp only[blkOf,Option.some.injEq]at h5;simp only[blkOf,if_neg q2,Option.some.injEq]at h6;omega
   ·rw[g1]at h3;rw[g0]at h4;cases h3;cases h4;simp only[blkOf,Option.some.injEq]at h6;simp only[blkOf,if_neg q2,Option.some.injEq]at h5;omega
   ·rfl
 obtain⟨hca,hcalls⟩:=(hc v).calls;refine⟨hca,(hcalls gG F w [.pointer (some ⟨b,0,none⟩),x1] hm1 g2 ⟨rfl,fun k h1 h2=>?_⟩).mono ?_⟩
 ·match k with
  | 0=>exact .rf 0 0 b g0
  | 1=>exact .imm hx1
 rintro ed w2 ⟨z,G',F',r',M',nx',rfl,⟨rfl,rfl⟩,hz,hm',hfr',S1⟩;have e1:G' 1=gG 1:=by
  obtain⟨ob,w1,w1',h1,h2,h3,h4⟩:=S1.keep 1 _ trivial (by rw[g1];simp) (m1 es' (.sc v));rw[m1]at h1;cases h1;obtain⟨_,h5⟩:=h4;rcases h5 with⟨_,h5⟩|h5
  ·rw[h3,h2,h5]
  ·omega
 have e0:G' 0=gG 0:=by
  obtain⟨ob,w1,w1',h1,h2,h3,h4⟩:=S1.keep 0 _ trivial (by rw[g0];simp) (m0 es' (.sc v));rw[m0]at h1;cases h1;rw[h3,h2];exact congrArg some h4
 have ownM:∀bb,Owned gG (prM es.length es (.sc v)) bb→Owned G M bb:=fun bb ⟨j,ob,z,h1,h2,h3⟩=>by
  have:j=0∨j=1:=by
   by_cases h:2≤j
   ·rw[m2 _ _ j h]at h1;cases h1
   ·omega
  rcases this with rfl|rfl
  ·exact⟨i,_,z,hi,by rw[hG,←g0];exact h2,h3⟩
  ·exact⟨u,_,z,hu,by rw[q1,←g1];exact h2,h3⟩
 have S:Step All G F M w G F' (mset M u (.arr 1 es' false)) w2:=
  { kept:=S1.kept
    size:=S1.size
    out:=fun bb hb ho=>S1.out bb hb fun h=>ho (ownM bb h)
    F1:=S1.F1
    F2:=S1.F2
    F3:=fun bb o h=>by rcases S1.F3 bb o h with h|h|h
                       ·exact .inl h
                       ·exact .inr (.inl h)
                       ·exact .inr (.inr (ownM bb h))
    own:=fun bb ⟨j,ob,z,h1,h2,h3⟩=>by
     rw[mlook_mset]at h1;by_cases hj:j=u
     ·subst hj;exact .inr ⟨j,_,z,hu,h2,h3⟩
     ·rw[if_neg hj]at h1;exact .inr ⟨j,ob,z,h1,h2,h3⟩
    some':=fun _ _ h=>h
    same:=fun _ _ _ h _=>h
    keep:=fun j o' _ hj ho=>by
     cases hg:G j with
     | none=>exact absurd hg hj
     | some z=>
       rw[mlook_mset]at ho;by_cases hju:j=u
       ·subst hju;rw[if_pos rfl]at ho;cases ho;exact⟨_,z,z,hu,rfl,rfl,rfl,.inl ⟨hl,rfl⟩⟩
       ·rw[if_neg hju]at ho;exact⟨o',z,z,ho,rfl,rfl,objKeep.refl z o'⟩ }
 refine⟨z,F',rfl,hz.imm_of hr,simM_gen hm S (fun j o' ho=>?_) (fun j j' z z' bb h1 h2 h3 h4 h5 h6=>?_) hm'.inF,S⟩
 ·rw[mlook_mset]at ho;by_cases hju:j=u
  ·subst hju;rw[if_pos rfl]at ho;cases ho;refine⟨huN,.inl ?_⟩;rcases(hm'.obj 1 _ (m1 es' (.sc v))).2 with⟨p0,_⟩|⟨bu',cu',ccu',eu',p1,p2,p3,p4,p5,p6,p7,p8,p9⟩
   ·rw[p0]at hl;simp at hl;omega
   ·refine .inr ⟨bu',cu',ccu',eu',by rw[q1,←g1,←e1];exact p1,p2,p3,p4,p5,p6,fun k t hk ht=>?_,p8,p9⟩;obtain⟨y1,y2,y3,y4⟩:=p7 k t hk ht;exact⟨y1,y2,y3,.imm (y4.imm_of (all_norefs hes' k t hk ht))⟩
  ·rw[if_neg hju]at ho;by_cases hji:j=i
   ·subst hji;rw[hi]at ho;cases ho;refine⟨hiN,.inl ?_⟩;obtain⟨b2,c2,el2,p1,p2,p3,p4,p5⟩:=(hm'.obj 0 _ (m0 es' (.sc v))).2;rw[e0,g0]at p1;cases p1;refine⟨b,c2,el2,hG,p2,p3,fun t h1 h2=>?_,p5⟩;have h1':t<2:=by simpa using h2
    match t with
    | 0=>
      have hp:=p4 0 h1 (by simp);simp only[List.getElem_cons_zero]at hp⊢;obtain⟨_,hh⟩:=hp.inv_tv;obtain⟨h3,h4⟩:=hh _ _ _ (m1 es' (.sc v));obtain⟨h5,b3,c3,h6,h7,h8⟩:=h4 (by omega);refine .tv u es.length 0 es.length .unk _ (by rw[q1];simp) fun esz es1 fz ho=>?_;rw[mlook_mset,if_pos rfl]at ho;cases ho;rw[e1,g1,←q1]at h6;exact⟨h3,fun _=>⟨h5,b3,c3,h6,h7,h8⟩⟩
    | 1=>
      have hp:=p4 1 h1 (by simp);simp only[List.getElem_cons_zero,List.getElem_cons_succ]at hp⊢;rw[hp.inv_sc,hv];exact hv1.step S fun _ _=>trivial
   ·refine⟨(hm.obj j o' ho).1,.inr ⟨ho,rfl,fun bb z hz hb=>?_⟩⟩;have hno:¬Owned gG (prM es.length es (.sc v)) bb:=fun⟨t,ob,z',h1,h2,h3⟩=>by
     have:t=0∨t=1:=by
      by_cases h:2≤t
      ·rw[m2 _ _ t h]at h1;cases h1
      ·omega
     rcases this with rfl|rfl
     ·exact hji (hm.inj j i z z' bb (by simp[ho]) (by simp[hi]) hz (by rw[hG,←g0];exact h2) hb h3)
     ·exact hju (hm.inj j u z z' bb (by simp[ho]) (by simp[hu]) hz (by rw[q1,←g1];exact h2) hb h3)
    have hlt:=hm.lt ⟨j,o',z,ho,hz,hb⟩;refine⟨S1.out bb hlt hno,fun o hF=>?_⟩;rcases S1.F3 bb o hF with h|h|h
    ·exact h
    ·omega
    ·exact absurd h hno
 ·have ne:∀j,mlook (mset M u (.arr 1 es' false)) j≠none→mlook M j≠none:=fun j hj=>by
    rw[mlook_mset]at hj;by_cases hju:j=u
    ·subst hju;rw[hu];simp
    ·rwa[if_neg hju]at hj
  exact hm.inj j j' z z' bb (ne j h1) (ne j' h2) h3 h4 h5 h6
theorem OpIs.callW{f:FuncId}{callee x y:Operand}{tys:Array TypeId}{i u n:Nat}{e r ya:AV}{es es':List (List AV)}(hg:o.guard=none)(hop:o.op=.call ⟨.value callee,#[x,y],tys⟩)(hd:dok fr o.dst=true)
  (hcal:od fr st true callee=.fn f [])(hx:od fr st true x=.rf i 0)(hya:od fr st true y=ya)(hi:mlook st.mem i=some (.cells [.tv u n 0 n .unk,e]))(hu:mlook st.mem u=some (.arr 1 es false))
  (hn:n=es.length)(h0:n≠0)(hl:es'.length=es.length)(hes:es.all AV.norefs=true)(hes':es'.all AV.norefs=true)(hy:ya.noref=true)(hr:r.noref=true)
  (hrd:opSlots o.op.operands.toList++[2*i+1,2*u+1]=rd)(hc:WrIs P f n es ya r es'):OpIs P fr ro ds ops id st ⟨o,⟨r,some (u,.arr 1 es' false)⟩,rd⟩:=by
 intro st' G F a w N K Q1 s hN hG hlk h;simp only[Region.wanted,hg,if_true];have hslot:∀x∈o.op.operands.toList,opnd fr st' x=opnd fr st x:=fun x hx=>by
  cases x with
  | tmp t=>exact look_slot (hlk _ (by simp only;rw[←hrd];exact List.mem_append_left _ (opSlots_mem hx)))
  | _=>rfl
 rw[hop]at hslot;have hod:∀z,z∈[callee,x,y]→od fr st' true z=od fr st true z:=fun z hz=>by
  unfold od;rw[hslot z (by simpa[Op.operands,Call.operands]using hz)]
 have hi':mlook st'.mem i=some (.cells [.tv u n 0 n .unk,e]):=by rw[←hi];exact look_obj (hlk _ (by simp only;rw[←hrd];simp))
 have hu':mlook st'.mem u=some (.arr 1 es false):=by rw[←hu];exact look_obj (hlk _ (by simp only;rw[←hrd];simp))
 refine⟨fun _ _=>trivial,?_⟩;rw[Oper.semAt_eq _ _ _ (by rw[hop];intro c h;cases h)];have hv:=(s.eval callee).unopt;have hv:RV G F st'.mem w (a.eval callee) (.fn f []):=by have:=hod callee (by simp);unfold od at this hcal;rwa[this,hcal]at hv
 have hvx:=(s.eval x).unopt;have hvx:RV G F st'.mem w (a.eval x) (.rf i 0):=by have:=hod x (by simp);unfold od at this hx;rwa[this,hx]at hvx
 have hvy:=(s.eval y).unopt;have hvy:RV G F st'.mem w (a.eval y) ya:=by have:=hod y (by simp);unfold od at this hya;rwa[this,hya]at hvy
 obtain⟨vs,hev,hll,_⟩:=hv.inv_fn
 have hvs:vs=[]:=by cases vs with
  | nil=>rfl
  | cons a l=>simp at hll
 subst hvs;obtain⟨b,hGb,hex⟩:=hvx.inv_rf;obtain⟨hca,hcalls⟩:=simM_wr s.mem hi' hu' hn h0 hl hes hes' hy hr hc hGb (hvy.imm_of hy);have hrun:(execOp a.eval o).run P w=.ok (.enter f #[.pointer (some ⟨b,0,none⟩),a.eval y]) w:=by
  obtain⟨dst,op,ty,pos,after,guard⟩:=o;simp only at hop;subst hop;simp only[execOp,resolve,hev,Deferred.ofValue,Sem.run_bind,Sem.run_pure,Result.andThen_ok,invoke];rw[hca];congr 2;apply Array.ext';simp[hex]
 rw[hrun];refine⟨fun h=>by simp[fc,Fence.wide]at h,callsIn_fc (hcalls.mono ?_)⟩;rintro ed w' ⟨v,F',rfl,hv,hm',S'⟩;obtain⟨s1,S1⟩:=s.put (d:=o.dst) (r:=⟨r,some (u,.arr 1 es' false)⟩) (u:=v) hm' (fun _=>rfl) S' hd (.imm hv);exact h G _ _ w' s1 S1 (fun _ _ h=>h)
end
theorem mlook_append:∀(A B:Mem) (i:Nat),mlook (A++B) i=match mlook A i with
  | some o=>some o
  | none=>mlook B i
 | [],B,i=>rfl
 | (k,o)::A,B,i=>by
   simp only[List.cons_append,mlook];split
   ·rfl
   ·exact mlook_append A B i
def Framed(X:Mem)(r:AV)(M:Mem)(nx:Nat):Prop:=
 ∃K:List (Nat×Nat),gcOk 0 nx K=true∧renMem M K K=M∧r.ren K=r∧(K.all fun p=>decide (p.1=p.2)&&(mlook X p.1).isNone)=true
section
variable {P:Program} {fr:Fr} {ro:Option Nat} {ds:DS} {st st':St} {Q Q':Exit→St→Prop} {G G' Gs:Nat→Option Value} {F F':Nat→Nat→Prop} {a:Act} {w w':World} {c:Code}
 {M M0 Ms X:Mem} {ops:Array Oper} {l rest:List Oper} {o:Oper} {id N nx:Nat} {rd:List Nat} {v:Value} {y:AV}
theorem RV.sub(h:RV G F M w v y)(hs:∀id o,mlook M0 id=some o→mlook M id=some o):RV G F M0 w v y:=by
 induction h with
 | imm h=>exact .imm h
 | ag vs cs hl _ ih=>exact .ag vs cs hl ih
 | tu vs cs hl _ ih=>exact .tu vs cs hl ih
 | ifc t v x _ ih=>exact .ifc t v x ih
 | fn f vs cs hl _ ih=>exact .fn f vs cs hl ih
 | opt b v x _ h' ih=>exact .opt b v x ih h'
 | rf id off b h=>exact .rf id off b h
 | mp id b h=>exact .mp id b h
 | tl id len nl v hG h=>exact .tl id len nl v hG fun esz es fz hm=>h esz es fz (hs _ _ hm)
 | tv id n off len cap v hG h=>exact .tv id n off len cap v hG fun esz es fz hm=>h esz es fz (hs _ _ hm)
 | ea id n i off v hG h=>exact .ea id n i off v hG fun esz es fz hm=>h esz es fz (hs _ _ hm)
theorem ObjOk.map_rv{id:Nat}{o:RObj}(h:ObjOk P G F M w id o)(hG:G' id=G id)(hr:∀v y,RV G F M w v y→RV G' F M0 w v y):ObjOk P G' F M0 w id o:=by
 cases o with
 | cells cs=>
   obtain⟨b,c,e,h1,h2,h3,h4,h5⟩:=h;exact⟨b,c,e,hG.trans h1,h2,h3,fun i a b=>hr _ _ (h4 i a b),h5⟩
 | arr esz es fz=>
   rcases h with⟨h0,base,h1,hsp⟩|⟨b,c,cc,e,h1,h2,h3,h4,h5,h6,h7,h8,h9⟩
   ·exact .inl ⟨h0,base,hG.trans h1,hsp⟩
   ·exact .inr ⟨b,c,cc,e,hG.trans h1,h2,h3,h4,h5,h6,fun i j a b=>by
     obtain⟨v,hv,h1,hr'⟩:=h7 i j a b;exact⟨v,hv,h1,hr _ _ hr'⟩,h8,h9⟩
 | map kt es=>
   obtain⟨b,ents,clock,h1,h2,h3,h4,h5⟩:=h;exact⟨b,ents,clock,hG.trans h1,h2,h3,fun i a b=>⟨(h4 i a b).1,hr _ _ (h4 i a b).2.1,(h4 i a b).2.2⟩,h5⟩
theorem SimM.sub(h:SimM P G F M N w)(hs:∀id o,mlook M0 id=some o→mlook M id=some o):SimM P G F M0 N w where
 obj:=fun id o ho=>⟨(h.obj id o (hs _ _ ho)).1,(h.obj id o (hs _ _ ho)).2.map_rv rfl fun _ _ hr=>hr.sub hs⟩
 inj:=fun id id' v v' b h1 h2=>by
  obtain⟨o,h1⟩:=Option.ne_none_iff_exists'.1 h1;obtain⟨o',h2⟩:=Option.ne_none_iff_exists'.1 h2;exact h.inj id id' v v' b (by rw[hs _ _ h1];simp) (by rw[hs _ _ h2];simp)
 inF:=h.inF
 gl:=h.gl
theorem RV.up(h:RV Gs F Ms w v y)(hs:∀j u,Gs j=some u→G j=some u∧∀o,mlook M j=some o→mlook Ms j=some o):RV G F M w v y:=by
 have hne:∀j,Gs j≠none→G j≠none:=fun j hj=>by
  obtain⟨u,hu⟩:=Option.ne_none_iff_exists'.1 hj;rw[(hs j u hu).1];simp
 have hl:∀j o,Gs j≠none→mlook M j=some o→mlook Ms j=some o:=fun j o hj ho=>by
  obtain⟨u,hu⟩:=Option.ne_none_iff_exists'.1 hj;exact(hs j u hu).2 o ho
 induction h with
 | imm h=>exact .imm h
 | ag vs cs hl _ ih=>exact .ag vs cs hl ih
 | tu vs cs hl _ ih=>exact .tu vs cs hl ih
 | ifc t v x _ ih=>exact .ifc t v x ih
 | fn f vs cs hl _ ih=>exact .fn f vs cs hl ih
 | opt b v x _ h' ih=>exact .opt b v x ih h'
 | rf id off b h=>exact .rf id off b (hs _ _ h).1
 | mp id b h=>exact .mp id b (hs _ _ h).1
 | tl id len nl v hG h=>
   refine .tl id len nl v (hne _ hG) fun esz es fz hm=>?_;obtain⟨h1,h2⟩:=h esz es fz (hl _ _ hG hm);exact⟨h1,fun e=>⟨(hs _ _ (h2 e).1).1,(h2 e).2⟩⟩
 | tv id n off len cap v hG h=>
   refine .tv id n off len cap v (hne _ hG) fun esz es fz hm=>?_;obtain⟨h1,h2⟩:=h esz es fz (hl _ _ hG hm);refine⟨h1,fun e=>?_⟩;obtain⟨h3,b,c,h4,h5⟩:=h2 e;exact⟨h3,b,c,(hs _ _ h4).1,h5⟩
 | ea id n i off v hG h=>
   refine .ea id n i off v (hne _ hG) fun esz es fz hm=>?_;obtain⟨h1,h2⟩:=h esz es fz (hl _ _ hG hm);refine⟨h1,fun e=>?_⟩;obtain⟨h3,b,c,h4,h5⟩:=h2 e;exact⟨h3,b,c,(hs _ _ h4).1,h5⟩
theorem simM_frame{M':Mem}{nx':Nat}{r:AV}{u:Value}(hm:SimM P G F (M++X) nx w)(hX:∀p∈X,mlook M p.1=none)(hfr:∀j,nx≤j→G j=none)(hn:nx≤nx')
  (S1:Step All G F M w G' F' M' w')(hm':SimM P G' F' M' nx' w')(hfr':∀j,nx'≤j→G' j=none)(hr:RV G' F' M' w' u r)(hF:Framed X r M' nx'):
  ∃G2,SimM P G2 F' (M'++X) nx' w'∧(∀j,nx'≤j→G2 j=none)∧Step All G F (M++X) w G2 F' (M'++X) w'∧RV G2 F' (M'++X) w' u r:=by
 obtain⟨K,hk,hMK,hrK,hKX⟩:=hF;rw[List.all_eq_true]at hKX;have hX':∀i o,mlook X i=some o→mlook M i=none:=fun i o hi=>by
  have:∀(Y:Mem),mlook Y i=some o→∃p∈Y,p.1=i:=fun Y=>by
   induction Y with
   | nil=>intro h;cases h
   | cons p Y ih=>
     intro h;obtain⟨k,o'⟩:=p;simp only[mlook]at h;split at h
     ·rename_i hik;exact⟨_,List.mem_cons_self,hik.symm⟩
     ·obtain⟨p,h1,h2⟩:=ih h;exact⟨p,List.mem_cons_of_mem _ h1,h2⟩
  obtain⟨p,h1,h2⟩:=this X hi;rw[←h2];exact hX p h1
 have hsub:∀id o,mlook M id=some o→mlook (M++X) id=some o:=fun id o h=>by rw[mlook_append,h]
 have hsubX:∀id o,mlook X id=some o→mlook (M++X) id=some o:=fun id o h=>by rw[mlook_append,hX' id o h];exact h
 have gk:∀j u,gcG 0 K G' j=some u→G' j=some u∧mlook X j=none∧(j,j)∈K:=fun j u h=>by
  unfold gcG at h;rw[if_neg (by omega)]at h;cases hb:blook K j with
  | none=>rw[hb]at h;cases h
  | some i=>
    rw[hb]at h;have hmem:=blook_mem' hb;have h1:=hKX _ hmem;simp only[Bool.and_eq_true,decide_eq_true_eq,Option.isNone_iff_eq_none]at h1;obtain⟨rfl,h2⟩:=h1;exact⟨h,h2,hmem⟩
 obtain⟨G2,hG2⟩:∃G2:Nat→Option Value,G2=fun j=>match mlook X j with
  | some _=>G j
  | none=>G' j:=⟨_,rfl⟩
 have g2X:∀j o,mlook X j=some o→G2 j=G j:=fun j o h=>by rw[hG2];simp only[h]
 have g2N:∀j,mlook X j=none→G2 j=G' j:=fun j h=>by rw[hG2];simp only[h]
 have M'X:∀j o,mlook M' j=some o→mlook X j=none∧(j,j)∈K:=fun j o h=>by
  rw[←hMK]at h;obtain⟨i,o',h1,h2,h3⟩:=renMem_look hk (fun _ h=>h) h;have h4:=hKX _ h1;simp only[Bool.and_eq_true,decide_eq_true_eq,Option.isNone_iff_eq_none]at h4;obtain⟨rfl,h4⟩:=h4;exact⟨h4,h1⟩
 have up:∀v y,RV G' F' M' w' v y→y.ren K=y→RV G2 F' (M'++X) w' v y:=fun v y h hy=>by
  have h1:=h.ren hk;rw[hMK,hy]at h1;refine h1.up fun j u hj=>?_;obtain⟨h2,h3,h4⟩:=gk j u hj
  exact⟨by rw[g2N j h3];exact h2,fun o ho=>by
   rw[mlook_append]at ho;cases hM:mlook M' j with
   | some o1=>rw[hM]at ho;exact ho
   | none=>rw[hM]at ho;simp only at ho;rw[h3]at ho;cases ho⟩
 have lt:∀id,G id≠none→id<nx:=fun id h=>Nat.lt_of_not_le fun hle=>h (hfr id hle);have ownM:∀b,Owned G M b→Owned G (M++X) b:=fun b ⟨i,o,v,h1,h2,h3⟩=>⟨i,o,v,hsub i o h1,h2,h3⟩;have S:Step All G F (M++X) w G2 F' (M'++X) w':=
  { kept:=S1.kept
    size:=S1.size
    out:=fun b hb ho=>S1.out b hb fun h=>ho (ownM b h)
    F1:=S1.F1
    F2:=S1.F2
    F3:=fun b o h=>by
     rcases S1.F3 b o h with h|h|h
     ·exact .inl h
     ·exact .inr (.inl h)
     ·exact .inr (.inr (ownM b h))
    own:=fun b ⟨j,o,v,h1,h2,h3⟩=>by
     rw[mlook_append]at h1;cases hM:mlook M' j with
     | some o1=>
       obtain⟨k1,k2⟩:=M'X j o1 hM;rw[g2N j k1]at h2;rcases S1.own b ⟨j,o1,v,hM,h2,h3⟩with h|h
       ·exact .inl h
       ·exact .inr (ownM b h)
     | none=>
       rw[hM]at h1;rw[g2X j o h1]at h2;exact .inr ⟨j,o,v,hsubX j o h1,h2,h3⟩
    some':=fun id _ h=>by
     cases hx:mlook X id with
     | some o=>rw[g2X id o hx];exact h
     | none=>rw[g2N id hx];exact S1.some' id trivial h
    same:=fun id v _ h hns=>by
     cases hx:mlook X id with
     | some o=>rw[g2X id o hx];exact h
     | none=>rw[g2N id hx];exact S1.same id v trivial h hns
    keep:=fun id o' _ hg ho=>by
     rw[mlook_append]at ho;cases hM:mlook M' id with
     | some o1=>
       rw[hM]at ho;cases ho;obtain⟨k1,k2⟩:=M'X id o' hM;obtain⟨o,v,v',h1,h2,h3,h4⟩:=S1.keep id o' trivial hg hM;exact⟨o,v,v',hsub id o h1,h2,by rw[g2N id k1];exact h3,h4⟩
     | none=>
       rw[hM]at ho;obtain⟨v,hv⟩:=Option.ne_none_iff_exists'.1 hg;exact⟨o',v,v,hsubX id o' ho,hv,by rw[g2X id o' ho];exact hv,objKeep.refl v o'⟩ }
 refine⟨G2,simM_gen (hm.more hn) S (fun j o' ho=>?_) (fun j j' z z' b h1 h2 h3 h4 h5 h6=>?_) hm'.inF,fun j hj=>?_,S,up _ _ hr hrK⟩
 ·rw[mlook_append]at ho;cases hM:mlook M' j with
  | some o1=>
    rw[hM]at ho;cases ho;obtain⟨k1,k2⟩:=M'X j o' hM;obtain⟨h1,h2⟩:=hm'.obj j o' hM;refine⟨h1,.inl ?_⟩;have h3:ObjOk P (gcG 0 K G') F' (renMem M' K K) w' j (o'.ren K):=h2.ren hk k2;have e:o'.ren K=o':=by
     have h4:mlook (renMem M' K K) j=some o':=by rw[hMK];exact hM
     obtain⟨i,o2,h5,h6,h7⟩:=renMem_look hk (fun _ h=>h) h4;have h8:=hKX _ h5;simp only[Bool.and_eq_true,decide_eq_true_eq]at h8;obtain⟨rfl,_⟩:=h8;rw[hM]at h6;cases h6;exact h7.symm
    rw[e,hMK]at h3;refine h3.map_rv ?_ fun v y h=>h.up fun i u hi=>?_
    ·rw[g2N j k1,gcG_ren hk k2]
    ·obtain⟨q1,q2,q3⟩:=gk i u hi
     exact⟨by rw[g2N i q2];exact q1,fun o ho=>by
      rw[mlook_append]at ho;cases hM2:mlook M' i with
      | some o1=>rw[hM2]at ho;exact ho
      | none=>rw[hM2]at ho;simp only at ho;rw[q2]at ho;cases ho⟩
  | none=>
    rw[hM]at ho;have hb:=hsubX j o' ho;have hj:=lt j (hm.hasG hb);refine⟨by omega,.inr ⟨hb,g2X j o' ho,fun b v hv hbv=>?_⟩⟩;have hlt:=hm.lt ⟨j,o',v,hb,hv,hbv⟩;have hno:¬Owned G M b:=fun⟨i,o,v',h1,h2,h3⟩=>by
     have:=hm.inj j i v v' b (by rw[hb];simp) (by rw[hsub i o h1];simp) hv h2 hbv h3;subst this;rw[hX' j o' ho]at h1;cases h1
    refine⟨S1.out b hlt hno,fun o hF=>?_⟩;rcases S1.F3 b o hF with h|h|h
    ·exact h
    ·omega
    ·exact absurd h hno
 ·have key:∀j z b,mlook (M'++X) j≠none→G2 j=some z→blkOf z=some b→(mlook X j=none∧mlook M' j≠none∧G' j=some z∧(w.heap.size≤b∨Owned G M b))∨(mlook X j≠none∧G j=some z∧b<w.heap.size∧¬Owned G M b):=fun j z b h1 h2 h3=>by
    rw[mlook_append]at h1;cases hM:mlook M' j with
    | some o1=>
      obtain⟨k1,k2⟩:=M'X j o1 hM;rw[g2N j k1]at h2;exact .inl ⟨k1,by simp,h2,S1.own b ⟨j,o1,z,hM,h2,h3⟩⟩
    | none=>
      rw[hM]at h1;obtain⟨o,ho⟩:=Option.ne_none_iff_exists'.1 h1;rw[g2X j o ho]at h2;have hb:=hsubX j o ho;refine .inr ⟨by simpa using h1,h2,hm.lt ⟨j,o,z,hb,h2,h3⟩,fun⟨i,o1,v',q1,q2,q3⟩=>?_⟩;have:=hm.inj j i z v' b (by rw[hb];simp) (by rw[hsub i o1 q1];simp) h2 q2 h3 q3;subst this;rw[hX' j o ho]at q1;cases q1
  rcases key j z b h1 h3 h5 with⟨a1,a2,a3,a4⟩|⟨a1,a2,a3,a4⟩<;>rcases key j' z' b h2 h4 h6 with⟨b1,b2,b3,b4⟩|⟨b1,b2,b3,b4⟩
  ·exact hm'.inj j j' z z' b a2 b2 a3 b3 h5 h6
  ·rcases a4 with a4|a4
   ·omega
   ·exact absurd a4 b4
  ·rcases b4 with b4|b4
   ·omega
   ·exact absurd b4 a4
  ·obtain⟨o,ho⟩:=Option.ne_none_iff_exists'.1 a1;obtain⟨o',ho'⟩:=Option.ne_none_iff_exists'.1 b1;exact hm.inj j j' z z' b (by rw[hsubX j o ho];simp) (by rw[hsubX j' o' ho'];simp) a2 b2 h5 h6
 ·cases hx:mlook X j with
  | some o=>rw[g2X j o hx];exact hfr j (by omega)
  | none=>rw[g2N j hx];exact hfr' j hj
def bodyArgsS(fr:Fr)(st:St)(args:Array Operand):List AV:=args.toList.map fun x=>snap st.mem (od fr st true x)
theorem XR.callF{f:FuncId}{cs:List AV}{callee:Operand}{args:Array Operand}{tys:Array TypeId}{xs:List AV}(M X:Mem)(hg:o.guard=none)(hop:o.op=.call ⟨.value callee,args,tys⟩)(hd:dok fr o.dst=true)
  (hcal:od fr st true callee=.fn f cs)(hxs:bodyArgsS fr st args++cs=xs)(hM:st.mem=M++X)(hX:(X.all fun p=>(mlook M p.1).isNone)=true)
  (hb:BodyIs P f xs M st.nx fun r M' nx'=>st.nx≤nx'∧Framed X r M' nx'∧XR P fr ro ds ops rest ((⟨st.vars,st.tmps,M'++X,nx'⟩:St).put fr o.dst r) Q):XR P fr ro ds ops (o::rest) st Q:=
 fun _ _ _ _ G F a w S s=>wpListIn_plain hg fun K hK=>by
  have hX':∀p∈X,mlook M p.1=none:=fun p hp=>by
   rw[List.all_eq_true]at hX;exact Option.isNone_iff_eq_none.1 (hX p hp)
  have hsub:∀id o,mlook M id=some o→mlook st.mem id=some o:=fun id o h=>by rw[hM,mlook_append,h]
  refine⟨fun _ _=>trivial,?_⟩;rw[Oper.semAt_eq _ _ _ (by rw[hop];intro c h;cases h)];have hv:=(s.eval callee).unopt;have hv:RV G F st.mem w (a.eval callee) (.fn f cs):=by unfold od at hcal;rwa[hcal]at hv
  obtain⟨vs,hev,hl,hcs⟩:=hv.inv_fn;obtain⟨hca,hcalls⟩:=hb.calls;have hrun:(execOp a.eval o).run P w=.ok (.enter f ((args.toList.map a.eval++vs).toArray)) w:=by
   obtain⟨dst,op,ty,pos,after,guard⟩:=o;simp only at hop;subst hop;simp only[execOp,resolve,hev,Deferred.ofValue,Sem.run_bind,Sem.run_pure,Result.andThen_ok,invoke];rw[hca];congr 2;apply Array.ext';simp
  rw[hrun];have hi:(args.toList.map a.eval++vs).length=xs.length∧∀i (h1:i<(args.toList.map a.eval++vs).length) (h2:i<xs.length),RV G F M w (args.toList.map a.eval++vs)[i] xs[i]:=by
   subst hxs;refine⟨by simp[bodyArgsS,hl],fun i h1 h2=>RV.sub ?_ hsub⟩;by_cases hlt:i<args.toList.length
   ·rw[List.getElem_append_left (by simpa using hlt),List.getElem_append_left (by simpa[bodyArgsS]using hlt)];simp only[bodyArgsS,List.getElem_map];exact((s.eval _).unopt).snap s.sim.mem
   ·rw[List.getElem_append_right (by simpa using hlt),List.getElem_append_right (by simpa[bodyArgsS]using hlt)];simp only[List.length_map,bodyArgsS];exact hcs _ _ _
  refine⟨fun h=>by simp[fc,Fence.wide]at h,callsIn_fc ((hcalls G F w _ (s.sim.mem.sub hsub) s.fresh hi).mono ?_)⟩;rintro e w2 ⟨u,G',F',r,M',nx',rfl,⟨hn,hF,hR⟩,hru,hm',hfr',S1⟩;have hm0:SimM P G F (M++X) st.nx w:=by rw[←hM];exact s.sim.mem
  obtain⟨G2,hm2,hf2,S2,hr2⟩:=simM_frame hm0 hX' s.fresh hn S1 hm' hfr' hru hF;have S2':Step All G F st.mem w G2 F' (M'++X) w2:=by rw[hM];exact S2
  exact hK _ _ (hR _ _ _ _ _ _ _ _ (S.trans (by rw[St.put_mem];exact S2'.mono fun _ _=>trivial)) (s.step_put (st1:=⟨st.vars,st.tmps,M'++X,nx'⟩) S2' hm2 rfl rfl hf2 (dok_spec hd) hr2))
end
attribute [go_sem] bodyArgsS
def unkOf(M:Mem):AV→AV
 | .tv i n off len c=>if n≠0 then .tv i n off len .unk else .tv i n off len c
 | .tl j n b=>if n≠0 then match mlook M j with
   | some (.arr _ es _)=>if n=es.length then .tv j n 0 n .unk else .tl j n b
   | _=>.tl j n b else .tl j n b
 | v=>v
def St.unkC(st:St):St:=⟨st.vars,st.tmps,memMap (unkOf st.mem) st.mem,st.nx⟩
section
variable {P:Program} {fr:Fr} {ro:Option Nat} {ds:DS} {st st':St} {Q Q':Exit→St→Prop} {G G':Nat→Option Value} {F F':Nat→Nat→Prop} {a:Act} {w w':World} {c:Code}
theorem RV.tvUnk{M:Mem}{v:Value}{i n off len:Nat}{cap:Cp}(h:RV G F M w v (.tv i n off len cap))(h0:n≠0):RV G F M w v (.tv i n off len .unk):=by
 obtain⟨hG,hh⟩:=h.inv_tv;refine .tv i n off len .unk v hG fun esz es fz ho=>?_;obtain⟨h1,h2⟩:=hh _ _ _ ho;refine⟨h1,fun e=>?_⟩;obtain⟨h3,b,c,h4,h5,c',h6,h7,_⟩:=h2 e;refine⟨h3,b,c,h4,?_,c',h6,h7,.inl rfl⟩;rcases h5 with h5|⟨k1,k2,k3⟩
 ·exact .inl h5
 ·exact absurd k1 h0
theorem unkOf_rv{M:Mem}{nx:Nat}(hm:SimM P G F M nx w){v:Value}{y:AV}(h:RV G F M w v y):RV G F M w v (unkOf M y):=by
 unfold unkOf;split
 ·split
  ·rename_i h0;exact h.tvUnk h0
  ·exact h
 ·rename_i j n b;split
  ·rename_i h0;split
   ·rename_i esz es fz ho;split
    ·rename_i hn;exact(h.tl_tv hm ho hn h0).tvUnk h0
    ·exact h
   ·exact h
  ·exact h
 ·exact h
theorem EvC.unkC(hc:EvC P fr ro ds c st.unkC Q):EvC P fr ro ds c st Q:=
 EvC.conv (fun _ F _ _ s=>let⟨s',S'⟩:=s.memMap (f:=unkOf st.mem) fun _ _ h=>unkOf_rv s.sim.mem h;⟨_,F,s',S'⟩) hc
end
attribute [go_sem] St.unkC unkOf
def notO(k:Nat):Bool:=decide (k<2000000)||decide (3000000≤k)
theorem notO_ne{k s:Nat}(hk:notO k=true)(hs:s<1000000):k≠2000000+s:=by
 unfold notO at hk;simp at hk;omega
theorem o_ne{s:Nat}(hs:s<1000000)(k:Nat)(hk:notO k=true):(2000000+s=k)=False:=eq_false (fun h=>notO_ne hk hs h.symm)
def oK(n:Nat):List (Nat×Nat):=(List.range n).map fun i=>(2000000+i,2000000+i)
def osegK(A:List (Nat×Nat))(n:Nat)(B:List (Nat×Nat)):List (Nat×Nat):=A++(oK n++B)
theorem oK_succ(n:Nat):oK (n+1)=oK n++[(2000000+n,2000000+n)]:=by simp[oK,List.range_succ]
theorem mem_oK{n:Nat}{p:Nat×Nat}(h:p∈oK n):∃i,i<n∧p=(2000000+i,2000000+i):=by
 obtain⟨i,h1,rfl⟩:=List.mem_map.1 h;exact⟨i,List.mem_range.1 h1,rfl⟩
theorem rlook_oK(n k:Nat):rlook (oK n) k=if 2000000≤k∧k<2000000+n then some k else none:=by
 induction n with
 | zero=>simp[oK,rlook]
 | succ n ih=>
   rw[oK_succ,rlook_append,ih];by_cases h:2000000≤k∧k<2000000+n
   ·rw[if_pos h,if_pos (by omega)];rfl
   ·rw[if_neg h];by_cases h2:k=2000000+n
    ·subst h2;simp[rlook]
    ·rw[if_neg (by omega)];simp[rlook,h2]
theorem blook_oK(n k:Nat):blook (oK n) k=if 2000000≤k∧k<2000000+n then some k else none:=by
 induction n with
 | zero=>simp[oK,blook]
 | succ n ih=>
   rw[oK_succ,blook_append,ih];by_cases h:2000000≤k∧k<2000000+n
   ·rw[if_pos h,if_pos (by omega)];rfl
   ·rw[if_neg h];by_cases h2:k=2000000+n
    ·subst h2;simp[blook]
    ·rw[if_neg (by omega)];simp[blook,h2]
theorem rlook_osegK_hi{n:Nat}(hn:n≤1000000)(A B:List (Nat×Nat))(k:Nat)(hk:notO k=true):rlook (osegK A n B) k=rlook (A++B) k:=by
 rw[osegK,rlook_append,rlook_append,rlook_append,rlook_oK,if_neg (by unfold notO at hk;simp at hk;omega)];simp
theorem rlook_notO:∀{A:List (Nat×Nat)} {s:Nat},s<1000000→(A.all fun p=>notO p.1)=true→rlook A (2000000+s)=none
 | [],_,_,_=>rfl
 | (i,j)::A,s,hs,h=>by
   simp only[List.all_cons,Bool.and_eq_true]at h;simp only[rlook];rw[if_neg (fun e=>notO_ne h.1 hs e.symm)];exact rlook_notO hs h.2
theorem rlook_osegK_lo{n s:Nat}(hs:s<n)(hn:n≤1000000){A B:List (Nat×Nat)}(hA:(A.all fun p=>notO p.1)=true):rlook (osegK A n B) (2000000+s)=some (2000000+s):=by
 rw[osegK,rlook_append,rlook_append,rlook_oK,if_pos (by omega),rlook_notO (by omega) hA];rfl
theorem mset_msegO{l:List RObj}{b i:Nat}(o:RObj)(h:i<l.length):mset (msegA b l) (b+i) o=msegA b (l.set i o):=by
 rw[mset_msegA l b (b+i) o (by omega) (by omega),Nat.add_sub_cancel_left]
theorem mlook_msegO(l:List RObj)(b i:Nat):mlook (msegA b l) (b+i)=l[i]?:=by rw[mlook_msegA,if_pos (by omega),Nat.add_sub_cancel_left]
theorem renMem_oK_congr{M M':Mem}{n:Nat}(hn:n≤1000000)(K:List (Nat×Nat))(h:∀i,i<n→mlook M (2000000+i)=mlook M' (2000000+i)):renMem M K (oK n)=renMem M' K (oK n):=
 renMem_congr K fun p hp=>by obtain⟨i,h1,rfl⟩:=mem_oK hp;exact h i h1
theorem renMem_oK_cons{n:Nat}(hn:n≤1000000)(k:Nat)(hk:notO k=true)(o:RObj)(M:Mem)(K:List (Nat×Nat)):renMem ((k,o)::M) K (oK n)=renMem M K (oK n):=
 renMem_oK_congr hn K fun i hi=>by simp only[mlook];rw[if_neg (fun e=>notO_ne hk (by omega) e.symm)]
theorem renMem_oK_mset{n:Nat}(hn:n≤1000000)(k:Nat)(hk:notO k=true)(o:RObj)(M:Mem)(K:List (Nat×Nat)):renMem (mset M k o) K (oK n)=renMem M K (oK n):=
 renMem_oK_congr hn K fun i hi=>by rw[mlook_mset,if_neg (fun e=>notO_ne hk (by omega) e.symm)]
theorem renMem_osegK(M:Mem)(A B:List (Nat×Nat))(n:Nat):renMem M (osegK A n B) (osegK A n B)=renMem M (osegK A n B) A++(renMem M (osegK A n B) (oK n)++renMem M (osegK A n B) B):=by
 conv=>lhs;arg 3;rw[osegK]
 rw[renMem_append,renMem_append]
theorem renMem_oK(K:List (Nat×Nat))(l:List RObj)(X:Mem):∀n,n≤l.length→renMem (msegA 2000000 l++X) K (oK n)=msegA 2000000 ((l.take n).map (RObj.ren K))
 | 0,_=>rfl
 | n+1,h=>by
   have hl:mlook (msegA 2000000 l++X) (2000000+n)=some (l[n]'(by omega)):=by rw[mlook_append,mlook_msegO,List.getElem?_eq_getElem (by omega)]
   rw[oK_succ,renMem_append,renMem_oK K l X n (by omega),List.take_add_one,List.getElem?_eq_getElem (by omega),List.map_append,Option.toList_some,List.map_singleton,msegA_append];congr 1;simp only[renMem,hl,msegA];congr 2;simp;omega
theorem osegK_ok{base nx n:Nat}{A:List (Nat×Nat)}(hA:gcOk base nx A=true)(h1:(A.all fun p=>notO p.1)=true)(h2:(A.all fun p=>notO p.2)=true)(hn:n≤1000000)(hx:3000000≤nx):gcOk base nx (osegK A n [])=true:=by
 have hb:=gcOk_base hA;have key:∀n,n≤1000000→gcOk base nx (oK n)=true:=by
  intro n
  induction n with
  | zero=>intro _;simp[oK,gcOk,hb]
  | succ n ih=>
    intro hn;rw[oK_succ];refine gcOk_append (ih (by omega)) ?_ fun p hp=>?_
    ·simp[gcOk,blook,rlook,hb];omega
    ·obtain⟨i,hi,rfl⟩:=mem_oK hp;have hne:¬2000000+i=2000000+n:=by omega
     simp only[blook,rlook,if_neg hne];exact⟨trivial,trivial⟩
 rw[osegK,List.append_nil];refine gcOk_append hA (key n hn) fun p hp=>?_;rw[List.all_eq_true]at h1 h2;have a1:=h1 p hp;have a2:=h2 p hp;unfold notO at a1 a2;simp at a1 a2;rw[blook_oK,rlook_oK,if_neg (by omega),if_neg (by omega)];exact⟨rfl,rfl⟩
theorem osegK_ok1{base nx n k:Nat}{A:List (Nat×Nat)}(hA:gcOk base nx A=true)(h1:(A.all fun p=>notO p.1)=true)(h2:(A.all fun p=>notO p.2)=true)(hk:notO k=true)(hkA:rlook A k=none)(hkb:base≤k)(hb2:base≤2000000)(hn:n<1000000)(hx:3000000≤nx):gcOk base nx (osegK A n [(k,2000000+n)])=true:=by
 have h0:=osegK_ok hA h1 h2 (Nat.le_of_lt hn) hx;have hb:=gcOk_base hA;have e:osegK A n [(k,2000000+n)]=osegK A n []++[(k,2000000+n)]:=by simp[osegK]
 rw[e];refine gcOk_append h0 ?_ fun p hp=>?_
 ·simp[gcOk,blook,rlook,hb,hkb];omega
 ·have hb:p.2≠2000000+n∧p.1≠k:=by
    rw[osegK,List.append_nil]at hp;rcases List.mem_append.1 hp with hp|hp
    ·rw[List.all_eq_true]at h2;refine⟨notO_ne (h2 p hp) hn,fun hk2=>?_⟩;have:=rlook_ne (show(p.1,p.2)∈A from hp);rw[hk2]at this;exact this hkA
    ·obtain⟨i,hi,rfl⟩:=mem_oK hp;exact⟨by simp only;omega,fun e=>notO_ne hk (show i<1000000 by omega) e.symm⟩
  simp only[blook,rlook];rw[if_neg hb.1,if_neg hb.2];exact⟨rfl,rfl⟩
theorem osegK_okB{base nx n:Nat}{A B:List (Nat×Nat)}(hA:gcOk base nx A=true)(hB:gcOk base nx B=true)(h1:(A.all fun p=>notO p.1)=true)(h2:(A.all fun p=>notO p.2)=true)(h3:(B.all fun p=>notO p.1)=true)(h4:(B.all fun p=>notO p.2)=true)
  (hAB:(A.all fun p=>(blook B p.2).isNone&&(rlook B p.1).isNone)=true)(hn:n≤1000000)(hx:3000000≤nx):gcOk base nx (osegK A n B)=true:=by
 have e:osegK A n B=osegK A n []++B:=by simp[osegK]
 have key:∀(B:List (Nat×Nat)) (i:Nat),i<1000000→(B.all fun p=>notO p.1)=true→(B.all fun p=>notO p.2)=true→blook B (2000000+i)=none∧rlook B (2000000+i)=none:=by
  intro B i hi
  induction B with
  | nil=>intro _ _;exact⟨rfl,rfl⟩
  | cons q B ih=>
    obtain⟨x,y⟩:=q;intro h3 h4;simp only[List.all_cons,Bool.and_eq_true]at h3 h4;obtain⟨k1,k2⟩:=ih h3.2 h4.2;simp only[blook,rlook];rw[if_neg (fun e=>notO_ne h4.1 hi e.symm),if_neg (fun e=>notO_ne h3.1 hi e.symm)];exact⟨k1,k2⟩
 rw[e];refine gcOk_append (osegK_ok hA h1 h2 hn hx) hB fun p hp=>?_;rw[osegK,List.append_nil]at hp;rcases List.mem_append.1 hp with hp|hp
 ·rw[List.all_eq_true]at hAB;have:=hAB p hp;simp only[Bool.and_eq_true,Option.isNone_iff_eq_none]at this;exact this
 ·obtain⟨i,hi,rfl⟩:=mem_oK hp;exact key B i (by omega) h3 h4
section
variable {α:Type}
def otab(e:Nat)(C:α→List AV)(W:Nat→Nat→α)(n m:Nat):Mem:=msegA 2000000 ((List.range n).map (grow e C W m))
theorem otab_zero(e:Nat)(C:α→List AV)(W:Nat→Nat→α)(m:Nat):otab e C W 0 m=[]:=rfl
theorem otab_look(e:Nat)(C:α→List AV)(W:Nat→Nat→α){n m s:Nat}(h:s<n):mlook (otab e C W n m) (2000000+s)=some (.arr e (gcells C (W s) m) false):=by
 rw[otab,mlook_msegO,List.getElem?_map,List.getElem?_range h];rfl
theorem otab_set(e:Nat)(C:α→List AV)(W:Nat→Nat→α){n m s t:Nat}(x:α)(hs:s<n)(ht:t<m):mset (otab e C W n m) (2000000+s) (.arr e ((gcells C (W s) m).set t (C x)) false)=otab e C (upd2 W s t x) n m:=by
 rw[otab,mset_msegO _ (by simpa using hs),range_set _ _ hs,gcells_set C _ x ht,otab];congr 1;refine List.map_congr_left fun i _=>?_;by_cases e2:i=s
 ·subst e2;rw[if_pos rfl,grow];congr 1;refine gcells_congr C fun k _=>?_;simp[upd1,upd2]
 ·rw[if_neg e2,grow,grow];congr 1;refine gcells_congr C fun k _=>?_;simp[upd2,e2]
theorem otab_renX(e:Nat){C:α→List AV}(hC:∀x,AV.norefs (C x)=true)(W:Nat→Nat→α)(n m:Nat)(K:List (Nat×Nat))(X:Mem):renMem (otab e C W n m++X) K (oK n)=otab e C W n m:=by
 rw[otab,renMem_oK K _ X n (by simp),List.take_of_length_le (by simp),List.map_map];congr 1;refine List.map_congr_left fun s _=>?_;simp only[Function.comp,grow,RObj.ren,gcells_norefs hC,if_true]
theorem otab_ren(e:Nat){C:α→List AV}(hC:∀x,AV.norefs (C x)=true)(W:Nat→Nat→α)(n m:Nat)(K:List (Nat×Nat)):renMem (otab e C W n m) K (oK n)=otab e C W n m:=by
 have:=otab_renX e hC W n m K []
 rwa[List.append_nil]at this
theorem otab_snoc(e:Nat)(C:α→List AV)(W:Nat→Nat→α)(n m:Nat):otab e C W n m++[(2000000+n,.arr e (gcells C (W n) m) false)]=otab e C W (n+1) m:=by
 rw[otab,otab,List.range_succ,List.map_append,msegA_append];simp[msegA,grow]
theorem memMap_msegA(f:AV→AV):∀(l:List RObj) (b:Nat),memMap f (msegA b l)=msegA b (l.map (RObj.snapC f))
 | [],_=>rfl
 | o::l,b=>by simp only[msegA,memMap,List.map_cons,memMap_msegA f l]
theorem memMap_otab(f:AV→AV)(e:Nat)(C:α→List AV)(W:Nat→Nat→α)(n m:Nat):memMap f (otab e C W n m)=otab e C W n m:=by
 rw[otab,memMap_msegA,List.map_map];rfl
theorem mdel_msegA:∀(l:List RObj) (b k:Nat),(k<b∨b+l.length≤k)→mdel (msegA b l) k=msegA b l
 | [],b,k,_=>rfl
 | o::l,b,k,h=>by
   simp only[List.length_cons]at h;simp only[msegA,mdel];rw[if_neg (by omega),mdel_msegA l (b+1) k (by omega)]
theorem mdel_otab(e:Nat)(C:α→List AV)(W:Nat→Nat→α){n m:Nat}(hn:n≤1000000)(k:Nat)(hk:notO k=true):mdel (otab e C W n m) k=otab e C W n m:=mdel_msegA _ _ _ (by unfold notO at hk;simp at hk;simp;omega)
theorem memMap_append(f:AV→AV):∀(A B:Mem),memMap f (A++B)=memMap f A++memMap f B
 | [],_=>rfl
 | (i,o)::A,B=>by simp only[List.cons_append,memMap,memMap_append f A B]
theorem mset_app_in{A:Mem}{i:Nat}(o:RObj)(B:Mem)(h:(mlook A i).isSome=true):mset (A++B) i o=mset A i o++B:=by
 induction A with
 | nil=>simp[mlook]at h
 | cons p A ih=>
   obtain⟨k,u⟩:=p;simp only[List.cons_append,mset];by_cases e:i=k
   ·rw[if_pos e,if_pos e];rfl
   ·rw[if_neg e,if_neg e,List.cons_append,ih (by simpa[mlook,e]using h)]
theorem mset_app_out{A:Mem}{i:Nat}(o:RObj)(B:Mem)(h:mlook A i=none):mset (A++B) i o=A++mset B i o:=by
 induction A with
 | nil=>rfl
 | cons p A ih=>
   obtain⟨k,u⟩:=p;simp only[mlook]at h;split at h
   ·cases h
   ·rename_i e;simp only[List.cons_append,mset,if_neg e,ih h]
theorem otab_none(e:Nat)(C:α→List AV)(W:Nat→Nat→α){n m:Nat}(hn:n≤1000000)(k:Nat)(hk:notO k=true):mlook (otab e C W n m) k=none:=by
 rw[otab,mlook_msegA];split
 ·rw[List.getElem?_eq_none];unfold notO at hk;simp at hk;simp;omega
 ·rfl
theorem otab_lookX(e:Nat)(C:α→List AV)(W:Nat→Nat→α){n m:Nat}(hn:n≤1000000)(X:Mem)(k:Nat)(hk:notO k=true):mlook (otab e C W n m++X) k=mlook X k:=by
 rw[mlook_append,otab_none e C W hn k hk]
theorem otab_getX(e:Nat)(C:α→List AV)(W:Nat→Nat→α){n m s:Nat}(X:Mem)(h:s<n):mlook (otab e C W n m++X) (2000000+s)=some (.arr e (gcells C (W s) m) false):=by
 rw[mlook_append,otab_look e C W h]
theorem otab_msetX(e:Nat)(C:α→List AV)(W:Nat→Nat→α){n m:Nat}(hn:n≤1000000)(X:Mem)(o:RObj)(k:Nat)(hk:notO k=true):mset (otab e C W n m++X) k o=otab e C W n m++mset X k o:=mset_app_out o X (otab_none e C W hn k hk)
def otabF(e:Nat)(C:α→List AV)(W:Nat→Nat→α)(n m:Nat):Mem:=msegA 2000000 ((List.range n).map fun s=>(grow e C W m s).fzn)
theorem otabF_look(e:Nat)(C:α→List AV)(W:Nat→Nat→α){n m s:Nat}(h:s<n):mlook (otabF e C W n m) (2000000+s)=some (.arr e (gcells C (W s) m) true):=by
 rw[otabF,mlook_msegO,List.getElem?_map,List.getElem?_range h];rfl
end
def ocell(m n:Nat):List (List AV):=(List.range n).map fun s=>[.tl (2000000+s) m false]
theorem ocell_len(m n:Nat):(ocell m n).length=n:=by simp[ocell]
theorem ocell_get{m n s:Nat}(h:s<n):(ocell m n)[s]?=some [.tl (2000000+s) m false]:=by rw[ocell,List.getElem?_map,List.getElem?_range h];rfl
theorem ocell_succ(m n:Nat):ocell m n++[[.tl (2000000+n) m false]]=ocell m (n+1):=by simp[ocell,List.range_succ]
theorem ocell_ren{m n:Nat}{K:List (Nat×Nat)}(h:∀s,s<n→rlook K (2000000+s)=some (2000000+s)):(ocell m n).map (fun c=>c.map (AV.ren K))=ocell m n:=by
 rw[ocell,List.map_map];refine List.map_congr_left fun s hs=>?_;simp only[Function.comp,List.map_cons,List.map_nil,AV.ren,AV.noref,Bool.false_eq_true,if_false,AV.deep,renLeaf,h s (List.mem_range.1 hs)]
theorem ocell_snap{m n e:Nat}{M:Mem}{row:Nat→List (List AV)}(h:∀s,s<n→mlook M (2000000+s)=some (.arr e (row s) true))(hl:∀s,s<n→(row s).length=m):(ocell m n).map (fun c=>c.map (AV.deep (snap M)))=(List.range n).map fun s=>[.sl false (row s) .unk]:=by
 rw[ocell,List.map_map];refine List.map_congr_left fun s hs=>?_;have hs:=List.mem_range.1 hs;simp only[Function.comp,List.map_cons,List.map_nil,AV.deep,snap,h s hs,hl s hs,if_true]
def opart(m n s:Nat):List (List AV):=ocell m s++List.replicate (n-s) [.sl true [] .zer]
theorem opart_len{m n s:Nat}(h:s≤n):(opart m n s).length=n:=by simp[opart,ocell_len];omega
theorem opart_zero(m n:Nat):opart m n 0=List.replicate n [.sl true [] .zer]:=by simp[opart,ocell]
theorem opart_all(m n:Nat):opart m n n=ocell m n:=by simp[opart]
theorem opart_get{m n s:Nat}(h:s<n):(opart m n s)[s]?=some [.sl true [] .zer]:=by
 rw[opart,List.getElem?_append_right (by rw[ocell_len];omega),ocell_len,Nat.sub_self,List.getElem?_replicate,if_pos (by omega)]
theorem opart_ren{m n s k:Nat}{K:List (Nat×Nat)}(h:s<n)(hk:rlook K k=some (2000000+s))(hK:∀j,j<s→rlook K (2000000+j)=some (2000000+j)):((opart m n s).set s [.tl k m false]).map (fun c=>c.map (AV.ren K))=opart m n (s+1):=by
 obtain⟨d,hd⟩:∃d,n-s=d+1:=⟨n-s-1,by omega⟩;have hd':n-(s+1)=d:=by omega
 rw[opart,List.set_append_right _ _ (by rw[ocell_len];omega),ocell_len,Nat.sub_self,hd,List.replicate_succ,List.set_cons_zero,List.map_append,ocell_ren hK,List.map_cons,opart,hd',←ocell_succ,List.append_assoc];congr 1;simp[AV.ren,AV.noref,AV.deep,renLeaf,hk]
theorem opart_norefs{m n s k:Nat}(h:s<n):((opart m n s).set s [.tl k m false]).all AV.norefs=false:=by
 rw[List.all_eq_false];refine⟨[.tl k m false],?_,by simp[AV.norefs,AV.noref]⟩;rw[List.mem_iff_getElem];exact⟨s,by rw[List.length_set,opart_len (Nat.le_of_lt h)];exact h,by simp⟩
def ofzAll:Nat→Mem→Mem
 | 0,M=>M
 | n+1,M=>match mlook (ofzAll n M) (2000000+n)with
   | some o=>mset (ofzAll n M) (2000000+n) o.fzn
   | none=>ofzAll n M
section
variable {P:Program} {fr:Fr} {ro:Option Nat} {ds:DS} {st st':St} {Q Q':Exit→St→Prop} {G G':Nat→Option Value} {F F':Nat→Nat→Prop} {a:Act} {w w':World} {x y c:Code} {M:Mem}
theorem mlook_ofz_above(M:Mem):∀(n k:Nat),n≤k→mlook (ofzAll n M) (2000000+k)=mlook M (2000000+k)
 | 0,_,_=>rfl
 | n+1,k,hk=>by
   simp only[ofzAll];split
   ·rw[mlook_mset,if_neg (by omega)];exact mlook_ofz_above M n k (by omega)
   ·exact mlook_ofz_above M n k (by omega)
theorem ofzAll_cons{n:Nat}(hn:n≤1000000)(k:Nat)(hk:notO k=true)(o:RObj)(M:Mem):ofzAll n ((k,o)::M)=(k,o)::ofzAll n M:=by
 induction n with
 | zero=>rfl
 | succ n ih=>
   have hne:¬2000000+n=k:=fun e=>notO_ne hk (by omega) e.symm;simp only[ofzAll,ih (by omega),mlook,if_neg hne];split
   ·simp only[mset,if_neg hne]
   ·rfl
theorem ofzAll_seg(l:List RObj)(X:Mem):∀n,n≤l.length→ofzAll n (msegA 2000000 l++X)=msegA 2000000 ((l.take n).map RObj.fzn++l.drop n)++X
 | 0,_=>by simp[ofzAll]
 | n+1,h=>by
   have hd:l.drop n=l[n]::l.drop (n+1):=List.drop_eq_getElem_cons (by omega);have hl:((l.take n).map RObj.fzn).length=n:=by simp;omega
   have hset:∀(A:List RObj) (o:RObj),n<A.length→mset (msegA 2000000 A++X) (2000000+n) o=msegA 2000000 (A.set n o)++X:=fun A o hA=>by
    rw[mset_app_in _ _ (by rw[mlook_msegO,List.getElem?_eq_getElem hA];rfl),mset_msegO _ hA]
   simp only[ofzAll];rw[ofzAll_seg l X n (by omega),mlook_append,mlook_msegO,List.getElem?_append_right (by omega),hl,Nat.sub_self,hd];simp only[List.getElem?_cons_zero];rw[hset _ _ (by simp;omega),List.set_append_right _ _ (by omega),hl,Nat.sub_self,List.set_cons_zero,List.take_add_one,List.getElem?_eq_getElem (by omega),Option.toList_some,List.map_append,List.map_singleton,List.append_assoc];rfl
theorem otab_fzX{α:Type}(e:Nat)(C:α→List AV)(W:Nat→Nat→α)(n m:Nat)(X:Mem):ofzAll n (otab e C W n m++X)=otabF e C W n m++X:=by
 rw[otab,ofzAll_seg _ X n (by simp),List.take_of_length_le (by simp),List.drop_eq_nil_of_le (by simp),List.append_nil,List.map_map];rfl
theorem otab_fz{α:Type}(e:Nat)(C:α→List AV)(W:Nat→Nat→α)(n m:Nat):ofzAll n (otab e C W n m)=otabF e C W n m:=by
 have:=otab_fzX e C W n m [];simpa using this
theorem SimA.ofzAll(n:Nat)(s:SimA P fr ds G F st a w)(h:∀i,i<n→∃esz es fz,mlook st.mem (2000000+i)=some (.arr esz es fz)∧es.all AV.norefs=true):
  ∃F',SimA P fr ds G F' ⟨st.vars,st.tmps,Avl.ofzAll n st.mem,st.nx⟩ a w∧Step (·<fr.base) G F st.mem w G F' (Avl.ofzAll n st.mem) w:=by
 induction n with
 | zero=>exact⟨F,s,.refl⟩
 | succ n ih=>
   obtain⟨F1,s1,S1⟩:=ih fun i hi=>h i (by omega);obtain⟨esz,es,fz,ho,hn⟩:=h n (Nat.lt_succ_self _);have hm:mlook (Avl.ofzAll n st.mem) (2000000+n)=some (.arr esz es fz):=by rw[mlook_ofz_above _ _ _ (Nat.le_refl _)];exact ho
   have he:St.fz (2000000+n) ⟨st.vars,st.tmps,Avl.ofzAll n st.mem,st.nx⟩=some ⟨st.vars,st.tmps,mset (Avl.ofzAll n st.mem) (2000000+n) (.arr esz es true),st.nx⟩:=by
    simp only[St.fz,hm,hn];rfl
   obtain⟨F2,s2,S2⟩:=s1.fz he;refine⟨F2,?_,?_⟩
   ·simp only[Avl.ofzAll,hm];exact s2
   ·simp only[Avl.ofzAll,hm];exact S1.trans S2
theorem EvC.ofzAll(n:Nat)(h:∀i,i<n→∃esz es fz,mlook st.mem (2000000+i)=some (.arr esz es fz)∧es.all AV.norefs=true)(hc:EvC P fr ro ds c ⟨st.vars,st.tmps,Avl.ofzAll n st.mem,st.nx⟩ Q):EvC P fr ro ds c st Q:=
 EvC.conv (fun _ _ _ _ s=>let⟨F',s',S'⟩:=s.ofzAll n h;⟨_,F',s',S'⟩) hc
end
attribute [go_sem] renMem_osegK notO
end Go.Avl
