/-
  Calls that lend objects, and whose result is a new object of plain values.
  A slot that holds a whole object, as a view of it from its front.
  The test by slots, where operations wait through others.
  A region up to one of its operations.
  The rules once more, with what is shown the same way each time as defaults.
  Regions with calls, with what is shown the same way each time as defaults.
  Regions that draw their order: an operation that waits for all ahead of it, and behind it a chain of operations, each waiting for the one before.
  Facts of the types, printed by a program of this claim's own.
  Lemmas.
-/
import Derived.KernelRfl
import Derived.Test.YthfacnlkecjodaaGreatProg
import Derived.Test.YthfacnlkecjodaaGreatPart4
set_option linter.unusedSimpArgs false
set_option linter.unusedVariables false
set_option linter.unnecessarySimpa false
set_option linter.deprecated false
namespace Go.Avl
open Go
def isScV:AV→Bool
 | .sc _=>true
 | _=>false
section
variable {P:Program} {fr:Fr} {ro:Option Nat} {ds:DS} {st st':St} {Q Q':Exit→St→Prop} {G G':Nat→Option Value} {F F':Nat→Nat→Prop} {a:Act} {w w':World} {M M':Mem}
 {ops:Array Oper} {l rest:List Oper} {o:Oper} {N id:Nat} {rd gs:List Nat}
theorem SimD.callND{f:FuncId}{callee:Operand}{args:Array Operand}{tys:Array TypeId}{xs:List AV}{d esz:Nat}{es:List (List AV)}{K:Act→World→Prop}{Q1:Exit→Act→World→Prop}
  (s:SimD P fr ds G F st N a w)(hN:id<N)(hid:G id=none)(hop:o.op=.call ⟨.value callee,args,tys⟩)(hd:dok fr o.dst=true)(hcal:od fr st true callee=.fn f [])
  (hxs:argsD fr st d args=xs)(hk:argsK fr st d args=true)(hsc:(es.all fun c=>c.all isScV)=true)(hc:PureNew P f xs esz es)
  (h:∀G' F' a' w',SimD P fr ds G' F' (run1 fr o.dst ⟨.tl id es.length false,some (id,.arr esz es false)⟩ st) N a' w'→Step All G F st.mem w G' F' (run1 fr o.dst ⟨.tl id es.length false,some (id,.arr esz es false)⟩ st).mem w'→(∀j,j≠id→G j=none→G' j=none)→K a' w'):o.wpIn (fc ro) 0 P a w K Q1:=by
 refine⟨fun _ _=>trivial,?_⟩;rw[Oper.semAt_eq _ _ _ (by rw[hop];intro c h;cases h)];have hv:=(s.eval callee).unopt;have hv:RV G F st.mem w (a.eval callee) (.fn f []):=by unfold od at hcal;rwa[hcal]at hv
 obtain⟨vs,hev,hl,_⟩:=hv.inv_fn
 have hvs:vs=[]:=by cases vs with
  | nil=>rfl
  | cons a l=>simp at hl
 subst hvs;have hrun:(execOp a.eval o).run P w=.ok (.enter f ((args.toList.map a.eval).toArray)) w:=by
  obtain⟨dst,op,ty,pos,after,guard⟩:=o;simp only at hop;subst hop;simp only[execOp,resolve,hev,Deferred.ofValue,Sem.run_bind,Sem.run_pure,Result.andThen_ok,invoke];rw[hc.1];congr 2;apply Array.ext';simp
 rw[hrun];have hi:Imms (Avl.lend G F st.mem) w (args.toList.map a.eval) xs:=by
  subst hxs;refine⟨by simp[argsD],fun i h1 h2=>?_⟩;simp only[argsD,List.getElem_map]at h2⊢;unfold argsK at hk;rw[List.all_eq_true]at hk;exact RV.lendA s.mem d (s.eval _).unopt (hk _ (List.getElem_mem _))
 have hin:∀b o,Avl.lend G F st.mem b o→b<w.heap.size:=fun b o h=>h.elim (s.mem.inF b o) fun h=>s.mem.lt h;refine⟨fun h=>by simp[fc,Fence.wide]at h,callsIn_fc ((hc.2 _ w _ ⟨hin,s.mem.gl.mono (fun _ _ h=>.inl h) fun _ _ _=>rfl⟩ hi).mono ?_)⟩;rintro e w' ⟨b,c,cc,el,F',rfl,q2,qb,q3,q4,q5,q6,q7,q8,g⟩;have g':Grown F w (fun b o=>F b o∨(F' b o∧w.heap.size≤b)) w':=
  ⟨g.size,g.old,fun _ _ h=>.inl h,fun b o h=>h.imp (fun h=>h) fun h=>h.2,fun b o h=>by
   rcases h with h|h
   ·exact Nat.lt_of_lt_of_le (s.mem.inF b o h) g.size
   ·exact g.inF b o h.1,g.kept⟩
 have q8':∀o,¬(F b o∨(F' b o∧w.heap.size≤b)):=fun o h=>h.elim (fun h=>q8 o (g.F1 _ _ (.inl h))) fun h=>q8 o h.1;have hcell:∀(G2:Nat→Option Value) (F2:Nat→Nat→Prop) (M2:Mem) (i k:Nat) (hi:i<es.length) (hk:k<es[i].length),∃v,cc[i*esz+k]?=some v∧v.oneCell'=true∧RV G2 F2 M2 w' v es[i][k]:=fun G2 F2 M2 i k hi hk=>by
  obtain⟨v,k1,k2,k3⟩:=q7 i k hi hk;have h1:isScV es[i][k]=true:=by
   rw[List.all_eq_true]at hsc;have:=hsc _ (List.getElem_mem hi);rw[List.all_eq_true]at this;exact this _ (List.getElem_mem hk)
  refine⟨v,k1,k2,?_⟩;generalize es[i][k]=y at h1 k3;cases y with
  | sc u=>
    cases k3;exact .imm (.sc _)
  | _=>cases h1
 obtain⟨hm',S'⟩:=simM_grownNew (id:=id) s.mem g' hid hN (.slice (some ⟨b,0,none⟩) es.length c) (.arr esz es false) (by simp[blkOf,q2]) qb fun S=>
  .inr ⟨b,c,cc,el,upG_self _ _ _,q2,q3,q4,q5,q6,hcell _ _ _,fun o hF=>absurd hF (q8' o),fun hz=>by cases hz⟩
 obtain⟨s1,S1⟩:=s.put (d:=o.dst) (r:=⟨.tl id es.length false,some (id,.arr esz es false)⟩) (u:=.slice (some ⟨b,0,none⟩) es.length c) hm' (fun i=>by
  simp only[Rc.mem];rw[mlook_mset,mlook_cons]) S' hd (.tl id es.length false _ (by rw[upG_self];simp) fun esz' es' fz' ho=>by
   rw[mlook_cons,if_pos rfl]at ho;cases ho;exact⟨Nat.le_refl _,fun _=>⟨upG_self _ _ _,rfl⟩⟩)
 exact h _ _ _ w' s1 S1 fun j hj hG=>by rw[upG_other G _ hj];exact hG
theorem OpIs.callND{f:FuncId}{callee:Operand}{args:Array Operand}{tys:Array TypeId}{xs:List AV}{esz:Nat}{es:List (List AV)}(d:Nat)(hg:o.guard=none)(hop:o.op=.call ⟨.value callee,args,tys⟩)(hd:dok fr o.dst=true)
  (hcal:od fr st true callee=.fn f [])(hxs:argsD fr st d args=xs)(hk:argsK fr st d args=true)(hrd:rdL fr st d [] o args=rd)(hsc:(es.all fun c=>c.all isScV)=true)(hc:PureNew P f xs esz es):OpIs P fr ro ds ops id st ⟨o,⟨.tl id es.length false,some (id,.arr esz es false)⟩,rd⟩:=by
 intro st' G F a w N K Q1 s hN hG hl h;simp only[Region.wanted,hg,if_true];have hslot:∀x∈o.op.operands.toList,opnd fr st' x=opnd fr st x:=fun x hx=>by
  cases x with
  | tmp t=>exact look_slot (hl _ (by simp only;rw[←hrd];unfold rdL;exact List.mem_append_right _ (List.mem_append_left _ (opSlots_mem hx))))
  | _=>rfl
 rw[hop]at hslot;have hodc:od fr st' true callee=od fr st true callee:=by unfold od;rw[hslot callee (by simp[Op.operands,Call.operands])]
 have hoda:∀x∈args.toList,od fr st' true x=od fr st true x:=fun x hx=>by
  unfold od;rw[hslot x (by simp only[Op.operands,Call.operands];simp;exact .inr (by simpa using hx))]
 have hcg:∀x∈args.toList,lendA st'.mem d (od fr st' true x)=lendA st.mem d (od fr st true x)∧lendK st'.mem d (od fr st' true x)=lendK st.mem d (od fr st true x):=fun x hx=>by
  rw[hoda x hx];exact lend_congr d _ fun i hi=>look_obj (hl _ (by simp only;rw[←hrd];unfold rdL;exact List.mem_append_right _ (List.mem_append_right _ (argsI_mem hx hi))))
 refine s.callND (d:=d) hN hG hop hd (by rw[hodc];exact hcal) ?_ ?_ hsc hc h
 ·rw[←hxs];unfold argsD;exact List.map_congr_left fun x hx=>(hcg x hx).1
 ·rw[←hk];unfold argsK;rw[Bool.eq_iff_iff,List.all_eq_true,List.all_eq_true];exact⟨fun h x hx=>by rw[←(hcg x hx).2];exact h x hx,fun h x hx=>by rw[(hcg x hx).2];exact h x hx⟩
end
def St.slotTv(fr:Fr)(k:Nat)(st:St):Option St:=
 match st.get fr k with
 | .tl i n _=>match mlook st.mem i with
   | some (.arr _ es _)=>match decide (n=es.length)&&!(n==0)with
     | true=>some (st.put fr (some k) (.tv i n 0 n .rest))
     | false=>none
   | _=>none
 | _=>none
attribute [go_sem] St.slotTv
section
variable {P:Program} {fr:Fr} {ro:Option Nat} {ds:DS} {st st':St} {Q:Exit→St→Prop} {G:Nat→Option Value} {F:Nat→Nat→Prop} {a:Act} {w:World} {c:Code}
theorem SimA.slotTv{k:Nat}(s:SimA P fr ds G F st a w)(h:st.slotTv fr k=some st'):SimA P fr ds G F st' a w∧st'.mem=st.mem:=by
 unfold St.slotTv at h;split at h
 ·rename_i i n b hg;split at h
  ·rename_i esz es fz ho;split at h
   ·rename_i hc;cases h;simp only[Bool.and_eq_true,decide_eq_true_eq,Bool.not_eq_true',beq_eq_false_iff_ne]at hc;refine⟨⟨⟨by rw[St.put_mem,St.put_nx];exact s.sim.mem,fun j=>?_,s.sim.size⟩,fun j hj=>s.fresh j (by rw[St.put_nx]at hj;exact hj),s.defers⟩,St.put_mem ..⟩;rw[St.put_mem,St.get_put];split
    ·rename_i hj;subst hj;have:=s.sim.slots j;rw[hg]at this;exact this.tl_tv s.sim.mem ho hc.1 hc.2
    ·exact s.sim.slots j
   ·cases h
  ·cases h
 ·cases h
theorem EvC.slotTv(k:Nat)(h:st.slotTv fr k=some st')(hc:EvC P fr ro ds c st' Q):EvC P fr ro ds c st Q:=
 EvC.conv (fun G F _ _ s=>⟨G,F,(s.slotTv h).1,by rw[(s.slotTv h).2];exact .refl⟩) hc
theorem XR.frzD{ops:Array Oper}{l:List Oper}(i:Nat)(h:st.frzD i=some st')(hc:XR P fr ro ds ops l st' Q):XR P fr ro ds ops l st Q:=
 fun _ _ _ _ _ _ _ _ S s=>let⟨_,s',S'⟩:=s.frzD h;hc _ _ _ _ _ _ _ _ (S.trans S') s'
theorem XR.snapA{ops:Array Oper}{l:List Oper}(i:Nat)(h:st.snapA i=some st')(hc:XR P fr ro ds ops l st' Q):XR P fr ro ds ops l st Q:=
 fun _ _ _ _ _ _ _ _ S s=>let⟨s',S'⟩:=s.snapA h;hc _ _ _ _ _ _ _ _ (S.trans S') s'
end
theorem noconf_slots{l:List It}{t u:It}{x:Nat}(h6:rdOk l t=true)(h4:∀x,x∈slotsOf l t.o∨x∈dstC t.o→x∉dstC u.o)(h5:memless t.o.op=true∧t.r.fx=none∨u.r.fx=none)(hx:x∈t.rd∨x∈wl t.o.dst t.r)(hu:x∈wl u.o.dst u.r):False:=by
 unfold rdOk at h6;rw[List.all_eq_true]at h6;have hd:∀{o:Oper} {r:Rc},x∈wl o.dst r→x∈dstC o∨(x%2=1∧r.fx≠none):=fun{o r} h=>by
  rcases wl_split h with h|h
  ·exact .inl h.2
  ·exact .inr h
 have he:∀{o:Oper},x∈dstC o→x%2=0:=fun{o} h=>by
  unfold dstC at h;split at h
  ·simp at h;omega
  ·cases h
 rcases hd hu with hu|⟨hu1,hu2⟩
 ·have hev:=he hu;rcases hx with hx|hx
  ·have:=h6 x hx;simp only[Bool.or_eq_true,Bool.and_eq_true,beq_iff_eq,List.contains_iff_mem]at this;rcases this with h|h
   ·omega
   ·exact h4 x (.inl h) hu
  ·rcases hd hx with hx|⟨h,_⟩
   ·exact h4 x (.inr hx) hu
   ·omega
 ·rcases h5 with⟨h5,h5'⟩|h5
  ·rcases hx with hx|hx
   ·have:=h6 x hx;simp only[Bool.or_eq_true,Bool.and_eq_true,beq_iff_eq,List.contains_iff_mem,h5,Bool.not_true,Bool.false_eq_true,and_false,false_or]at this;have hs:∀y∈slotsOf l t.o,y%2=0:=fun y hy=>by
     unfold slotsOf at hy;rcases List.mem_append.1 hy with hy|hy
     ·have hos:∀xs:List Operand,∀y∈opSlots xs,y%2=0:=by
        intro xs
        induction xs with
        | nil=>intro y hy;simp[opSlots]at hy
        | cons z xs ih=>
          intro y hy;cases z with
          | tmp t=>
            simp only[opSlots,List.mem_cons]at hy;rcases hy with hy|hy
            ·omega
            ·exact ih y hy
          | const v=>exact ih y (by simpa only[opSlots]using hy)
          | global g=>exact ih y (by simpa only[opSlots]using hy)
          | func f=>exact ih y (by simpa only[opSlots]using hy)
      exact hos _ y hy
     ·split at hy
      ·split at hy
       ·split at hy
        ·simp at hy;omega
        ·cases hy
       ·cases hy
      ·cases hy
    have:=hs x this;omega
   ·rcases hd hx with hx|⟨_,h⟩
    ·have:=he hx;omega
    ·exact h h5'
  ·exact hu2 h5
def confTA(ops:List It)(i:Nat)(t:It):Nat→List It→Bool
 | _,[]=>true
 | m,u::l=>(i==m||ancB ops 4 i m||ancB ops 4 m i||(!((slotsOf ops t.o++dstC t.o).any fun x=>(dstC u.o).contains x)&&!((!memless t.o.op||t.r.fx.isSome)&&u.r.fx.isSome)))&&confTA ops i t (m+1) l
def confSA(all:List It):Nat→List It→Bool
 | _,[]=>true
 | i,t::l=>(depsOf t.o).all (fun e=>decide (e<i))&&confTA all i t 0 all&&confSA all (i+1) l
theorem confOneA_slots{all:List It}{i:Nat}{t:It}(hr:rdOk all t=true):∀(l:List It) (m0:Nat),confTA all i t m0 l=true→confOneA all i t m0 l=true
 | [],_,_=>rfl
 | u::l,m0,h=>by
   simp only[confTA,Bool.and_eq_true]at h;simp only[confOneA,Bool.and_eq_true];refine⟨?_,confOneA_slots hr l (m0+1) h.2⟩;have h1:=h.1;simp only[Bool.or_eq_true,Bool.and_eq_true]at h1⊢;rcases h1 with((h1|h1)|h1)|h1
   ·exact .inl (.inl (.inl h1))
   ·exact .inl (.inr h1)
   ·exact .inr h1
   ·refine .inl (.inl (.inr ?_));rw[Bool.not_eq_true',List.any_eq_false];intro x hx;intro hxu;simp only[Bool.not_eq_true',List.any_eq_false,List.mem_append,List.contains_iff_mem]at h1;refine noconf_slots hr (fun y hy=>h1.1 y hy) ?_ (List.mem_append.1 hx) (by simpa using hxu);have h2:=h1.2;cases hm:memless t.o.op<;>cases ht:t.r.fx<;>cases hu:u.r.fx<;>simp[hm,ht,hu]at h2⊢
theorem confAllA_slots{l:List It}(h1:l.all (rdOk l)=true)(h2:confSA l 0 l=true):confAllA l 0 l=true:=by
 rw[List.all_eq_true]at h1;have key:∀(k:List It) (i0:Nat),(∀t∈k,t∈l)→confSA l i0 k=true→confAllA l i0 k=true:=by
  intro k
  induction k with
  | nil=>intro _ _ _;rfl
  | cons t k ih=>
    intro i0 hm h;simp only[confSA,Bool.and_eq_true]at h;simp only[confAllA,Bool.and_eq_true];exact⟨⟨h.1.1,confOneA_slots (h1 t (hm t List.mem_cons_self)) l 0 h.1.2⟩,ih (i0+1) (fun u hu=>hm u (List.mem_cons_of_mem _ hu)) h.2⟩
 exact key l 0 (fun _ h=>h) h2
variable {P:Program} {fr:Fr} {ro:Option Nat} {ds:DS} {Q:Exit→St→Prop} {ops:Array Oper}
theorem XR.runTo':∀(n:Nat) (l:List Oper) {st:St} {ok ok':Bool} {st':St},xrun P fr (l.take n) st ok=.done ok' st'→ok'=true→XR P fr ro ds ops (l.drop n) st' Q→XR P fr ro ds ops l st Q∧ok=true
 | 0,l,st,ok,ok',st',h,hok,hq=>by
   simp only[List.take_zero,xrun]at h;cases h;exact⟨hq,hok⟩
 | n+1,[],st,ok,ok',st',h,hok,hq=>by
   simp only[List.take_nil,xrun]at h;cases h;exact⟨hq,hok⟩
 | n+1,o::l,st,ok,ok',st',h,hok,hq=>by
   rw[List.take_succ_cons]at h;rw[List.drop_succ_cons]at hq;unfold xrun at h;split at h
   ·cases h
   ·rename_i hg;split at h
    ·cases h
    ·rename_i hd;split at h
     ·cases h
     ·rename_i b st1 he;have:=XR.runTo' n l h hok hq;have h2:=this.2;simp only[Bool.and_eq_true]at h2;exact⟨.op hg hd he h2.2 this.1,h2.1⟩
theorem XR.runTo(n:Nat){l:List Oper}{st st':St}{ok:Bool}(h:xrun P fr (l.take n) st true=.done ok st')(hok:ok=true)(hq:XR P fr ro ds ops (l.drop n) st' Q):XR P fr ro ds ops l st Q:=(XR.runTo' n l h hok hq).1
theorem EvC.rt{st st':St}{l:List Oper}{ok:Bool}{id:Nat}(n:Nat)(h:xrun P fr (l.take n) st.clr true=.done ok st')(hok:ok=true)(hq:XR P fr ro ds l.toArray (l.drop n) st' Q):EvC P fr ro ds (.region id l.toArray false) st Q:=.region (.runTo n h hok hq)
section
variable {P:Program} {fr:Fr} {ro:Option Nat} {ds:DS} {st st':St} {Q Q':Exit→St→Prop} {x y c:Code} {l rest:List Oper} {o:Oper} {ok:Bool} {id:Nat} {ops:Array Oper} {its:List It}
theorem EvC.a(hq:EvC P fr ro ds y st'.clr Q)(h:xrun P fr l st.clr true=.done ok st':=by simp only[go_sem]<;>rfl)(hok:ok=true:=by simp):EvC P fr ro ds (.seq (.region id l.toArray false) y) st Q:=.seq (.rg h hok hq)
theorem EvC.b(hq:Q .normal st'.clr)(h:xrun P fr l st.clr true=.done ok st':=by simp only[go_sem]<;>rfl)(hok:ok=true:=by simp):EvC P fr ro ds (.region id l.toArray false) st Q:=.rg h hok hq
theorem EvC.ai(hq:EvC P fr ro ds y st'.clr Q)(h:xrun P fr l st.clr true=.done ok st':=by simp only[go_sem]<;>rfl)(hok:ok=true:=by exact inI64_of (by omega) (by omega)):EvC P fr ro ds (.seq (.region id l.toArray false) y) st Q:=.seq (.rg h hok hq)
theorem EvC.bi(hq:Q .normal st'.clr)(h:xrun P fr l st.clr true=.done ok st':=by simp only[go_sem]<;>rfl)(hok:ok=true:=by exact inI64_of (by omega) (by omega)):EvC P fr ro ds (.region id l.toArray false) st Q:=.rg h hok hq
theorem EvC.cd{o:Operand}{b:Bool}(ht:b=true→EvC P fr ro ds x st Q)(hf:b=false→EvC P fr ro ds y st Q)(ho:opnd fr st o=.sc (.bool b):=by simp only[go_sem]<;>rfl):EvC P fr ro ds (.cond o x y) st Q:=.cond ho ht hf
theorem EvC.s1(ht:Tr P fr ro ds l.toArray st.nx l st.clr its st')(hq:EvC P fr ro ds y (st'.fin (st.nx+its.length)) Q):EvC P fr ro ds (.seq (.region id l.toArray false) y) st Q:=.seq (.tr ht hq)
theorem EvC.ct{o:Operand}(ht:EvC P fr ro ds x st Q)(ho:opnd fr st o=.sc (.bool true):=by simp only[go_sem]<;>rfl):EvC P fr ro ds (.cond o x y) st Q:=.cond_true ho ht
theorem EvC.cf{o:Operand}(ht:EvC P fr ro ds y st Q)(ho:opnd fr st o=.sc (.bool false):=by simp only[go_sem]<;>rfl):EvC P fr ro ds (.cond o x y) st Q:=.cond_false ho ht
theorem EvC.cs{o:Operand}(h:Q .normal st)(ho:opnd fr st o=.sc (.bool false):=by simp only[go_sem]<;>rfl):EvC P fr ro ds (.cond o x .skip) st Q:=.cond_false ho (.skip h)
theorem EvC.cr{o:Operand}(h:Q .normal st)(ho:opnd fr st o=.sc (.bool true):=by simp only[go_sem]<;>rfl):EvC P fr ro ds (.cond o .skip y) st Q:=.cond_true ho (.skip h)
theorem EvC.z(i:Nat)(hc:EvC P fr ro ds c st' Q)(h:st.frzB i=some st':=by simp only[go_sem]<;>rfl):EvC P fr ro ds c st Q:=.frzB i h hc
theorem EvC.rz{results:List ResultVar}{r:AV}{rs:List AV}(h2:mkRes rs=r)(hQ:Q .ret st=retP P fr results r .ret st:=by rfl)(h1:resAll P fr st results=some rs:=by simp only[go_sem]<;>rfl)(h3:r.noref=true:=by rfl):EvC P fr ro ds .ret st Q:=.ret (by rw[hQ];exact⟨.inl rfl,_,h1,h2,h3⟩)
theorem OpIs.ca{f:FuncId}{cs:List AV}{callee:Operand}{args:Array Operand}{tys:Array TypeId}{xs:List AV}{v:AV}{rd:List Nat}(hc:PureIs P f xs v)(hg:o.guard=none:=by rfl)(hop:o.op=.call ⟨.value callee,args,tys⟩:=by rfl)(hd:dok fr o.dst=true:=by simp only[go_sem]<;>rfl)
 (hcal:od fr st true callee=.fn f cs:=by simp only[go_sem]<;>rfl)(hxs:callArgs fr st args++cs=xs:=by simp only[go_sem]<;>rfl)(hn:AV.norefs xs=true:=by simp only[go_sem]<;>rfl)(hrd:rdOf fr st [] o=rd:=by simp only[go_sem]<;>rfl):OpIs P fr ro ds ops id st ⟨o,⟨v,none⟩,rd⟩:=.call hg hop hd hcal hxs hn hrd hc
theorem OpIs.cg{j k:Nat}{want:Bool}{f:FuncId}{cs:List AV}{callee:Operand}{args:Array Operand}{tys:Array TypeId}{xs:List AV}{v:AV}{rd:List Nat}(hc:PureIs P f xs v)(hg:o.guard=some (j,want):=by rfl)(hj:gslot ops j=some k:=by rfl)(hk:gval want (st.get fr k)=some true:=by simp only[go_sem]<;>rfl)
 (hop:o.op=.call ⟨.value callee,args,tys⟩:=by rfl)(hd:dok fr o.dst=true:=by simp only[go_sem]<;>rfl)
 (hcal:od fr st true callee=.fn f cs:=by simp only[go_sem]<;>rfl)(hxs:callArgs fr st args++cs=xs:=by simp only[go_sem]<;>rfl)(hn:AV.norefs xs=true:=by simp only[go_sem]<;>rfl)(hrd:rdOf fr st [2*k] o=rd:=by simp only[go_sem]<;>rfl):OpIs P fr ro ds ops id st ⟨o,⟨v,none⟩,rd⟩:=.callG hg hj hk hop hd hcal hxs hn hrd hc
theorem PureIs.of1(nv:Nat)(hid:List Nat){f:FuncId}{fn:Func}{args:List AV}{r:AV}{n:Nat}{rs:Array ResultVar}(hf:P.funcs[f]?=some fn)(hn:fn.ntmps=n)(hr:fn.results=rs)
  (h:∀h0:Nat,EvC P ⟨0,nv,hid,n⟩ none ⟨h0,none,false⟩ c (st0 args) (retP P ⟨0,nv,hid,n⟩ rs.toList r))(hb:fn.body=some c:=by rfl)(hnm:(fn.name== "runtime.NumGoroutine")=false:=by kernel_rfl)(hsz:args.length≤n:=by simp):PureIs P f args r:=by
 subst hn hr;exact .of hf hb hnm hsz h
end
section
variable {P:Program} {fr:Fr} {ro:Option Nat} {ds:DS} {st st1 st2 st3 st4:St} {Q:Exit→St→Prop} {y:Code} {l r1 r2 r3:List Oper} {o1 o2 o3:Oper} {b1 b2 b3 b4:Bool} {id n1 n2 n3:Nat} {i1 i2 i3 i4:List It} {x1 x2 x3:Rc} {d1 d2 d3:List Nat}
theorem EvC.g(hq:EvC P fr ro ds y (st1.fin (st.nx+i1.length)) Q)(h:trun P fr l l st.nx st.clr=.done b1 i1 st1:=by simp only[go_sem]<;>rfl)(hok:b1=true:=by simp):EvC P fr ro ds (.seq (.region id l.toArray false) y) st Q:=.seq (.trd h hok hq)
theorem EvC.gL(hq:Q .normal (st1.fin (st.nx+i1.length)))(h:trun P fr l l st.nx st.clr=.done b1 i1 st1:=by simp only[go_sem]<;>rfl)(hok:b1=true:=by simp):EvC P fr ro ds (.region id l.toArray false) st Q:=.trd h hok hq
theorem EvC.d(m:P.follows .mixedOrders=true)(hq:EvC P fr ro ds y (st1.fin (st.nx+i1.length)) Q)(h:trun P fr l l st.nx st.clr=.done b1 i1 st1:=by simp only[go_sem]<;>rfl)(hok:b1=true:=by simp)(hc:confAll i1 0 i1=true:=by kernel_rfl):EvC P fr ro ds (.seq (.region id l.toArray true) y) st Q:=.seq (.drd m h hok hc hq)
theorem EvC.dL(m:P.follows .mixedOrders=true)(hq:Q .normal (st1.fin (st.nx+i1.length)))(h:trun P fr l l st.nx st.clr=.done b1 i1 st1:=by simp only[go_sem]<;>rfl)(hok:b1=true:=by simp)(hc:confAll i1 0 i1=true:=by kernel_rfl):EvC P fr ro ds (.region id l.toArray true) st Q:=.drd m h hok hc hq
theorem EvC.k1(hq:EvC P fr ro ds y (st2.fin (st.nx+(i1++⟨o1,x1,d1⟩::i2).length)) Q)(h1:trun P fr l l st.nx st.clr=.stop b1 i1 st1 (o1::r1) n1:=by simp only[go_sem]<;>rfl)(k1:b1=true:=by simp)
 (c1:OpIs P fr ro ds l.toArray n1 st1 ⟨o1,x1,d1⟩)(h2:trun P fr l r1 (n1+1) (run1 fr o1.dst x1 st1)=.done b2 i2 st2:=by simp only[go_sem]<;>rfl)(k2:b2=true:=by simp):EvC P fr ro ds (.seq (.region id l.toArray false) y) st Q:=.seq (.tr (.run h1 k1 (.cons c1 (.done h2 k2))) hq)
theorem EvC.k1L(hq:Q .normal (st2.fin (st.nx+(i1++⟨o1,x1,d1⟩::i2).length)))(h1:trun P fr l l st.nx st.clr=.stop b1 i1 st1 (o1::r1) n1:=by simp only[go_sem]<;>rfl)(k1:b1=true:=by simp)
 (c1:OpIs P fr ro ds l.toArray n1 st1 ⟨o1,x1,d1⟩)(h2:trun P fr l r1 (n1+1) (run1 fr o1.dst x1 st1)=.done b2 i2 st2:=by simp only[go_sem]<;>rfl)(k2:b2=true:=by simp):EvC P fr ro ds (.region id l.toArray false) st Q:=.tr (.run h1 k1 (.cons c1 (.done h2 k2))) hq
theorem EvC.k1D(m:P.follows .mixedOrders=true)(hq:EvC P fr ro ds y (st2.fin (st.nx+(i1++⟨o1,x1,d1⟩::i2).length)) Q)(h1:trun P fr l l st.nx st.clr=.stop b1 i1 st1 (o1::r1) n1:=by simp only[go_sem]<;>rfl)(k1:b1=true:=by simp)
 (c1:OpIs P fr ro ds l.toArray n1 st1 ⟨o1,x1,d1⟩)(h2:trun P fr l r1 (n1+1) (run1 fr o1.dst x1 st1)=.done b2 i2 st2:=by simp only[go_sem]<;>rfl)(k2:b2=true:=by simp)(hc:confAll (i1++⟨o1,x1,d1⟩::i2) 0 (i1++⟨o1,x1,d1⟩::i2)=true:=by kernel_rfl):EvC P fr ro ds (.seq (.region id l.toArray true) y) st Q:=.seq (.drw m (.run h1 k1 (.cons c1 (.done h2 k2))) hc hq)
theorem EvC.k1LD(m:P.follows .mixedOrders=true)(hq:Q .normal (st2.fin (st.nx+(i1++⟨o1,x1,d1⟩::i2).length)))(h1:trun P fr l l st.nx st.clr=.stop b1 i1 st1 (o1::r1) n1:=by simp only[go_sem]<;>rfl)(k1:b1=true:=by simp)
 (c1:OpIs P fr ro ds l.toArray n1 st1 ⟨o1,x1,d1⟩)(h2:trun P fr l r1 (n1+1) (run1 fr o1.dst x1 st1)=.done b2 i2 st2:=by simp only[go_sem]<;>rfl)(k2:b2=true:=by simp)(hc:confAll (i1++⟨o1,x1,d1⟩::i2) 0 (i1++⟨o1,x1,d1⟩::i2)=true:=by kernel_rfl):EvC P fr ro ds (.region id l.toArray true) st Q:=.drw m (.run h1 k1 (.cons c1 (.done h2 k2))) hc hq
theorem EvC.k2(hq:EvC P fr ro ds y (st3.fin (st.nx+(i1++⟨o1,x1,d1⟩::(i2++⟨o2,x2,d2⟩::i3)).length)) Q)(h1:trun P fr l l st.nx st.clr=.stop b1 i1 st1 (o1::r1) n1:=by simp only[go_sem]<;>rfl)(k1:b1=true:=by simp)
 (c1:OpIs P fr ro ds l.toArray n1 st1 ⟨o1,x1,d1⟩)(h2:trun P fr l r1 (n1+1) (run1 fr o1.dst x1 st1)=.stop b2 i2 st2 (o2::r2) n2:=by simp only[go_sem]<;>rfl)(k2:b2=true:=by simp)
 (c2:OpIs P fr ro ds l.toArray n2 st2 ⟨o2,x2,d2⟩)(h3:trun P fr l r2 (n2+1) (run1 fr o2.dst x2 st2)=.done b3 i3 st3:=by simp only[go_sem]<;>rfl)(k3:b3=true:=by simp):EvC P fr ro ds (.seq (.region id l.toArray false) y) st Q:=.seq (.tr (.run h1 k1 (.cons c1 (.run h2 k2 (.cons c2 (.done h3 k3))))) hq)
theorem EvC.k2D(m:P.follows .mixedOrders=true)(hq:EvC P fr ro ds y (st3.fin (st.nx+(i1++⟨o1,x1,d1⟩::(i2++⟨o2,x2,d2⟩::i3)).length)) Q)(h1:trun P fr l l st.nx st.clr=.stop b1 i1 st1 (o1::r1) n1:=by simp only[go_sem]<;>rfl)(k1:b1=true:=by simp)
 (c1:OpIs P fr ro ds l.toArray n1 st1 ⟨o1,x1,d1⟩)(h2:trun P fr l r1 (n1+1) (run1 fr o1.dst x1 st1)=.stop b2 i2 st2 (o2::r2) n2:=by simp only[go_sem]<;>rfl)(k2:b2=true:=by simp)
 (c2:OpIs P fr ro ds l.toArray n2 st2 ⟨o2,x2,d2⟩)(h3:trun P fr l r2 (n2+1) (run1 fr o2.dst x2 st2)=.done b3 i3 st3:=by simp only[go_sem]<;>rfl)(k3:b3=true:=by simp)(hc:confAll (i1++⟨o1,x1,d1⟩::(i2++⟨o2,x2,d2⟩::i3)) 0 (i1++⟨o1,x1,d1⟩::(i2++⟨o2,x2,d2⟩::i3))=true:=by kernel_rfl):EvC P fr ro ds (.seq (.region id l.toArray true) y) st Q:=.seq (.drw m (.run h1 k1 (.cons c1 (.run h2 k2 (.cons c2 (.done h3 k3))))) hc hq)
theorem EvC.k3(hq:EvC P fr ro ds y (st4.fin (st.nx+(i1++⟨o1,x1,d1⟩::(i2++⟨o2,x2,d2⟩::(i3++⟨o3,x3,d3⟩::i4))).length)) Q)(h1:trun P fr l l st.nx st.clr=.stop b1 i1 st1 (o1::r1) n1:=by simp only[go_sem]<;>rfl)(k1:b1=true:=by simp)
 (c1:OpIs P fr ro ds l.toArray n1 st1 ⟨o1,x1,d1⟩)(h2:trun P fr l r1 (n1+1) (run1 fr o1.dst x1 st1)=.stop b2 i2 st2 (o2::r2) n2:=by simp only[go_sem]<;>rfl)(k2:b2=true:=by simp)
 (c2:OpIs P fr ro ds l.toArray n2 st2 ⟨o2,x2,d2⟩)(h3:trun P fr l r2 (n2+1) (run1 fr o2.dst x2 st2)=.stop b3 i3 st3 (o3::r3) n3:=by simp only[go_sem]<;>rfl)(k3:b3=true:=by simp)
 (c3:OpIs P fr ro ds l.toArray n3 st3 ⟨o3,x3,d3⟩)(h4:trun P fr l r3 (n3+1) (run1 fr o3.dst x3 st3)=.done b4 i4 st4:=by simp only[go_sem]<;>rfl)(k4:b4=true:=by simp):EvC P fr ro ds (.seq (.region id l.toArray false) y) st Q:=.seq (.tr (.run h1 k1 (.cons c1 (.run h2 k2 (.cons c2 (.run h3 k3 (.cons c3 (.done h4 k4))))))) hq)
end
def chainOk(n:Nat):List Oper→Bool
 | []=>true
 | o::l=>(depsOf o).contains n&&(depsOf o).all (fun e=>decide (e<n+1))&&chainOk (n+1) l
theorem chainOk_spec:∀{tl:List Oper} {n:Nat},chainOk n tl=true→∀(k:Nat) (o:Oper),tl[k]?=some o→n+k∈depsOf o∧∀e∈depsOf o,e<n+1+k
 | [],_,_,k,o,h=>by simp at h
 | x::tl,n,h,k,o,hk=>by
   simp only[chainOk,Bool.and_eq_true,List.contains_iff_mem,List.all_eq_true,decide_eq_true_eq]at h;cases k with
   | zero=>simp at hk;subst hk;exact⟨h.1.1,h.1.2⟩
   | succ k=>
     have:=chainOk_spec h.2 k o (by simpa using hk);exact⟨by rw[show n+(k+1)=n+1+k by omega];exact this.1,fun e he=>by have:=this.2 e he;omega⟩
section
variable {P:Program} {fr:Fr} {ro:Option Nat} {ds:DS} {st st':St} {Q:Exit→St→Prop} {G G':Nat→Option Value} {F F':Nat→Nat→Prop} {a:Act} {w w':World}
 {M M':Mem} {ops:Array Oper} {o:Oper} {id N:Nat} {S S':Nat→Bool} {d:Option Nat} {r:Rc} {x y:Nat} {l:List It}
theorem drawAnyT{nx:Nat}{ol:Oper}{tl:List Oper}{l:List It}{st:St}{G0:Nat→Option Value}{F0:Nat→Nat→Prop}{M0:Mem}{w0:World}(hops:∀i:Nat,i<l.length→(ops[i]?:Option Oper)=(l[i]?).map fun t=>t.o)(hol:ops[l.length]?=some ol)(htl:∀k,ops[l.length+1+k]?=tl[k]?)(hch:∀(k:Nat) (o:Oper),tl[k]?=some o→l.length+k∈depsOf o∧∀e∈depsOf o,e<l.length+1+k)(hn:ops.size=l.length+1+tl.length)(hc:Conf l)
  (hlb:∀e∈depsOf ol,e<l.length)(hanc:∀i,i<l.length→i∈depsOf ol∨∃(m:Nat) (t:It),i<m∧l[m]?=some t∧i∈depsOf t.o)
  (his:∀i t,l[i]?=some t→OpIs P fr ro ds ops (nx+i) (foldS fr (fun j=>decide (j<i)) 0 l st) t)
  (hQ:∀G F a w,SimD P fr ds G F (foldS fr (fun _=>true) 0 l st) (nx+l.length) a w→(∀j,nx+l.length≤j→G j=none)→Step (·<fr.base) G0 F0 M0 w0 G F (foldS fr (fun _=>true) 0 l st).mem w→
   wpListIn (fc ro) 0 P ops (Post P fr ds G0 F0 M0 w0 Q) (ol::tl) a w):
  ∀(fuel:Nat) (listed:Array Bool) (G:Nat→Option Value) (F:Nat→Nat→Prop) (a:Act) (w:World),listed.size=l.length+1+tl.length→(∀k,l.length≤k→k<l.length+1+tl.length→inS listed k=false)→
   SimD P fr ds G F (foldS fr (inS listed) 0 l st) (nx+l.length) a w→Step (·<fr.base) G0 F0 M0 w0 G F (foldS fr (inS listed) 0 l st).mem w→
   (∀j,nx≤j→(∀i,i<l.length→inS listed i=true→j≠nx+i)→G j=none)→
   (∀i t,l[i]?=some t→inS listed i=true→∀e∈depsOf t.o,inS listed e=true)→
   (List.range l.length).countP (fun i=>!inS listed i)+1+tl.length≤fuel→
   wpAnyIn (fc ro) 0 P .any ops (Post P fr ds G0 F0 M0 w0 Q) fuel listed a w:=by
 have readyOf:∀(listed:Array Bool),listed.size=l.length+1+tl.length→∀i,i<l.length→(i∈Region.ready .any ops listed↔inS listed i=false∧∃t,l[i]?=some t∧∀e∈depsOf t.o,inS listed e=true):=by
  intro listed hsz i hi;rw[mem_ready];constructor
  ·rintro⟨h1,o,ho,h2⟩;rw[hops i hi]at ho;obtain⟨t,ht,rfl⟩:=Option.map_eq_some_iff.1 ho;refine⟨?_,t,ht,fun e he=>?_⟩
   ·unfold inS;rw[Array.getD_eq_getD_getElem?]at h1⊢;rw[Array.getElem?_eq_getElem (by omega)]at h1⊢;exact h1
   ·simp only[depsOf,List.mem_map,List.mem_filter]at he;obtain⟨e',⟨he1,he2⟩,rfl⟩:=he;exact h2 e' (by simpa using he1) he2
  ·rintro⟨h1,t,ht,h2⟩;refine⟨?_,t.o,by rw[hops i hi,ht];rfl,fun e he hb=>h2 e.on ?_⟩
   ·unfold inS at h1;rw[Array.getD_eq_getD_getElem?]at h1⊢;rw[Array.getElem?_eq_getElem (by omega)]at h1⊢;exact h1
   ·simp only[depsOf,List.mem_map,List.mem_filter];exact⟨e,⟨by simpa using he,hb⟩,rfl⟩
 have readyL:∀(listed:Array Bool),listed.size=l.length+1+tl.length→inS listed l.length=false→((∀e∈depsOf ol,inS listed e=true)→l.length∈Region.ready .any ops listed)∧(l.length∈Region.ready .any ops listed→∀e∈depsOf ol,inS listed e=true):=by
  intro listed hsz hl0;refine⟨fun h2=>?_,fun h=>?_⟩
  ·rw[mem_ready];refine⟨?_,ol,hol,fun e he hb=>h2 e.on ?_⟩
   ·unfold inS at hl0;rw[Array.getD_eq_getD_getElem?]at hl0⊢;rw[Array.getElem?_eq_getElem (by omega)]at hl0⊢;exact hl0
   ·simp only[depsOf,List.mem_map,List.mem_filter];exact⟨e,⟨by simpa using he,hb⟩,rfl⟩
  ·rw[mem_ready]at h;obtain⟨_,o,ho,h2⟩:=h;rw[hol]at ho;cases ho;intro e he;simp only[depsOf,List.mem_map,List.mem_filter]at he;obtain⟨e',⟨he1,he2⟩,rfl⟩:=he;exact h2 e' (by simpa using he1) he2
 have readyLt:∀(listed:Array Bool),listed.size=l.length+1+tl.length→(∀k,l.length≤k→k<l.length+1+tl.length→inS listed k=false)→∀i,i∈Region.ready .any ops listed→i≤l.length:=by
  intro listed hsz hun i hi;rw[mem_ready]at hi;obtain⟨_,o,ho,h2⟩:=hi;have hsi:=(Array.getElem?_eq_some_iff.1 ho).1;by_cases hle:i≤l.length
  ·exact hle
  exfalso;have hk:=htl (i-(l.length+1));rw[show l.length+1+(i-(l.length+1))=i by omega,ho]at hk;obtain⟨hd,_⟩:=hch _ o hk.symm;simp only[depsOf,List.mem_map,List.mem_filter]at hd;obtain⟨e',⟨he1,he2⟩,he3⟩:=hd;have h3:=h2 e' (by simpa using he1) he2;have h4:=hun e'.on (by omega) (by omega);unfold inS at h4;rw[h4]at h3;cases h3
 have tailRun:∀(k:Nat) (fuel:Nat) (listed:Array Bool) (a:Act) (w:World),k≤tl.length+1→tl.length+1-k≤fuel→listed.size=l.length+1+tl.length→
   (∀i,i<l.length+k→inS listed i=true)→(∀i,l.length+k≤i→i<l.length+1+tl.length→inS listed i=false)→
   wpListIn (fc ro) 0 P ops (Post P fr ds G0 F0 M0 w0 Q) ((ol::tl).drop k) a w→wpAnyIn (fc ro) 0 P .any ops (Post P fr ds G0 F0 M0 w0 Q) fuel listed a w:=by
  intro k fuel
  induction fuel generalizing k with
  | zero=>
    intro listed a w hk hf hsz h1 h2 hw;have hk1:k=tl.length+1:=by omega
    subst hk1;rw[List.drop_eq_nil_of_le (by simp)]at hw;refine wpAnyIn_done ?_ hw 0;cases hr:Region.ready .any ops listed with
    | nil=>rfl
    | cons i rs=>
      exfalso;have hi:i∈Region.ready .any ops listed:=by rw[hr];exact List.mem_cons_self
      rw[mem_ready]at hi;obtain⟨q1,o,ho,_⟩:=hi;have:=(Array.getElem?_eq_some_iff.1 ho).1;have h3:=h1 i (by omega);unfold inS at h3;rw[Array.getD_eq_getD_getElem?]at h3 q1;rw[Array.getElem?_eq_getElem (by omega)]at h3 q1;simp only[Option.getD_some]at h3 q1;rw[h3]at q1;cases q1
  | succ fuel ih=>
    intro listed a w hk hf hsz h1 h2 hw;have hrd:∀i,i∈Region.ready .any ops listed→i=l.length+k∧k≤tl.length:=by
     intro i hi;rw[mem_ready]at hi;obtain⟨q1,o,ho,q2⟩:=hi;have hsi:=(Array.getElem?_eq_some_iff.1 ho).1;have hge:l.length+k≤i:=by
      by_cases hlt:i<l.length+k
      ·exfalso;have h3:=h1 i hlt;unfold inS at h3;rw[Array.getD_eq_getD_getElem?]at h3 q1;rw[Array.getElem?_eq_getElem (by omega)]at h3 q1;simp only[Option.getD_some]at h3 q1;rw[h3]at q1;cases q1
      ·omega
     refine⟨?_,by omega⟩;by_cases heq:i=l.length+k
     ·exact heq
     exfalso;have hk':=htl (i-(l.length+1));rw[show l.length+1+(i-(l.length+1))=i by omega,ho]at hk';obtain⟨hd,_⟩:=hch _ o hk'.symm;simp only[depsOf,List.mem_map,List.mem_filter]at hd;obtain⟨e',⟨he1,he2⟩,he3⟩:=hd;have h3:=q2 e' (by simpa using he1) he2;have h4:=h2 e'.on (by omega) (by omega);unfold inS at h4;rw[h4]at h3;cases h3
    by_cases hkt:k≤tl.length;rotate_left
    ·have hk1:k=tl.length+1:=by omega
     subst hk1;rw[List.drop_eq_nil_of_le (by simp)]at hw;refine wpAnyIn_done ?_ hw _;cases hr:Region.ready .any ops listed with
     | nil=>rfl
     | cons i rs=>
       have:=(hrd i (by rw[hr];exact List.mem_cons_self)).2;omega
    obtain⟨o,ho⟩:∃o,(ol::tl)[k]?=some o:=⟨_,List.getElem?_eq_getElem (by simp;omega)⟩;have hops':ops[l.length+k]?=some o:=by
     cases k with
     | zero=>simp at ho;subst ho;exact hol
     | succ k=>simp at ho;rw[←ho,←htl k];congr 1;omega
    have hdl:∀e∈depsOf o,e<l.length+k:=by
     cases k with
     | zero=>simp at ho;subst ho;exact hlb
     | succ k=>simp at ho;intro e he;have:=(hch k o ho).2 e he;omega
    have hmem:l.length+k∈Region.ready .any ops listed:=by
     rw[mem_ready];refine⟨?_,o,hops',fun e he hb=>h1 e.on (hdl _ ?_)⟩
     ·have h4:=h2 (l.length+k) (by omega) (by omega);unfold inS at h4;rw[Array.getD_eq_getD_getElem?]at h4⊢;rw[Array.getElem?_eq_getElem (by omega)]at h4⊢;exact h4
     ·simp only[depsOf,List.mem_map,List.mem_filter];exact⟨e,⟨by simpa using he,hb⟩,rfl⟩
    refine⟨fun hr=>(by rw[hr]at hmem;cases hmem),fun i hi=>?_⟩;obtain⟨rfl,_⟩:=hrd i hi;have hdrop:(ol::tl).drop k=o::(ol::tl).drop (k+1):=by
     obtain⟨q1,q2⟩:=List.getElem?_eq_some_iff.1 ho;rw[←q2];exact List.drop_eq_getElem_cons q1
    rw[hdrop]at hw;simp only[wpListIn]at hw;have hnx:∀a w,wpListIn (fc ro) 0 P ops (Post P fr ds G0 F0 M0 w0 Q) ((ol::tl).drop (k+1)) a w→wpAnyIn (fc ro) 0 P .any ops (Post P fr ds G0 F0 M0 w0 Q) fuel (listed.setIfInBounds (l.length+k) true) a w:=fun a w h=>by
     refine ih (k+1) _ a w (by omega) (by omega) (by simpa using hsz) (fun i hi=>?_) (fun i hi1 hi2=>?_) h
     ·unfold inS;rw[Array.getD_eq_getD_getElem?,Array.getElem?_setIfInBounds];by_cases hie:l.length+k=i
      ·rw[if_pos hie,if_pos (by omega)];rfl
      ·rw[if_neg hie];have:=h1 i (by omega);unfold inS at this;rw[Array.getD_eq_getD_getElem?]at this;exact this
     ·unfold inS;rw[Array.getD_eq_getD_getElem?,Array.getElem?_setIfInBounds,if_neg (by omega)];have:=h2 i (by omega) hi2;unfold inS at this;rw[Array.getD_eq_getD_getElem?]at this;exact this
    unfold wpOpIn;rw[hops'];simp only;split at hw
    ·rename_i hx;rw[if_pos hx];exact Oper.wpIn_mono hnx hw
    ·rename_i hx;rw[if_neg hx];exact⟨hw.1,hnx _ _ hw.2⟩
 have noneReady:∀(listed:Array Bool),listed.size=l.length+1+tl.length→Region.ready .any ops listed=[]→∀i,i<l.length→inS listed i=true:=by
  intro listed hsz hr i
  induction i using Nat.strongRecOn with
  | _ i ih=>
    intro hi;cases hs:inS listed i with
    | true=>rfl
    | false=>
      have:i∈Region.ready .any ops listed:=(readyOf listed hsz i hi).2 ⟨hs,l[i],List.getElem?_eq_getElem hi,fun e he=>by
       have:=hc.back i l[i] (List.getElem?_eq_getElem hi) e he;exact ih e this (by omega)⟩
      rw[hr]at this;cases this
 intro fuel
 induction fuel with
 | zero=>
   intro listed G F a w hsz hl0 s S hfr hcl hcount;omega
 | succ fuel ih=>
   intro listed G F a w hsz hl0 s S hfr hcl hcount;refine⟨fun hr=>?_,fun i hi=>?_⟩
   ·have hall:=noneReady listed hsz hr;have:=(readyL listed hsz (hl0 _ (Nat.le_refl _) (by omega))).1 fun e he=>hall e (hlb e he);rw[hr]at this;cases this
   by_cases hil:i<l.length;rotate_left
   ·obtain rfl:i=l.length:=by have:=readyLt listed hsz hl0 i hi;omega
    have hd:=(readyL listed hsz (hl0 _ (Nat.le_refl _) (by omega))).2 hi;have hall:∀k i,i<l.length→l.length-i≤k→inS listed i=true:=by
     intro k
     induction k with
     | zero=>intro i h1 h2;omega
     | succ k ihk=>
       intro i h1 h2;rcases hanc i h1 with h|⟨m,t,hm,ht,hd'⟩
       ·exact hd i h
       ·have hml:m<l.length:=(List.getElem?_eq_some_iff.1 ht).1;exact hcl m t ht (ihk m hml (by omega)) i hd'
    have hall:∀i,i<l.length→inS listed i=true:=fun i h=>hall l.length i h (by omega);have e:foldS fr (inS listed) 0 l st=foldS fr (fun _=>true) 0 l st:=foldS_congr fun m hm=>by rw[Nat.zero_add];exact hall m hm
    rw[e]at s S;have hq:=hQ G F a w s (fun j hj=>hfr j (by omega) fun i hi _=>by omega) S;have hmain:=tailRun 0 (fuel+1) listed a w (by omega) (by omega) hsz (fun i hi=>hall i (by omega)) (fun i h1 h2=>hl0 i (by omega) h2) hq;exact hmain.2 l.length hi
   obtain⟨hSi,t,ht,hdep⟩:=(readyOf listed hsz i hil).1 hi;unfold wpOpIn;rw[hops i hil,ht];simp only[Option.map_some];have hadd:∀j,inS (listed.setIfInBounds i true) j=addS (inS listed) i j:=by
    intro j;unfold inS addS;simp only[Array.getD_eq_getD_getElem?,Array.getElem?_setIfInBounds];by_cases h:i=j
    ·subst h;simp[show i<listed.size by omega]
    ·simp[h,Ne.symm h]
   have hfold:foldS fr (inS (listed.setIfInBounds i true)) 0 l st=foldS fr (addS (inS listed) i) 0 l st:=foldS_congr fun m _=>hadd _;have hlook:∀x,look fr (foldS fr (inS (listed.setIfInBounds i true)) 0 l st) x=look fr (run1 fr t.o.dst t.r (foldS fr (inS listed) 0 l st)) x:=by
    intro x;rw[hfold];refine foldS_add ht hSi (fun m u hu hlt hSm x hx=>?_) x;cases hw:wrt u.o.dst u.r x with
    | none=>rfl
    | some v=>
      exfalso;rcases hc.edge i m t u ht hu (by omega) x (.inr (wrt_wl hx)) (wrt_wl (by rw[hw];rfl))with h|h
      ·have:=hc.back i t ht m h;omega
      ·have:=hcl m u hu hSm i h;rw[hSi]at this;cases this
   refine his i t ht _ G F a w (nx+l.length) _ _ s (by omega) (hfr _ (by omega) fun i' _ hS' he=>?_) (fun x hx=>?_) (fun G' F' a' w' s' S' hfr'=>?_)
   ·have:i=i':=by omega
    subst this;rw[hSi]at hS';cases hS'
   ·rw[look_foldS,look_foldS];refine lastW_agree l 0 _ fun m u hu hw=>?_;rw[Nat.zero_add];by_cases hmi:m=i
    ·subst hmi;rw[hSi];simp
    ·rcases hc.edge i m t u ht hu (fun h=>hmi h.symm) x (.inl hx) (wrt_wl hw)with h|h
     ·have:=hc.back i t ht m h;rw[hdep m h];simp[this]
     ·have h1:=hc.back m u hu i h;cases hSm:inS listed m with
      | false=>simp;omega
      | true=>
        have:=hcl m u hu hSm i h;rw[hSi]at this;cases this
   ·refine ih _ G' F' a' w' (by simpa using hsz) (fun k hk1 hk2=>by rw[hadd];simp[addS,hl0 k hk1 hk2];omega) (s'.ext hlook) ((S.trans (S'.mono fun _ _=>trivial)).ext (look_mem hlook)) (fun j hj hne=>?_) (fun i' t' ht' hS' e he=>?_) ?_
    ·refine hfr' j (hne i hil (by rw[hadd];simp[addS])) (hfr j hj fun i' hi' hS'=>hne i' hi' (by rw[hadd];simp[addS,hS']))
    ·rw[hadd]at hS'⊢;simp only[addS,Bool.or_eq_true,decide_eq_true_eq]at hS'⊢;rcases hS' with hS'|rfl
     ·exact .inl (hcl i' t' ht' hS' e he)
     ·rw[ht]at ht';cases ht';exact .inl (hdep e he)
    ·have:=countP_less (p:=fun i=>!inS listed i) (q:=fun j=>!inS (listed.setIfInBounds i true) j) hil (by simp[hSi]) (by simp only[hadd];simp[addS]) (fun j hj=>by
       rw[hadd]at hj;simp only[addS,Bool.not_or,Bool.and_eq_true]at hj;exact hj.1)
     omega
theorem EvC.drawT{idr:Nat}{l:List Oper}{ol:Oper}{tl:List Oper}{its:List It}(hm:P.follows .mixedOrders=true)(ht:Tr P fr ro ds (l++ol::tl).toArray st.nx l st.clr its st')(hc:confAll its 0 its=true)
  (hlb:(depsOf ol).all (fun e=>decide (e<its.length))=true)(hanc:ancOk (depsOf ol) 0 its=true)(hch:chainOk its.length tl=true)
  (hq:XR P fr ro ds (l++ol::tl).toArray (ol::tl) ⟨st'.vars,st'.tmps,st'.mem,st.nx+its.length⟩ Q):EvC P fr ro ds (.region idr (l++ol::tl).toArray true) st Q:=by
 intro G0 F0 M0 w0 G F a w S s;obtain⟨h1,h2,h3⟩:=ht.spec;obtain⟨hm',S'⟩:=simM_drew (w':={ w with drawn:=w.drawn+1 }) (s.clr.sim.mem.more (Nat.le_add_right _ its.length)) rfl ⟨rfl,rfl,rfl,fun _=>rfl,.refl⟩;have hlen:l.length=its.length:=by rw[←h1];simp
 refine wpIn_region_any hm ?_;have hnone:∀i,inS (Array.replicate (l++ol::tl).toArray.size false) i=false:=fun i=>by
  unfold inS;simp only[Array.getD_eq_getD_getElem?,Array.getElem?_replicate];split<;>rfl
 have e:foldS fr (inS (Array.replicate (l++ol::tl).toArray.size false)) 0 its st.clr=st.clr:=by
  have:∀(l':List It) (m:Nat) (st:St),foldS fr (inS (Array.replicate (l++ol::tl).toArray.size false)) m l' st=st:=by
   intro l'
   induction l' with
   | nil=>intro m st;rfl
   | cons u l' ih=>intro m st;simp only[foldS];rw[hnone];exact ih _ _
  exact this _ _ _
 refine drawAnyT (ol:=ol) (tl:=tl) (l:=its) (nx:=st.nx) (st:=st.clr) (fun i hi=>?_) (by rw[←hlen];simp) (fun k=>by rw[←hlen,List.getElem?_toArray,List.getElem?_append_right (by omega),show l.length+1+k-l.length=k+1 by omega];rfl) (chainOk_spec hch) (by simp[hlen];omega) (.of hc) (fun e he=>by
  rw[List.all_eq_true]at hlb;exact of_decide_eq_true (hlb e he)) (fun i hi=>by
  have:=ancOk_spec its 0 hanc i hi;simpa using this) h2 (fun G F a w s hfr S=>?_) _ _ G F a _ (by simp[hlen];omega) (fun _ _ _=>hnone _) ?_ ?_ (fun j hj _=>s.fresh j hj) (fun i t _ h=>by rw[hnone]at h;cases h) ?_
 ·rw[List.getElem?_toArray,List.getElem?_append_left (by omega),←h1];simp
 ·have hx:=hq G0 F0 M0 w0 G F a w (by rw[←h3]at S;exact S) ⟨⟨by rw[h3];exact s.mem,fun k=>by
    have:=s.slots k;rw[←h3]at this;exact this,s.size⟩,hfr,s.defers⟩
  exact hx
 ·rw[e];exact⟨hm',fun k=>(s.clr.sim.slots k).step S' (fun _ _=>trivial),s.clr.sim.size,s.clr.defers⟩
 ·rw[e];exact S.trans (S'.mono fun _ _=>trivial)
 ·have:(List.range its.length).countP (fun i=>!inS (Array.replicate (l++ol::tl).toArray.size false) i)≤its.length:=by
    refine Nat.le_trans List.countP_le_length (by simp)
  simp[hlen]at this⊢;omega
theorem EvC.drt{idr:Nat}{all:List Oper}{ol:Oper}{tl:List Oper}{its:List It}(hm:P.follows .mixedOrders=true)(ht:TrTo P fr ro ds all.toArray st.nx all st.clr its st' (ol::tl))(hc:confAll its 0 its=true)
  (hlb:(depsOf ol).all (fun e=>decide (e<its.length))=true)(hanc:ancOk (depsOf ol) 0 its=true)(hch:chainOk its.length tl=true)
  (hq:XR P fr ro ds all.toArray (ol::tl) ⟨st'.vars,st'.tmps,st'.mem,st.nx+its.length⟩ Q):EvC P fr ro ds (.region idr all.toArray true) st Q:=by
 obtain⟨pre,rfl,t⟩:=ht;exact .drawT hm t hc hlb hanc hch hq
end
open Go Go.Proofs.Tryz
@[go_sem] theorem ty_cellsOf_115:Program.cellsOf prog 115=1:=by kernel_rfl
@[go_sem] theorem ty_cellsOf_120:Program.cellsOf prog 120=2:=by kernel_rfl
@[go_sem] theorem ty_cellsOf_121:Program.cellsOf prog 121=1:=by kernel_rfl
@[go_sem] theorem ty_cellsOf_22:Program.cellsOf prog 22=1:=by kernel_rfl
@[go_sem] theorem ty_cellsOf_23:Program.cellsOf prog 23=1:=by kernel_rfl
@[go_sem] theorem ty_cellsOf_25:Program.cellsOf prog 25=5:=by kernel_rfl
@[go_sem] theorem ty_cellsOf_29:Program.cellsOf prog 29=1:=by kernel_rfl
@[go_sem] theorem ty_cellsOf_3:Program.cellsOf prog 3=1:=by kernel_rfl
@[go_sem] theorem ty_cellsOf_30:Program.cellsOf prog 30=1:=by kernel_rfl
@[go_sem] theorem ty_cellsOf_36:Program.cellsOf prog 36=1:=by kernel_rfl
@[go_sem] theorem ty_cellsOf_38:Program.cellsOf prog 38=1:=by kernel_rfl
@[go_sem] theorem ty_cellsOf_4:Program.cellsOf prog 4=1:=by kernel_rfl
@[go_sem] theorem ty_cellsOf_44:Program.cellsOf prog 44=3:=by kernel_rfl
@[go_sem] theorem ty_cellsOf_5:Program.cellsOf prog 5=1:=by kernel_rfl
@[go_sem] theorem ty_cellsOf_59:Program.cellsOf prog 59=2:=by kernel_rfl
@[go_sem] theorem ty_cellsOf_70:Program.cellsOf prog 70=1:=by kernel_rfl
@[go_sem] theorem ty_cellsOf_73:Program.cellsOf prog 73=2:=by kernel_rfl
@[go_sem] theorem ty_eqKinds_73:eqKinds prog 73=some [Kd.int IntKind.i64,Kd.int IntKind.i64]:=by kernel_rfl
@[go_sem] theorem ty_nilTy_36:nilTy prog 36=1:=by kernel_rfl
@[go_sem] theorem ty_nilTy_70:nilTy prog 70=1:=by kernel_rfl
@[go_sem] theorem ty_placeOf_110_0:placeOf prog 110 0=some (0,1):=by kernel_rfl
@[go_sem] theorem ty_placeOf_110_1:placeOf prog 110 1=some (1,1):=by kernel_rfl
@[go_sem] theorem ty_placeOf_120_0:placeOf prog 120 0=some (0,1):=by kernel_rfl
@[go_sem] theorem ty_placeOf_120_1:placeOf prog 120 1=some (1,1):=by kernel_rfl
@[go_sem] theorem ty_placeOf_125_0:placeOf prog 125 0=some (0,3):=by kernel_rfl
@[go_sem] theorem ty_placeOf_125_1:placeOf prog 125 1=some (3,1):=by kernel_rfl
@[go_sem] theorem ty_placeOf_125_3:placeOf prog 125 3=some (5,1):=by kernel_rfl
@[go_sem] theorem ty_placeOf_32_0:placeOf prog 32 0=some (0,1):=by kernel_rfl
@[go_sem] theorem ty_placeOf_32_1:placeOf prog 32 1=some (1,1):=by kernel_rfl
@[go_sem] theorem ty_placeOf_32_2:placeOf prog 32 2=some (2,1):=by kernel_rfl
@[go_sem] theorem ty_placeOf_40_0:placeOf prog 40 0=some (0,1):=by kernel_rfl
@[go_sem] theorem ty_placeOf_40_1:placeOf prog 40 1=some (1,1):=by kernel_rfl
@[go_sem] theorem ty_placeOf_40_2:placeOf prog 40 2=some (2,1):=by kernel_rfl
@[go_sem] theorem ty_placeOf_44_0:placeOf prog 44 0=some (0,1):=by kernel_rfl
@[go_sem] theorem ty_placeOf_44_1:placeOf prog 44 1=some (1,1):=by kernel_rfl
@[go_sem] theorem ty_placeOf_44_2:placeOf prog 44 2=some (2,1):=by kernel_rfl
@[go_sem] theorem ty_placeOf_59_0:placeOf prog 59 0=some (0,1):=by kernel_rfl
@[go_sem] theorem ty_placeOf_59_1:placeOf prog 59 1=some (1,1):=by kernel_rfl
@[go_sem] theorem ty_placeOf_66_0:placeOf prog 66 0=some (0,1):=by kernel_rfl
@[go_sem] theorem ty_placeOf_66_1:placeOf prog 66 1=some (1,1):=by kernel_rfl
@[go_sem] theorem ty_placeOf_66_2:placeOf prog 66 2=some (2,1):=by kernel_rfl
@[go_sem] theorem ty_placeOf_73_0:placeOf prog 73 0=some (0,1):=by kernel_rfl
@[go_sem] theorem ty_placeOf_73_1:placeOf prog 73 1=some (1,1):=by kernel_rfl
@[go_sem] theorem ty_tarr_120:tarr prog 120=some (2,3):=by kernel_rfl
@[go_sem] theorem ty_tbool_4:tbool prog 4=true:=by kernel_rfl
@[go_sem] theorem ty_tbuild_110:tbuild prog 110=true:=by kernel_rfl
@[go_sem] theorem ty_tbuild_120:tbuild prog 120=true:=by kernel_rfl
@[go_sem] theorem ty_tbuild_125:tbuild prog 125=true:=by kernel_rfl
@[go_sem] theorem ty_tbuild_32:tbuild prog 32=true:=by kernel_rfl
@[go_sem] theorem ty_tbuild_40:tbuild prog 40=true:=by kernel_rfl
@[go_sem] theorem ty_tbuild_44:tbuild prog 44=true:=by kernel_rfl
@[go_sem] theorem ty_tbuild_59:tbuild prog 59=true:=by kernel_rfl
@[go_sem] theorem ty_tbuild_66:tbuild prog 66=true:=by kernel_rfl
@[go_sem] theorem ty_tbuild_73:tbuild prog 73=true:=by kernel_rfl
@[go_sem] theorem ty_telem_115:telem prog 115=some 4:=by kernel_rfl
@[go_sem] theorem ty_telem_120:telem prog 120=none:=by kernel_rfl
@[go_sem] theorem ty_telem_121:telem prog 121=some 120:=by kernel_rfl
@[go_sem] theorem ty_telem_144:telem prog 144=some 115:=by kernel_rfl
@[go_sem] theorem ty_telem_22:telem prog 22=some 5:=by kernel_rfl
@[go_sem] theorem ty_telem_23:telem prog 23=some 29:=by kernel_rfl
@[go_sem] theorem ty_telem_28:telem prog 28=some 22:=by kernel_rfl
@[go_sem] theorem ty_telem_30:telem prog 30=some 70:=by kernel_rfl
@[go_sem] theorem ty_telem_34:telem prog 34=some 36:=by kernel_rfl
@[go_sem] theorem ty_telem_36:telem prog 36=some 3:=by kernel_rfl
@[go_sem] theorem ty_telem_38:telem prog 38=some 59:=by kernel_rfl
@[go_sem] theorem ty_telem_70:telem prog 70=some 73:=by kernel_rfl
@[go_sem] theorem ty_tfield_110_0:tfield prog 110 0=some (0,36):=by kernel_rfl
@[go_sem] theorem ty_tfield_110_1:tfield prog 110 1=some (1,30):=by kernel_rfl
@[go_sem] theorem ty_tfield_125_0:tfield prog 125 0=some (0,44):=by kernel_rfl
@[go_sem] theorem ty_tfield_125_1:tfield prog 125 1=some (3,121):=by kernel_rfl
@[go_sem] theorem ty_tfield_125_2:tfield prog 125 2=some (4,36):=by kernel_rfl
@[go_sem] theorem ty_tfield_125_3:tfield prog 125 3=some (5,3):=by kernel_rfl
@[go_sem] theorem ty_tfield_125_4:tfield prog 125 4=some (6,4):=by kernel_rfl
@[go_sem] theorem ty_tfield_25_0:tfield prog 25 0=some (0,5):=by kernel_rfl
@[go_sem] theorem ty_tfield_25_1:tfield prog 25 1=some (1,5):=by kernel_rfl
@[go_sem] theorem ty_tfield_25_2:tfield prog 25 2=some (2,5):=by kernel_rfl
@[go_sem] theorem ty_tfield_25_3:tfield prog 25 3=some (3,22):=by kernel_rfl
@[go_sem] theorem ty_tfield_25_4:tfield prog 25 4=some (4,23):=by kernel_rfl
@[go_sem] theorem ty_tfield_27_0:tfield prog 27 0=some (0,25):=by kernel_rfl
@[go_sem] theorem ty_tfield_32_0:tfield prog 32 0=some (0,3):=by kernel_rfl
@[go_sem] theorem ty_tfield_32_1:tfield prog 32 1=some (1,3):=by kernel_rfl
@[go_sem] theorem ty_tfield_32_2:tfield prog 32 2=some (2,30):=by kernel_rfl
@[go_sem] theorem ty_tfield_40_0:tfield prog 40 0=some (0,3):=by kernel_rfl
@[go_sem] theorem ty_tfield_40_1:tfield prog 40 1=some (1,3):=by kernel_rfl
@[go_sem] theorem ty_tfield_40_2:tfield prog 40 2=some (2,38):=by kernel_rfl
@[go_sem] theorem ty_tfield_44_0:tfield prog 44 0=some (0,3):=by kernel_rfl
@[go_sem] theorem ty_tfield_44_1:tfield prog 44 1=some (1,3):=by kernel_rfl
@[go_sem] theorem ty_tfield_44_2:tfield prog 44 2=some (2,30):=by kernel_rfl
@[go_sem] theorem ty_tfield_59_0:tfield prog 59 0=some (0,36):=by kernel_rfl
@[go_sem] theorem ty_tfield_59_1:tfield prog 59 1=some (1,36):=by kernel_rfl
@[go_sem] theorem ty_tfield_73_0:tfield prog 73 0=some (0,3):=by kernel_rfl
@[go_sem] theorem ty_tfield_73_1:tfield prog 73 1=some (1,3):=by kernel_rfl
@[go_sem] theorem ty_tinf_115:tinf prog 115=true:=by kernel_rfl
@[go_sem] theorem ty_tinf_120:tinf prog 120=true:=by kernel_rfl
@[go_sem] theorem ty_tinf_22:tinf prog 22=true:=by kernel_rfl
@[go_sem] theorem ty_tinf_29:tinf prog 29=true:=by kernel_rfl
@[go_sem] theorem ty_tinf_3:tinf prog 3=true:=by kernel_rfl
@[go_sem] theorem ty_tinf_36:tinf prog 36=true:=by kernel_rfl
@[go_sem] theorem ty_tinf_4:tinf prog 4=true:=by kernel_rfl
@[go_sem] theorem ty_tinf_5:tinf prog 5=true:=by kernel_rfl
@[go_sem] theorem ty_tinf_59:tinf prog 59=true:=by kernel_rfl
@[go_sem] theorem ty_tinf_70:tinf prog 70=true:=by kernel_rfl
@[go_sem] theorem ty_tinf_73:tinf prog 73=true:=by kernel_rfl
@[go_sem] theorem ty_tinfo_110:tinfo prog 110=some { size:=2,agg:=true,zero:=[Value.slice none 0 0,Value.slice none 0 0],bytes:=48 }:=by kernel_rfl
@[go_sem] theorem ty_tinfo_115:tinfo prog 115=some { size:=1,agg:=false,zero:=[Value.slice none 0 0],bytes:=24 }:=by kernel_rfl
@[go_sem] theorem ty_tinfo_120:tinfo prog 120=some { size:=2,agg:=true,zero:=[Value.int IntKind.i64 0,Value.int IntKind.i64 0],bytes:=16 }:=by kernel_rfl
@[go_sem] theorem ty_tinfo_121:tinfo prog 121=some { size:=1,agg:=false,zero:=[Value.slice none 0 0],bytes:=24 }:=by kernel_rfl
@[go_sem] theorem ty_tinfo_125:tinfo prog 125=some { size:=7,agg:=true,zero:=[Value.int IntKind.i64 0,Value.int IntKind.i64 0,Value.slice none 0 0,Value.slice none 0 0,Value.slice none 0 0,Value.int IntKind.i64 0,Value.bool false],bytes:=104 }:=by kernel_rfl
@[go_sem] theorem ty_tinfo_22:tinfo prog 22=some { size:=1,agg:=false,zero:=[Value.slice none 0 0],bytes:=24 }:=by kernel_rfl
@[go_sem] theorem ty_tinfo_23:tinfo prog 23=some { size:=1,agg:=false,zero:=[Value.slice none 0 0],bytes:=24 }:=by kernel_rfl
@[go_sem] theorem ty_tinfo_25:tinfo prog 25=some { size:=5,agg:=true,zero:=[Value.int IntKind.u8 0,Value.int IntKind.u8 0,Value.int IntKind.u8 0,Value.slice none 0 0,Value.slice none 0 0],bytes:=56 }:=by kernel_rfl
@[go_sem] theorem ty_tinfo_27:tinfo prog 27=some { size:=5,agg:=true,zero:=[Value.int IntKind.u8 0,Value.int IntKind.u8 0,Value.int IntKind.u8 0,Value.slice none 0 0,Value.slice none 0 0],bytes:=56 }:=by kernel_rfl
@[go_sem] theorem ty_tinfo_29:tinfo prog 29=some { size:=1,agg:=false,zero:=[Value.int IntKind.u16 0],bytes:=2 }:=by kernel_rfl
@[go_sem] theorem ty_tinfo_3:tinfo prog 3=some { size:=1,agg:=false,zero:=[Value.int IntKind.i64 0],bytes:=8 }:=by kernel_rfl
@[go_sem] theorem ty_tinfo_30:tinfo prog 30=some { size:=1,agg:=false,zero:=[Value.slice none 0 0],bytes:=24 }:=by kernel_rfl
@[go_sem] theorem ty_tinfo_32:tinfo prog 32=some { size:=3,agg:=true,zero:=[Value.int IntKind.i64 0,Value.int IntKind.i64 0,Value.slice none 0 0],bytes:=40 }:=by kernel_rfl
@[go_sem] theorem ty_tinfo_36:tinfo prog 36=some { size:=1,agg:=false,zero:=[Value.slice none 0 0],bytes:=24 }:=by kernel_rfl
@[go_sem] theorem ty_tinfo_38:tinfo prog 38=some { size:=1,agg:=false,zero:=[Value.slice none 0 0],bytes:=24 }:=by kernel_rfl
@[go_sem] theorem ty_tinfo_4:tinfo prog 4=some { size:=1,agg:=false,zero:=[Value.bool false],bytes:=1 }:=by kernel_rfl
@[go_sem] theorem ty_tinfo_40:tinfo prog 40=some { size:=3,agg:=true,zero:=[Value.int IntKind.i64 0,Value.int IntKind.i64 0,Value.slice none 0 0],bytes:=40 }:=by kernel_rfl
@[go_sem] theorem ty_tinfo_44:tinfo prog 44=some { size:=3,agg:=true,zero:=[Value.int IntKind.i64 0,Value.int IntKind.i64 0,Value.slice none 0 0],bytes:=40 }:=by kernel_rfl
@[go_sem] theorem ty_tinfo_5:tinfo prog 5=some { size:=1,agg:=false,zero:=[Value.int IntKind.u8 0],bytes:=1 }:=by kernel_rfl
@[go_sem] theorem ty_tinfo_59:tinfo prog 59=some { size:=2,agg:=true,zero:=[Value.slice none 0 0,Value.slice none 0 0],bytes:=48 }:=by kernel_rfl
@[go_sem] theorem ty_tinfo_66:tinfo prog 66=some { size:=3,agg:=true,zero:=[Value.int IntKind.i64 0,Value.int IntKind.i64 0,Value.int IntKind.i64 0],bytes:=24 }:=by kernel_rfl
@[go_sem] theorem ty_tinfo_70:tinfo prog 70=some { size:=1,agg:=false,zero:=[Value.slice none 0 0],bytes:=24 }:=by kernel_rfl
@[go_sem] theorem ty_tinfo_73:tinfo prog 73=some { size:=2,agg:=true,zero:=[Value.int IntKind.i64 0,Value.int IntKind.i64 0],bytes:=16 }:=by kernel_rfl
@[go_sem] theorem ty_tinfo_77:tinfo prog 77=some { size:=1,agg:=false,zero:=[Value.pointer none],bytes:=8 }:=by kernel_rfl
@[go_sem] theorem ty_tint_3:tint prog 3=some IntKind.i64:=by kernel_rfl
@[go_sem] theorem ty_tknown_29:tknown prog 29=true:=by kernel_rfl
@[go_sem] theorem ty_tknown_5:tknown prog 5=true:=by kernel_rfl
@[go_sem] theorem ty_tmap_80:tmap prog 80=some (3,3):=by kernel_rfl
set_option maxRecDepth 10000
attribute [go_sem] Nat.reduceLT Nat.reduceLeDiff Nat.reduceEqDiff Nat.reduceAdd Nat.reduceSub Nat.reduceMul Nat.reduceBEq Int.reduceToNat Int.reduceEq Int.reduceLT Int.reduceLE Int.reduceAdd reduceCtorEq
attribute [go_sem ↓] reduceIte
theorem mixed:prog.follows .mixedOrders=true:=by kernel_rfl
theorem none_is:PureIs prog 86 [] (.ag [.sc (.int .i64 (-1)),.sc (.int .i64 (-1))]):=by
 refine PureIs.of (nv:=1) (hid:=[]) func86 rfl (by kernel_rfl) (by simp) fun _=>?_;rw[ntmps86,results86];refine EvC.seq (EvC.rg (by simp only[go_sem];rfl) rfl ?_);refine EvC.seq (EvC.rg (by simp only[go_sem];rfl) rfl ?_);refine EvC.ret ⟨.inl rfl,_,(by simp only[go_sem];rfl),rfl,rfl⟩
def I(n:Int):AV:=.sc (.int .i64 n)
def B(b:Bool):AV:=.sc (.bool b)
def intC(x:Int):List AV:=[.sc (.int .i64 x)]
@[go_sem] theorem norefs_ints(l:List Int):(l.map intC).all AV.norefs=true:=by simp[List.all_eq_true,intC,AV.norefs,AV.noref]
def fitsR(n o to out:Int):Bool:=decide (to=-1)&&decide (out=-1)||(decide (0≤to)&&decide (to<n)&&decide (0≤out)&&decide (out<o))
theorem fits_is(i o:Int)(nl:Bool)(rows:List (List AV))(c:Cp)(to out:Int):
  PureIs prog 57 [.ag [.sc (.int .i64 i),.sc (.int .i64 o),.sl nl rows c],.ag [.sc (.int .i64 to),.sc (.int .i64 out)]] (.sc (.bool (fitsR rows.length o to out))):=by
 refine PureIs.of1 5 [] func57 ntmps57 results57 fun _=>?_;refine EvC.seq (EvC.rg (by simp only[go_sem];rfl) rfl ?_);apply EvC.seq;apply EvC.drw mixed
 case ht=>
  apply Tr.run
  ·simp only[go_sem]<;>rfl
  ·rfl
  apply Tr.cons
  ·exact .call rfl rfl (by simp only[go_sem]<;>rfl) (by simp only[go_sem]<;>rfl) (by simp only[go_sem]<;>rfl) (by simp only[go_sem]<;>rfl) (by simp only[go_sem]<;>rfl) none_is
  apply Tr.done
  ·simp only[go_sem]<;>rfl
  ·simp
 case hc=>kernel_rfl
 case hq=>
  refine EvC.rz ?_;simp only[go_sem];congr 2;unfold fitsR;by_cases h1:to=-1<;>by_cases h2:out=-1<;>by_cases h3:0≤to<;>by_cases h4:to<rows.length<;>by_cases h5:0≤out<;>simp[h1,h2,h3,h4,h5]
def edgeC(e:Int×Int):List AV:=[.sc (.int .i64 e.1),.sc (.int .i64 e.2)]
@[go_sem] theorem norefs_edges(l:List (Int×Int)):(l.map edgeC).all AV.norefs=true:=by simp[List.all_eq_true,edgeC,AV.norefs,AV.noref]
theorem check1_is(i o:Int)(nl:Bool)(rows:List (List AV))(c:Cp)(to out:Int):
  PureIs prog 56 [.ag [.sc (.int .i64 to),.sc (.int .i64 out)],.ia [.sc (.int .i64 i),.sc (.int .i64 o),.sl nl rows c]] (.sc (.bool (!fitsR rows.length o to out))):=by
 refine PureIs.of1 4 [] func56 ntmps56 results56 fun _=>?_;refine EvC.seq (EvC.rg (by simp only[go_sem]<;>rfl) rfl ?_);apply EvC.s1
 ·apply Tr.run
  ·simp only[go_sem]<;>rfl
  ·rfl
  apply Tr.cons
  ·exact .ca (fits_is _ _ _ _ _ _ _)
  apply Tr.done
  ·simp only[go_sem]<;>rfl
  ·rfl
 refine EvC.rz ?_;simp only[go_sem]
def findIdxR(p:Int×Int→Bool):List (Int×Int)→Int→Int
 | [],_=> -1
 | e::es,i=>if p e=true then i else findIdxR p es (i+1)
theorem indexFunc_is(nl:Bool)(xs:List (Int×Int))(c:Cp)(f:FuncId)(cs:List AV)(hcs:AV.norefs cs=true)(p:Int×Int→Bool)(hp:∀e∈xs,PureIs prog f (.ag (edgeC e)::cs) (.sc (.bool (p e))))(hl:xs.length<1000000):
  PureIs prog 85 [.sl nl (xs.map edgeC) c,.fn f cs] (.sc (.int .i64 (findIdxR p xs 0))):=by
 refine PureIs.of1 6 [6,7,8,9,16] func85 ntmps85 results85 fun _=>?_;refine EvC.seq (EvC.rg (by simp only[go_sem]<;>rfl) rfl ?_);refine EvC.seq ?_;refine EvC.seq (EvC.rg (by simp only[go_sem]<;>rfl) rfl ?_);refine EvC.block (EvC.loopS (σ:=Nat) (fun i=>⟨[(0,.sl nl (xs.map edgeC) c),(1,.fn f cs),(7,.sc (.int .i64 xs.length)),(8,.sc (.int .i64 i))],[],[],0⟩) (fun i=>xs.length-i) (fun i=>i≤xs.length∧findIdxR p xs 0=findIdxR p (xs.drop i) i) [0,1,7,8] 0 ?_ ?_)
 ·refine⟨[],0,rfl,(by simp only[go_sem,hcs]<;>rfl),Nat.zero_le _,by simp⟩
 ·rintro i ⟨h1,h2⟩;refine EvC.seq (EvC.rg (by simp only[go_sem]<;>rfl) rfl ?_);refine EvC.seq (EvC.cond (by simp only[go_sem]<;>rfl) (fun hc=>?_) (fun hc=>?_))
  ·refine EvC.skip ?_;have hi:i<xs.length:=by simpa using hc
   have he:xs[i]?=some xs[i]:=List.getElem?_eq_getElem hi;generalize xs[i]=e at he;have hm:e∈xs:=List.mem_of_getElem? he;have hd:xs.drop i=e::xs.drop (i+1):=by
    rw[List.drop_eq_getElem_cons hi];congr 1;rw[List.getElem?_eq_getElem hi]at he;simpa using he
   refine EvC.seq ?_;refine EvC.block (EvC.seq (EvC.rg (by simp only[go_sem]<;>rfl) rfl ?_));apply EvC.s1
   ·apply Tr.run
    ·simp only[go_sem,he,edgeC]<;>rfl
    ·simp
    apply Tr.cons
    ·exact .call rfl rfl (by simp only[go_sem]<;>rfl) (by simp only[go_sem]<;>rfl) (by simp only[go_sem]<;>rfl) (by simp only[go_sem,hcs]<;>rfl) (by simp only[go_sem]<;>rfl) (hp e hm)
    apply Tr.done
    ·simp only[go_sem]<;>rfl
    ·rfl
   refine EvC.cd (fun hc=>?_) (fun hc=>?_)
   ·refine EvC.seq (EvC.rg (by simp only[go_sem]<;>rfl) rfl ?_);refine EvC.rz ?_;simp only[go_sem];rw[h2,hd,findIdxR,if_pos hc]
   ·refine EvC.skip ?_;refine EvC.rg (by simp only[go_sem]<;>rfl) ?_ ?_
    ·exact inI64_of (by omega) (by omega)
    refine⟨[],i+1,rfl,?_,⟨by omega,?_⟩,by omega⟩
    ·simp only[go_sem,hcs]<;>rfl
    ·rw[h2,hd,findIdxR,if_neg (by simp[hc])];rfl
  ·refine EvC.exit ?_;have hi:¬i<xs.length:=by simpa using hc
   refine EvC.seq (EvC.rg (by simp only[go_sem]<;>rfl) rfl ?_);refine EvC.rz ?_;simp only[go_sem];rw[h2,List.drop_of_length_le (by omega)];rfl
theorem findIdxR_any(p:Int×Int→Bool):∀(es:List (Int×Int)) (i:Int),0≤i→decide (0≤findIdxR p es i)=es.any p
 | [],i,_=>by simp[findIdxR]
 | e::es,i,h=>by
   unfold findIdxR;split
   ·rename_i hp;simp[hp,h]
   ·rename_i hp;rw[findIdxR_any p es (i+1) (by omega)];simp[hp]
theorem containsFunc_is(nl:Bool)(xs:List (Int×Int))(c:Cp)(f:FuncId)(cs:List AV)(hcs:AV.norefs cs=true)(p:Int×Int→Bool)(hp:∀e∈xs,PureIs prog f (.ag (edgeC e)::cs) (.sc (.bool (p e))))(hl:xs.length<1000000):
  PureIs prog 55 [.sl nl (xs.map edgeC) c,.fn f cs] (.sc (.bool (xs.any p))):=by
 refine PureIs.of1 5 [] func55 ntmps55 results55 fun _=>?_;refine EvC.seq (EvC.rg (by simp only[go_sem]<;>rfl) rfl ?_);apply EvC.s1
 ·apply Tr.run
  ·simp only[go_sem]<;>rfl
  ·rfl
  apply Tr.cons
  ·exact .call rfl rfl (by simp only[go_sem]<;>rfl) (by simp only[go_sem]<;>rfl) (by simp only[go_sem]<;>rfl) (by simp only[go_sem,hcs]<;>rfl) (by simp only[go_sem]<;>rfl) (indexFunc_is _ _ _ _ _ hcs _ hp hl)
  apply Tr.done
  ·simp only[go_sem]<;>rfl
  ·rfl
 refine EvC.rz ?_;simp only[go_sem];rw[findIdxR_any _ _ _ (Int.le_refl 0)]
abbrev Row:=Bool×List (Int×Int)
def rowC(r:Row):List AV:=[.sl r.1 (r.2.map edgeC) .unk]
structure Mach where
 ins:Int
 outs:Int
 nl:Bool
 rows:List Row
def Mach.cells(m:Mach):List AV:=[.sc (.int .i64 m.ins),.sc (.int .i64 m.outs),.sl m.nl (m.rows.map rowC) .unk]
def rowOk(m:Mach)(r:Row):Bool:=decide ((r.2.length:Int)=m.ins)&&!(r.2.any fun e=>!fitsR m.rows.length m.outs e.1 e.2)
def checkM(m:Mach):Int:=
 if 16<m.ins∨16<m.outs∨64<(m.rows.length:Int)then 3
 else if m.ins<1∨m.outs<1∨(m.rows.length:Int)<1 then 1
 else if m.rows.all (rowOk m)=true then 0 else 1
theorem check_is(m:Mach)(hr:∀r∈m.rows,r.2.length<1000000):PureIs prog 21 [.ag m.cells] (.sc (.int .i64 (checkM m))):=by
 refine PureIs.of1 5 [18,32,34,35,36,37,49] func21 ntmps21 results21 fun _=>?_;refine EvC.seq (EvC.rg (by simp only[go_sem,Mach.cells]<;>rfl) rfl ?_);refine EvC.z 0 ?_;refine EvC.seq ?_;apply EvC.seq;apply EvC.trd
 ·simp only[go_sem]<;>rfl
 ·simp
 refine EvC.cd (fun hc=>?_) (fun hc=>?_)
 ·refine EvC.seq (EvC.rg (by simp only[go_sem]<;>rfl) rfl ?_);refine EvC.rz ?_;simp only[go_sem];have h:16<m.ins∨16<m.outs∨64<(m.rows.length:Int):=by
   by_cases h1:16<m.ins<;>by_cases h2:16<m.outs<;>simp_all
  rw[checkM,if_pos h]
 have hn:¬(16<m.ins∨16<m.outs∨64<(m.rows.length:Int)):=by
  by_cases h1:16<m.ins<;>by_cases h2:16<m.outs<;>simp_all
 refine EvC.skip ?_;refine EvC.seq ?_;apply EvC.seq;apply EvC.trd
 ·simp only[go_sem]<;>rfl
 ·simp
 refine EvC.cd (fun hc=>?_) (fun hc=>?_)
 ·refine EvC.seq (EvC.rg (by simp only[go_sem]<;>rfl) rfl ?_);refine EvC.rz ?_;simp only[go_sem];have h:m.ins<1∨m.outs<1∨(m.rows.length:Int)<1:=by
   by_cases h1:m.ins<1<;>by_cases h2:m.outs<1<;>simp_all
  rw[checkM,if_neg hn,if_pos h]
 have hn2:¬(m.ins<1∨m.outs<1∨(m.rows.length:Int)<1):=by
  by_cases h1:m.ins<1<;>by_cases h2:m.outs<1<;>simp_all
 refine EvC.skip ?_;have hlen:(m.rows.length:Int)≤64:=by omega
 refine EvC.seq ?_;refine EvC.a ?_;refine EvC.block (EvC.loopS (σ:=Nat) (fun i=>⟨[(1,.ia m.cells),(34,.sl m.nl (m.rows.map rowC) .unk),(35,.sc (.int .i64 m.rows.length)),(36,.sc (.int .i64 i))],[],[],0⟩) (fun i=>m.rows.length-i) (fun i=>i≤m.rows.length∧m.rows.all (rowOk m)=(m.rows.drop i).all (rowOk m)) [1,34,35,36] 0 ?_ ?_)
 ·refine⟨[],0,rfl,(by simp only[go_sem,Mach.cells]<;>rfl),Nat.zero_le _,by simp⟩
 rintro i ⟨h1,h2⟩;refine EvC.seq (EvC.rg (by simp only[go_sem]<;>rfl) rfl ?_);refine EvC.seq (EvC.cond (by simp only[go_sem]<;>rfl) (fun hc=>?_) (fun hc=>?_))
 ·refine EvC.skip ?_;have hi:i<m.rows.length:=by simpa using hc
  have he:m.rows[i]?=some m.rows[i]:=List.getElem?_eq_getElem hi;generalize m.rows[i]=r at he;have hm:r∈m.rows:=List.mem_of_getElem? he;have hd:m.rows.drop i=r::m.rows.drop (i+1):=by
   rw[List.drop_eq_getElem_cons hi];congr 1;rw[List.getElem?_eq_getElem hi]at he;simpa using he
  refine EvC.seq ?_;refine EvC.block (EvC.seq (EvC.rg (by simp only[go_sem,he,rowC]<;>rfl) (by simp) ?_));by_cases hl:(r.2.length:Int)=m.ins
  ·apply EvC.s1
   ·apply Tr.run
    ·simp only[go_sem,Mach.cells,hl]<;>rfl
    ·simp
    apply Tr.cons
    ·exact .cg (containsFunc_is r.1 r.2 .unk 56 [.ia m.cells] rfl (fun e=>!fitsR m.rows.length m.outs e.1 e.2) (fun e _=>by simpa[edgeC,Mach.cells]using check1_is m.ins m.outs m.nl (m.rows.map rowC) .unk e.1 e.2) (hr r hm))
    apply Tr.done
    ·simp only[go_sem]<;>rfl
    ·simp
   refine EvC.cond (by simp only[go_sem]<;>rfl) (fun hc2=>?_) (fun hc2=>?_)
   ·refine EvC.seq (EvC.rg (by simp only[go_sem]<;>rfl) rfl ?_);refine EvC.rz ?_;simp only[go_sem];rw[checkM,if_neg hn,if_neg hn2,h2,hd,List.all_cons];simp[rowOk,hc2]
   ·refine EvC.skip ?_;refine EvC.rg (by simp only[go_sem]<;>rfl) ?_ ?_
    ·exact inI64_of (by omega) (by omega)
    refine⟨[],i+1,rfl,(by simp only[go_sem,Mach.cells]<;>rfl),⟨by omega,?_⟩,by omega⟩;rw[h2,hd,List.all_cons];simp[rowOk,hl,hc2]
  ·apply EvC.s1
   ·apply Tr.run
    ·simp only[go_sem,Mach.cells,hl]<;>rfl
    ·simp
    apply Tr.cons
    ·exact .skipv (.sc (.bool false)) rfl rfl (by simp only[go_sem]<;>rfl) (by simp only[go_sem]<;>rfl)
    apply Tr.done
    ·simp only[go_sem]<;>rfl
    ·simp
   refine EvC.ct ?_;refine EvC.seq (EvC.rg (by simp only[go_sem]<;>rfl) rfl ?_);refine EvC.rz ?_;simp only[go_sem];rw[checkM,if_neg hn,if_neg hn2,h2,hd,List.all_cons];simp[rowOk,hl]
 ·refine EvC.exit ?_;have hi:¬i<m.rows.length:=by simpa using hc
  refine EvC.seq (EvC.rg (by simp only[go_sem]<;>rfl) rfl ?_);refine EvC.rz ?_;simp only[go_sem];rw[checkM,if_neg hn,if_neg hn2,h2,List.drop_of_length_le (by omega)];rfl
def edgeA(e:Int×Int):AV:=.ag [.sc (.int .i64 e.1),.sc (.int .i64 e.2)]
theorem next04_is(m:Mach)(s a:Int)(r:Row)(e:Int×Int)(hs:0≤s→m.rows[s.toNat]?=some r)(ha:0≤s→0≤a∧r.2[a.toNat]?=some e):PureIs prog 107 [.ag m.cells,.sc (.int .i64 s),.sc (.int .i64 a)] (edgeA (if s<0 then(-1,-1)else e)):=by
 refine PureIs.of1 7 [8] func107 ntmps107 results107 fun _=>?_;refine EvC.seq (EvC.rg (by simp only[go_sem,Mach.cells]<;>rfl) rfl ?_);refine EvC.seq (EvC.seq (EvC.rg (by simp only[go_sem]<;>rfl) rfl ?_));refine EvC.cd (fun hc=>?_) (fun hc=>?_)
 ·refine EvC.seq (EvC.rg (by simp only[go_sem]<;>rfl) rfl ?_);refine EvC.ret ⟨.inl rfl,_,(by simp only[go_sem]<;>rfl),?_,(by unfold edgeA;simp only[go_sem])⟩;simp only[go_sem];rw[if_pos (by simpa using hc)];rfl
 ·have h0:0≤s:=by simpa using hc
  refine EvC.skip ?_;refine EvC.seq (EvC.rg (by simp only[go_sem,hs h0,rowC,(ha h0).2,edgeC]<;>rfl) ?_ ?_)
  ·simp[h0,(ha h0).1]
  refine EvC.ret ⟨.inl rfl,_,(by simp only[go_sem]<;>rfl),?_,(by unfold edgeA;simp only[go_sem])⟩;simp only[go_sem];rw[if_neg (by simpa using hc)];rfl
structure Valid (m:Mach):Prop where
 ins:1≤m.ins∧m.ins≤16
 outs:1≤m.outs∧m.outs≤16
 rows:1≤m.rows.length∧m.rows.length≤64
 row:∀r∈m.rows,(r.2.length:Int)=m.ins∧∀e∈r.2,fitsR m.rows.length m.outs e.1 e.2=true
theorem Valid.of{m:Mach}(h:checkM m=0):Valid m:=by
 unfold checkM at h;split at h
 ·cases h
 ·split at h
  ·cases h
  ·split at h
   ·rename_i h1 h2 h3;rw[List.all_eq_true]at h3;refine⟨by omega,by omega,by omega,fun r hr=>?_⟩;have:=h3 r hr;simp only[rowOk,Bool.and_eq_true,decide_eq_true_eq,Bool.not_eq_true',List.any_eq_false]at this;exact⟨this.1,fun e he=>by simpa using this.2 e he⟩
   ·cases h
def stepR(m:Mach)(s a:Int):Int×Int:=if s<0 then(-1,-1)else(((m.rows[s.toNat]?).map (·.2)).getD [])[a.toNat]?.getD (-1,-1)
theorem stepR_get{m:Mach}(hv:Valid m){s a:Int}(h0:0≤s)(hs:s<m.rows.length)(ha:0≤a∧a<m.ins):
  ∃r e,m.rows[s.toNat]?=some r∧r.2[a.toNat]?=some e∧stepR m s a=e∧fitsR m.rows.length m.outs e.1 e.2=true:=by
 have h1:m.rows[s.toNat]?=some m.rows[s.toNat]:=List.getElem?_eq_getElem (by omega);obtain⟨h2,h3⟩:=hv.row _ (List.getElem_mem (show s.toNat<m.rows.length by omega));have h4:(m.rows[s.toNat]).2[a.toNat]?=some ((m.rows[s.toNat]).2[a.toNat]'(by omega)):=List.getElem?_eq_getElem _;exact⟨_,_,h1,h4,by rw[stepR,if_neg (by omega),h1];simp only[Option.map_some,Option.getD_some,h4],h3 _ (List.getElem_mem _)⟩
theorem stepR_is{m:Mach}(hv:Valid m){s a:Int}(hs:s<m.rows.length)(ha:0≤a∧a<m.ins):PureIs prog 107 [.ag m.cells,.sc (.int .i64 s),.sc (.int .i64 a)] (edgeA (stepR m s a)):=by
 by_cases h0:0≤s
 ·obtain⟨r,e,h1,h2,h3,_⟩:=stepR_get hv h0 hs ha;have:=next04_is m s a r e (fun _=>h1) (fun _=>⟨ha.1,h2⟩);rw[if_neg (by omega)]at this;rw[h3];exact this
 ·have:=next04_is m s a (false,[]) (0,0) (fun h=>absurd h h0) (fun h=>absurd h h0);rw[if_pos (by omega)]at this;rw[stepR,if_pos (by omega)];exact this
def runR(m:Mach):Int→List Int→List Int
 | _,[]=>[]
 | s,a::w=>(stepR m s a).2::runR m (stepR m s a).1 w
theorem stepR_lt{m:Mach}(hv:Valid m){s a:Int}(hs:s<m.rows.length)(ha:0≤a∧a<m.ins):(stepR m s a).1<m.rows.length:=by
 by_cases h0:0≤s
 ·obtain⟨r,e,_,_,h3,h4⟩:=stepR_get hv h0 hs ha;rw[h3];have:=hv.rows;unfold fitsR at h4;simp at h4;omega
 ·rw[stepR,if_pos (by omega)];have:=hv.rows;simp only;omega
theorem run04_is{m:Mach}(hv:Valid m)(s:Int)(hs:s<m.rows.length)(nl:Bool)(w:List Int)(c:Cp)(hw:∀a∈w,0≤a∧a<m.ins)(hl:w.length<1000000):
  PureIs prog 106 [.ag m.cells,.sc (.int .i64 s),.sl nl (w.map intC) c] (.sl (runR m s w).isEmpty ((runR m s w).map intC) .unk):=by
 refine PureIs.of1 10 [13] func106 ntmps106 results106 fun _=>?_;refine EvC.seq (EvC.rg (by simp only[go_sem,Mach.cells]<;>rfl) rfl ?_);refine EvC.z 0 ?_;refine EvC.seq (EvC.rg (by simp only[go_sem]<;>rfl) rfl ?_);refine EvC.seq ?_;refine EvC.seq (EvC.rg (by simp only[go_sem]<;>rfl) rfl ?_);refine EvC.block (EvC.loopS (σ:=Nat×Int×List Int) (fun g=>⟨[(1,.sc (.int .i64 g.2.1)),(2,.sl nl (w.map intC) c),(3,.ia m.cells),(7,.tl 0 g.2.2.length g.2.2.isEmpty),(8,.sc (.int .i64 g.1))],[],[(0,.arr 1 (g.2.2.map intC) true)],1⟩) (fun g=>w.length-g.1)
  (fun g=>g.1≤w.length∧g.2.1<m.rows.length∧runR m s w=g.2.2++runR m g.2.1 (w.drop g.1)∧g.2.2.length=g.1) [1,2,3,7,8] 1 ?_ ?_)
 ·refine⟨[(2,0)],(0,s,[]),rfl,(by simp only[go_sem,Mach.cells]<;>rfl),Nat.zero_le _,hs,by simp,rfl⟩
 rintro⟨i,t,os⟩ ⟨h1,h2,h3,h4⟩;simp only at h1 h2 h3 h4;refine EvC.seq (EvC.seq (EvC.rg (by simp only[go_sem]<;>rfl) rfl ?_));refine EvC.cd (fun hc=>?_) (fun hc=>?_)
 ·refine EvC.skip ?_;have hi:i<w.length:=by simpa using hc
  have he:w[i]?=some w[i]:=List.getElem?_eq_getElem hi;generalize w[i]=a at he;have ha:=hw a (List.mem_of_getElem? he);have hd:w.drop i=a::w.drop (i+1):=by
   rw[List.drop_eq_getElem_cons hi];congr 1;rw[List.getElem?_eq_getElem hi]at he;simpa using he
  have hstep:=stepR_is hv h2 ha;refine EvC.seq ?_;apply EvC.block;apply EvC.seq;apply EvC.drw mixed
  ·apply Tr.run
   ·simp only[go_sem,Mach.cells,he,intC]<;>rfl
   ·simp
   apply Tr.cons
   ·exact .call rfl rfl (by simp only[go_sem]<;>rfl) (by simp only[go_sem]<;>rfl) (by simp only[go_sem]<;>rfl) (by simp only[go_sem]<;>rfl) (by simp only[go_sem]<;>rfl) hstep
   apply Tr.done
   ·simp only[go_sem,edgeA]<;>rfl
   ·simp
  ·kernel_rfl
  refine EvC.seq (EvC.rg (by simp only[go_sem,List.set_cons_zero]<;>rfl) ?_ ?_)
  ·simp[room_eq];omega
  refine EvC.b ?_;refine EvC.rg (by simp only[go_sem]<;>rfl) ?_ ?_
  ·exact inI64_of (by omega) (by omega)
  refine⟨[(0,0)],(i+1,(stepR m t a).1,os++[(stepR m t a).2]),rfl,?_,⟨by omega,stepR_lt hv h2 ha,?_,by simp[h4]⟩,by simp;omega⟩
  ·simp only[go_sem,Mach.cells,intC,List.length_append]<;>rfl
  ·rw[h3,hd,runR];simp
 ·refine EvC.exit ?_;have hi:¬i<w.length:=by simpa using hc
  have hr:runR m s w=os:=by rw[h3,List.drop_of_length_le (by omega),runR,List.append_nil]
  refine EvC.frz 0 (by simp only[go_sem]<;>rfl) ?_;refine EvC.seq (EvC.rg (by simp only[go_sem]<;>rfl) rfl ?_);refine EvC.rz ?_;simp only[go_sem];rw[hr]
def rowF(r:List (Int×Int)):List AV:=rowC (false,r)
@[go_sem] theorem norefs_rowF(l:List (List (Int×Int))):(l.map rowF).all AV.norefs=true:=by simp[List.all_eq_true,rowF,rowC,AV.norefs,AV.noref]
structure LM where
 st:Int
 ins:Int
 outs:Int
 part:Bool
 nl:Bool
 es:List Int
 cap:Cp
def u16C(x:Int):List AV:=[.sc (.int .u16 x)]
def LM.cells(x:LM):List AV:=[.sc (.int .u8 x.st),.sc (.int .u8 x.ins),.sc (.int .u8 x.outs),.sc (.bool x.part),.sl x.nl (x.es.map u16C) x.cap]
structure LM.Ok (x:LM):Prop where
 st:0≤x.st
 ins:0≤x.ins
 outs:0≤x.outs
 es:∀e∈x.es,0≤e∧e<65536
def LM.n(x:LM):Nat:=(1+x.st%6).toNat
def LM.i(x:LM):Nat:=(1+x.ins%3).toNat
def LM.o(x:LM):Int:=1+x.outs%3
def LM.v(x:LM)(s i:Nat):Int:=(x.es[s*x.i+i]?).getD 0
def LM.edge(x:LM)(s i:Nat):Int×Int:=
 if x.part=true∧x.v s i%4=3 then(-1,-1)else(x.v s i/4%x.n,x.v s i/4/x.n%x.o)
def LM.row(x:LM)(s:Nat):List (Int×Int):=(List.range x.i).map (x.edge s)
def LM.mach(x:LM):Mach:=⟨x.i,x.o,false,(List.range x.n).map fun s=>(false,x.row s)⟩
def fdiff:List Int→List Int→Int
 | x::xs,y::ys=>if x<y then -1 else if y<x then 1 else fdiff xs ys
 | _,_=>0
def cmpW(a b:List Int):Int:=if a.length<b.length then -1 else if b.length<a.length then 1 else fdiff a b
theorem fdiff_zero:∀{a b:List Int},a.length=b.length→(fdiff a b=0↔a=b)
 | [],[],_=>by simp[fdiff]
 | x::xs,y::ys,h=>by
   have:=fdiff_zero (a:=xs) (b:=ys) (by simpa using h);unfold fdiff;split
   ·rename_i h1;constructor
    ·intro h;cases h
    ·intro h;cases h;omega
   ·split
    ·constructor
     ·intro h;cases h
     ·intro h;cases h;omega
    ·rw[this];have:x=y:=by omega
     simp[this]
theorem cmpW_zero{a b:List Int}:cmpW a b=0↔a=b:=by
 unfold cmpW;split
 ·rename_i h;constructor
  ·intro h;cases h
  ·rintro rfl;omega
 ·split
  ·constructor
   ·intro h;cases h
   ·rintro rfl;omega
  ·exact fdiff_zero (by omega)
theorem compare_is(na:Bool)(a:List Int)(ca:Cp)(nb:Bool)(b:List Int)(cb:Cp)(hl:a.length<1000000):PureIs prog 75 [.sl na (a.map intC) ca,.sl nb (b.map intC) cb] (.sc (.int .i64 (cmpW a b))):=by
 refine PureIs.of1 2 [4,5,10,15,19,30,39] func75 ntmps75 results75 fun _=>?_;refine EvC.a ?_;refine EvC.seq ?_;refine EvC.a ?_;refine EvC.cd (fun hc=>?_) (fun hc=>?_)
 ·have hc:a.length<b.length:=by have:(a.length:Int)<b.length:=by simpa using hc
                                omega
  refine EvC.a ?_;refine EvC.rz ?_;simp only[go_sem];rw[cmpW,if_pos hc]
 have h1:¬a.length<b.length:=by have:¬(a.length:Int)<b.length:=by simpa using hc
                                omega
 clear hc;refine EvC.skip ?_;refine EvC.seq ?_;refine EvC.a ?_;refine EvC.cd (fun hc=>?_) (fun hc=>?_)
 ·have hc:b.length<a.length:=by have:(b.length:Int)<a.length:=by simpa using hc
                                omega
  refine EvC.a ?_;refine EvC.rz ?_;simp only[go_sem];rw[cmpW,if_neg h1,if_pos hc]
 have h2:¬b.length<a.length:=by have:¬(b.length:Int)<a.length:=by simpa using hc
                                omega
 clear hc;have hw:cmpW a b=fdiff a b:=by rw[cmpW,if_neg h1,if_neg h2]
 refine EvC.skip ?_;refine EvC.seq ?_;refine EvC.a ?_;refine EvC.block ?_;refine EvC.loopS (σ:=Nat) (fun i=>⟨[(0,.sl na (a.map intC) ca),(1,.sl nb (b.map intC) cb),(5,.sc (.int .i64 i))],[],[],0⟩) (fun i=>a.length-i) (fun i=>i≤a.length∧fdiff a b=fdiff (a.drop i) (b.drop i)) [0,1,5] 0 ?_ ?_
 ·refine⟨[],0,rfl,(by simp only[go_sem]<;>rfl),Nat.zero_le _,by simp⟩
 rintro i ⟨hi,h3⟩;refine EvC.seq ?_;refine EvC.a ?_;refine EvC.cd (fun hc=>?_) (fun hc=>?_);rotate_left
 ·refine EvC.exit ?_;have hi:¬i<a.length:=by simpa using hc
  refine EvC.a ?_;refine EvC.rz ?_;simp only[go_sem];rw[hw,h3,List.drop_of_length_le (by omega)];rfl
 have hi:i<a.length:=by simpa using hc
 have hi2:i<b.length:=by omega
 have ha:a[i]?=some a[i]:=List.getElem?_eq_getElem hi;have hb:b[i]?=some b[i]:=List.getElem?_eq_getElem hi2;have hda:a.drop i=a[i]::a.drop (i+1):=List.drop_eq_getElem_cons hi;have hdb:b.drop i=b[i]::b.drop (i+1):=List.drop_eq_getElem_cons hi2;generalize a[i]=x at ha hda;generalize b[i]=y at hb hdb;refine EvC.skip ?_;refine EvC.seq ?_;refine EvC.block ?_;refine EvC.seq ?_;refine EvC.d mixed ?_ (h:=by simp only[go_sem,ha,hb,intC]<;>rfl);refine EvC.cd (fun hc=>?_) (fun hc=>?_)
 ·have hc:x<y:=by simpa using hc
  refine EvC.a ?_;refine EvC.rz ?_;simp only[go_sem];rw[hw,h3,hda,hdb,fdiff,if_pos hc]
 have hc1:¬x<y:=by simpa using hc
 refine EvC.skip ?_;refine EvC.d mixed ?_ (h:=by simp only[go_sem,ha,hb,intC]<;>rfl);refine EvC.cd (fun hc=>?_) (fun hc=>?_)
 ·have hc:y<x:=by simpa using hc
  refine EvC.a ?_;refine EvC.rz ?_;simp only[go_sem];rw[hw,h3,hda,hdb,fdiff,if_neg hc1,if_pos hc]
 have hc2:¬y<x:=by simpa using hc
 refine EvC.skip ?_;refine EvC.bi ?_;refine⟨[],i+1,rfl,(by simp only[go_sem]<;>rfl),⟨by omega,?_⟩,by omega⟩;rw[h3,hda,hdb,fdiff,if_neg hc1,if_neg hc2]
theorem same_is(na:Bool)(a:List Int)(ca:Cp)(nb:Bool)(b:List Int)(cb:Cp)(hl:a.length<1000000):PureIs prog 43 [.sl na (a.map intC) ca,.sl nb (b.map intC) cb] (.sc (.bool (decide (a=b)))):=by
 refine PureIs.of1 2 [4] func43 ntmps43 results43 fun _=>?_;refine EvC.a ?_;refine EvC.k1 ?_ (c1:=.ca (compare_is na a ca nb b cb hl));refine EvC.rz ?_;simp only[go_sem];simp[cmpW_zero]
def u8C(x:Int):List AV:=[.sc (.int .u8 x)]
def wordOf(es:List Int)(n:Int)(most:Nat):List Int:=(es.take most).map (·%n)
theorem wordOf_len(es:List Int)(n:Int)(most:Nat):(wordOf es n most).length≤most:=by simp only[wordOf,List.length_map,List.length_take];omega
theorem wordOf_in{es:List Int}{n:Int}{most:Nat}(hn:1≤n):∀a∈wordOf es n most,0≤a∧a<n:=fun a ha=>by
 obtain⟨x,_,rfl⟩:=List.mem_map.1 ha;exact⟨Int.emod_nonneg _ (by omega),Int.emod_lt_of_pos _ (by omega)⟩
theorem word60_is(nl:Bool)(es:List Int)(c:Cp)(n:Int)(most:Nat)(he:∀x∈es,0≤x∧x<256)(hn:1≤n∧n≤1000000)(hm:most<1000):
  PureIs prog 6 [.sl nl (es.map u8C) c,.sc (.int .i64 n),.sc (.int .i64 most)] (.sl (wordOf es n most).isEmpty ((wordOf es n most).map intC) .unk):=by
 refine PureIs.of1 3 [6,7,8,17] func6 ntmps6 results6 fun _=>?_;refine EvC.a ?_;refine EvC.a ?_;refine EvC.seq ?_;refine EvC.a ?_;refine EvC.block ?_;refine EvC.loopS (σ:=Nat) (fun i=>⟨[(0,.sl nl (es.map u8C) c),(1,.sc (.int .i64 n)),(2,.sc (.int .i64 most)),(7,.tl 0 (wordOf es n i).length (wordOf es n i).isEmpty),(8,.sc (.int .i64 i))],[],[(0,.arr 1 ((wordOf es n i).map intC) true)],1⟩) (fun i=>most-i) (fun i=>i≤most∧i≤es.length) [0,1,2,7,8] 1 ?_ ?_
 ·exact⟨[(1,0)],0,rfl,(by simp only[go_sem,Int.natCast_zero,wordOf,List.take_zero,List.map_nil,List.length_nil,List.isEmpty_nil]<;>rfl),Nat.zero_le _,Nat.zero_le _⟩
 rintro i ⟨hi,hi2⟩;refine EvC.seq ?_;by_cases hend:i<es.length∧i<most;rotate_left
 ·
  have hcond:decide ((i:Int)<es.length)=false∨(decide ((i:Int)<es.length)=true∧decide ((i:Int)<most)=false):=by
   by_cases h:i<es.length
   ·exact .inr ⟨decide_eq_true (by omega),decide_eq_false (by omega)⟩
   ·exact .inl (decide_eq_false (by omega))
  have htk:wordOf es n most=wordOf es n i:=by
   unfold wordOf;congr 1;rcases Nat.lt_or_ge i es.length with h|h
   ·rw[show most=i by omega]
   ·rw[List.take_of_length_le (by omega),List.take_of_length_le (by omega)]
  rw[htk];generalize wordOf es n i=L;rcases hcond with h|⟨h,h'⟩
  ·refine EvC.g ?_ (h:=by simp only[go_sem,List.length_map,h]<;>rfl);refine EvC.cf ?_;refine EvC.exit ?_;refine EvC.frz 0 (by simp only[go_sem,List.length_map]<;>rfl) ?_;refine EvC.a ?_ (by simp only[go_sem,List.length_map]<;>rfl);refine EvC.rz ?_;simp only[go_sem]
  ·refine EvC.g ?_ (h:=by simp only[go_sem,List.length_map,h,h']<;>rfl);refine EvC.cf ?_;refine EvC.exit ?_;refine EvC.frz 0 (by simp only[go_sem,List.length_map]<;>rfl) ?_;refine EvC.a ?_ (by simp only[go_sem,List.length_map]<;>rfl);refine EvC.rz ?_;simp only[go_sem]
 obtain⟨h1,h2⟩:=hend;have d1:decide ((i:Int)<es.length)=true:=decide_eq_true (by omega);have d2:decide ((i:Int)<most)=true:=decide_eq_true (by omega);refine EvC.g ?_ (h:=by simp only[go_sem,List.length_map,d1,d2]<;>rfl);refine EvC.cr ?_;refine EvC.seq ?_;refine EvC.block ?_;have hx:es[i]?=some (es[i]'h1):=List.getElem?_eq_getElem h1;have hb:=he _ (List.getElem_mem h1);have hnext:wordOf es n (i+1)=wordOf es n i++[(es[i]'h1)%n]:=by
  unfold wordOf;rw[List.take_succ_eq_append_getElem h1,List.map_append];rfl
 have hli:=wordOf_len es n i;generalize es[i]'h1=x at hx hb hnext;generalize wordOf es n i=T at hnext hli;have hin:(i:Int).toNat=i:=Int.toNat_natCast i;have hsn:T.map intC++[[.sc (.int .i64 (x%n))]]=(T++[x%n]).map intC:=by simp[intC]
 have hsl:T.length+1=(T++[x%n]).length:=by simp
 have hse:(T++[x%n]).isEmpty=false:=by simp
 have hr2:room (T.length+1) 8=true:=by simp only[room_eq,decide_eq_true_eq];omega
 rw[hsl]at hr2;rw[←hnext]at hsn hsl hse hr2;generalize hT':wordOf es n (i+1)=T' at hsn hsl hse hr2;refine EvC.b ?_ (by simp only[go_sem,hx,u8C,hin,hsn,hsl,List.length_map]<;>rfl) (by simp[hr2,hb.1,inI64_of (x:=x) (by omega) (by omega)];try omega);refine EvC.bi ?_;exact⟨[(0,0)],i+1,rfl,(by rw[hT'];simp only[go_sem,hse,Int.natCast_add,Int.natCast_one]<;>rfl),⟨by omega,by omega⟩,by omega⟩
def wbR(x:Bool×List Int):List AV:=[.sl x.1 (x.2.map u8C) .unk]
structure TR where
 w:List Int
 r:List Int
def traceC(t:TR):List AV:=[.sl t.w.isEmpty (t.w.map intC) .unk,.sl t.r.isEmpty (t.r.map intC) .unk]
structure LG where
 m:LM
 wn:Bool
 ws:List (Bool×List Int)
 wc:Cp
 at':Int
 step:Int
 by':Int
def LG.cells(g:LG):List AV:=[.sc (.int .u8 g.m.st),.sc (.int .u8 g.m.ins),.sc (.int .u8 g.m.outs),.sc (.bool g.m.part),.sl g.m.nl (g.m.es.map u16C) g.m.cap,.sl g.wn (g.ws.map wbR) g.wc,.sc (.int .u8 g.at'),.sc (.int .u8 g.step),.sc (.int .u8 g.by')]
structure LG.Ok (g:LG):Prop where
 m:g.m.Ok
 ws:∀y∈g.ws,∀e∈y.2,0≤e∧e<256
 at':0≤g.at'∧g.at'<256
 step:0≤g.step∧g.step<256
 by':0≤g.by'∧g.by'<256
def runT(m:Mach)(x:Bool×List Int):TR:=⟨wordOf x.2 m.ins 10,runR m 0 (wordOf x.2 m.ins 10)⟩
def runsTo(m:Mach)(ws:List (Bool×List Int))(k:Nat):List TR:=(ws.take k).map (runT m)
def LG.runs(g:LG):List TR:=runsTo g.m.mach g.ws 12
def cutR(r:List Int)(k n:Nat):List Int:=r.take k++List.replicate (n-k) (-1)++r.drop n
def chR(by' outs:Int)(k:Nat)(r:List Int):List Int:=
 if by'%4=2∧(r[k]?).getD 0≠ -1 then r.set k (((r[k]?).getD 0+1)%outs)
 else if by'%4=3 then cutR r k r.length else r
def LG.log(g:LG):List TR:=
 if g.runs.length=0∨g.by'%4<2 then g.runs
 else match g.runs[(g.at'%g.runs.length).toNat]? with
  | none=>g.runs
  | some t=>if t.r.length=0 then g.runs else g.runs.set (g.at'%g.runs.length).toNat ⟨t.w,chR g.by' g.m.mach.outs (g.step%t.r.length).toNat t.r⟩
def stepL:List Int→List Int→List Int→List Int→Int→Int
 | x::aw,p::ar,y::bw,q::br,k=>if x=y then(if p=q then stepL aw ar bw br (k+1)else k)else -1
 | _,_,_,_,_=> -1
def stepT(a b:TR):Int:=stepL a.w a.r b.w b.r 0
theorem stepL_drop{aw ar bw br:List Int}(ha:ar.length=aw.length)(hb:br.length=bw.length){i:Nat}(h1:i<aw.length)(h2:i<bw.length)(k:Int){x p y q:Int}(hx:aw[i]?=some x)(hp:ar[i]?=some p)(hy:bw[i]?=some y)(hq:br[i]?=some q):
  stepL (aw.drop i) (ar.drop i) (bw.drop i) (br.drop i) k=if x=y then(if p=q then stepL (aw.drop (i+1)) (ar.drop (i+1)) (bw.drop (i+1)) (br.drop (i+1)) (k+1)else k)else -1:=by
 rw[List.getElem?_eq_getElem (by omega)]at hx hp hy hq;rw[List.drop_eq_getElem_cons (l:=aw) h1,List.drop_eq_getElem_cons (l:=ar) (by omega),List.drop_eq_getElem_cons (l:=bw) h2,List.drop_eq_getElem_cons (l:=br) (by omega),stepL];cases hx;cases hp;cases hy;cases hq;rfl
theorem stepL_end{aw ar bw br:List Int}(k:Int)(h:aw=[]∨bw=[]):stepL aw ar bw br k=-1:=by
 rcases h with rfl|rfl
 ·cases ar<;>cases bw<;>cases br<;>rfl
 ·cases aw<;>cases ar<;>cases br<;>rfl
set_option maxHeartbeats 4000000 in
theorem step59_is(a b:TR)(ha:a.r.length=a.w.length)(hb:b.r.length=b.w.length)(hl:a.w.length<1000000):
  PureIs prog 100 [.ag (traceC a),.ag (traceC b)] (.sc (.int .i64 (stepT a b))):=by
 obtain⟨aw,ar⟩:=a;obtain⟨bw,br⟩:=b;simp only at ha hb hl;unfold stepT;simp only;refine PureIs.of1 2 [2,3,4,5,30,43] func100 ntmps100 results100 fun _=>?_;refine EvC.a ?_ (by simp only[go_sem,traceC]<;>rfl);refine EvC.z 0 ?_;refine EvC.z 1 ?_;refine EvC.seq ?_;refine EvC.a ?_;refine EvC.block ?_;refine EvC.loopS (σ:=Nat) (fun i=>⟨[(2,.ia (traceC ⟨aw,ar⟩)),(3,.ia (traceC ⟨bw,br⟩)),(5,.sc (.int .i64 i))],[],[],0⟩) (fun i=>aw.length-i) (fun i=>i≤aw.length∧stepL aw ar bw br 0=stepL (aw.drop i) (ar.drop i) (bw.drop i) (br.drop i) i) [2,3,5] 0 ?_ ?_
 ·refine⟨[],0,rfl,(by simp only[go_sem,traceC,Int.natCast_zero]<;>rfl),Nat.zero_le _,rfl⟩
 rintro i ⟨h1,h2⟩;have hin:(i:Int).toNat=i:=Int.toNat_natCast i;refine EvC.seq ?_;by_cases e1:i<aw.length;rotate_left
 ·have d1:decide ((i:Int)<aw.length)=false:=decide_eq_false (by omega);have hr:stepL aw ar bw br 0=-1:=by rw[h2];exact stepL_end _ (.inl (List.drop_eq_nil_of_le (by omega)))
  rw[hr];have hx:aw[i]?=none:=List.getElem?_eq_none (by omega);by_cases e2:i<bw.length
  ·have hy:bw[i]?=some (bw[i]'e2):=List.getElem?_eq_getElem e2;apply EvC.seq;apply EvC.drw mixed
   ·apply Tr.run
    ·simp only[go_sem,traceC,List.length_map,d1,List.getElem?_map,hx,hy,hin,intC]<;>rfl
    ·simp
    apply Tr.cons
    ·exact .skipv (.ia [.sc (.int .i64 0)]) rfl rfl (by simp only[go_sem]<;>rfl) (by simp only[go_sem]<;>rfl)
    apply Tr.done
    ·simp only[go_sem,traceC,List.length_map,d1,List.getElem?_map,hx,hy,hin,intC]<;>rfl
    ·simp
   ·kernel_rfl
   refine EvC.cf ?_;refine EvC.exit ?_;refine EvC.a ?_;refine EvC.rz ?_;simp only[go_sem]
  ·have hy:bw[i]?=none:=List.getElem?_eq_none (by omega);apply EvC.seq;apply EvC.drw mixed
   ·apply Tr.run
    ·simp only[go_sem,traceC,List.length_map,d1,List.getElem?_map,hx,hy,hin,intC]<;>rfl
    ·simp
    apply Tr.cons
    ·exact .skipv (.ia [.sc (.int .i64 0)]) rfl rfl (by simp only[go_sem]<;>rfl) (by simp only[go_sem]<;>rfl)
    apply Tr.run
    ·simp only[go_sem,traceC,List.length_map,d1,List.getElem?_map,hx,hy,hin,intC]<;>rfl
    ·simp
    apply Tr.cons
    ·exact .skipv (.ia [.sc (.int .i64 0)]) rfl rfl (by simp only[go_sem]<;>rfl) (by simp only[go_sem]<;>rfl)
    apply Tr.done
    ·simp only[go_sem,traceC,List.length_map,d1,List.getElem?_map,hx,hy,hin,intC]<;>rfl
    ·simp
   ·kernel_rfl
   refine EvC.cf ?_;refine EvC.exit ?_;refine EvC.a ?_;refine EvC.rz ?_;simp only[go_sem]
 have d1:decide ((i:Int)<aw.length)=true:=decide_eq_true (by omega);by_cases e2:i<bw.length;rotate_left
 ·have d2:decide ((i:Int)<bw.length)=false:=decide_eq_false (by omega);have hr:stepL aw ar bw br 0=-1:=by rw[h2];exact stepL_end _ (.inr (List.drop_eq_nil_of_le (by omega)))
  have hx:aw[i]?=some (aw[i]'e1):=List.getElem?_eq_getElem e1;rw[hr];have hy:bw[i]?=none:=List.getElem?_eq_none (by omega);apply EvC.seq;apply EvC.drw mixed
  ·apply Tr.run
   ·simp only[go_sem,traceC,List.length_map,d1,d2,List.getElem?_map,hx,hy,hin,intC]<;>rfl
   ·simp;try omega
   apply Tr.cons
   ·exact .skipv (.ia [.sc (.int .i64 0)]) rfl rfl (by simp only[go_sem]<;>rfl) (by simp only[go_sem]<;>rfl)
   apply Tr.done
   ·simp only[go_sem,traceC,List.length_map,d1,d2,List.getElem?_map,hx,hy,hin,intC]<;>rfl
   ·simp
  ·kernel_rfl
  refine EvC.cf ?_;refine EvC.exit ?_;refine EvC.a ?_;refine EvC.rz ?_;simp only[go_sem]
 have d2:decide ((i:Int)<bw.length)=true:=decide_eq_true (by omega);have hx:aw[i]?=some (aw[i]'e1):=List.getElem?_eq_getElem e1;have hp:ar[i]?=some (ar[i]'(by omega)):=List.getElem?_eq_getElem _;have hy:bw[i]?=some (bw[i]'e2):=List.getElem?_eq_getElem e2;have hq:br[i]?=some (br[i]'(by omega)):=List.getElem?_eq_getElem _;rw[stepL_drop ha hb e1 e2 i hx hp hy hq]at h2;generalize aw[i]'e1=x at hx h2;generalize ar[i]'(by omega)=p at hp h2;generalize bw[i]'e2=y at hy h2;generalize br[i]'(by omega)=q at hq h2;refine EvC.d mixed ?_ (h:=by simp only[go_sem,traceC,List.length_map,d1,d2,List.getElem?_map,hx,hy,hin,intC]<;>rfl) (hok:=by simp;try omega);refine EvC.cd (fun hc=>?_) (fun hc=>?_);rotate_left
 ·
  have hc:¬x=y:=by simpa using hc
  rw[if_neg hc]at h2;rw[h2];refine EvC.exit ?_;refine EvC.a ?_;refine EvC.rz ?_;simp only[go_sem]
 have hc:x=y:=by simpa using hc
 rw[if_pos hc]at h2;refine EvC.skip ?_;refine EvC.seq ?_;refine EvC.block ?_;refine EvC.d mixed ?_ (h:=by simp only[go_sem,traceC,List.length_map,List.getElem?_map,hp,hq,hin,intC]<;>rfl) (hok:=by simp;try omega);refine EvC.cond (by simp only[go_sem]<;>rfl) (fun hc2=>?_) (fun hc2=>?_)
 ·have hc2:¬p=q:=by simpa using hc2
  rw[if_neg hc2]at h2;rw[h2];refine EvC.a ?_;refine EvC.rz ?_;simp only[go_sem]
 have hc2:p=q:=by simpa using hc2
 rw[if_pos hc2]at h2;refine EvC.skip ?_;refine EvC.bi ?_;exact⟨[],i+1,rfl,(by simp only[go_sem,Int.natCast_add,Int.natCast_one,traceC]<;>rfl),⟨by omega,h2⟩,by omega⟩
def conAt(L:List TR)(b a:Nat):Int:=match L[a]?,L[b]? with
 | some x,some y=>stepT x y
 | _,_=> -1
def conIn(L:List TR)(b:Nat):Nat→Nat→Option Nat
 | _,0=>none
 | a,n+1=>if 0≤conAt L b a then some a else conIn L b (a+1) n
def conOut(L:List TR):Nat→Nat→Option (Nat×Nat)
 | _,0=>none
 | b,n+1=>match conIn L b 0 b with
   | some a=>some (a,b)
   | none=>conOut L (b+1) n
def conR(L:List TR):Int×Int×Int×Bool:=match conOut L 0 L.length with
 | some (a,b)=>(a,b,conAt L b a,true)
 | none=>(0,0,0,false)
def conB(L:List TR):Bool:=(conR L).2.2.2
structure TrOk (t:TR):Prop where
 len:t.r.length=t.w.length
 small:t.w.length≤1000
set_option maxHeartbeats 4000000 in
theorem contra25_is(i o:Int)(nl:Bool)(L:List TR)(c:Cp)(hL:∀t∈L,TrOk t)(hl:L.length<1000000):
  PureIs prog 92 [.ag [.sc (.int .i64 i),.sc (.int .i64 o),.sl nl (L.map traceC) c]] (.tu [.ag [.sc (.int .i64 (conR L).1),.sc (.int .i64 (conR L).2.1),.sc (.int .i64 (conR L).2.2.1)],.sc (.bool (conR L).2.2.2)]):=by
 unfold conR;refine PureIs.of1 1 [1,2,3,4,5,6,11,16,31] func92 ntmps92 results92 fun _=>?_;refine EvC.a ?_;refine EvC.z 0 ?_;refine EvC.seq ?_;refine EvC.a ?_;refine EvC.block ?_;refine EvC.loopS (σ:=Nat) (fun b=>⟨[(1,.ia [.sc (.int .i64 i),.sc (.int .i64 o),.sl nl (L.map traceC) c]),(2,.rf 0 0),(3,.sc (.bool false)),(4,.sc (.int .i64 b))],[],[(0,.cells [.sc (.int .i64 0),.sc (.int .i64 0),.sc (.int .i64 0)])],1⟩) (fun b=>L.length-b) (fun b=>b≤L.length∧conOut L 0 L.length=conOut L b (L.length-b)) [1,2,3,4] 1 ?_ ?_
 ·refine⟨[(1,0)],0,rfl,(by simp only[go_sem,Int.natCast_zero]<;>rfl),Nat.zero_le _,rfl⟩
 rintro b ⟨h1,h2⟩;have hbin:(b:Int).toNat=b:=Int.toNat_natCast b;refine EvC.seq ?_;refine EvC.a ?_ (by simp only[go_sem,List.length_map]<;>rfl);refine EvC.cd (fun hc=>?_) (fun hc=>?_);rotate_left
 ·
  have hc:¬b<L.length:=by simpa using hc
  rw[h2,show L.length-b=0 by omega,conOut];refine EvC.exit ?_;refine EvC.a ?_;refine EvC.rz ?_;simp only[go_sem]
 have hc:b<L.length:=by simpa using hc
 refine EvC.skip ?_;refine EvC.seq ?_;refine EvC.block ?_;have hy:L[b]?=some (L[b]'hc):=List.getElem?_eq_getElem hc;have hyk:=hL _ (List.getElem_mem hc);generalize L[b]'hc=y at hy hyk;refine EvC.a ?_;refine EvC.block ?_;refine EvC.loopS (σ:=Nat) (fun a=>⟨[(1,.ia [.sc (.int .i64 i),.sc (.int .i64 o),.sl nl (L.map traceC) c]),(2,.rf 0 0),(3,.sc (.bool false)),(4,.sc (.int .i64 b)),(5,.sc (.int .i64 a))],[],[(0,.cells [.sc (.int .i64 0),.sc (.int .i64 0),.sc (.int .i64 0)])],1⟩) (fun a=>b-a) (fun a=>a≤b∧conIn L b 0 b=conIn L b a (b-a)) [1,2,3,4,5] 1 ?_ ?_
 ·refine⟨[(0,0)],0,rfl,(by simp only[go_sem,Int.natCast_zero]<;>rfl),Nat.zero_le _,rfl⟩
 rintro a ⟨g1,g2⟩;have hain:(a:Int).toNat=a:=Int.toNat_natCast a;refine EvC.seq ?_;refine EvC.a ?_;refine EvC.cond (by simp only[go_sem]<;>rfl) (fun hd=>?_) (fun hd=>?_);rotate_left
 ·
  have hd:¬a<b:=by simpa using hd
  refine EvC.exit ?_;have h3:conOut L 0 L.length=conOut L (b+1) (L.length-(b+1)):=by
   rw[h2,show L.length-b=(L.length-(b+1))+1 by omega,conOut,g2,show b-a=0 by omega,conIn]
  refine EvC.bi ?_;exact⟨[(0,0)],b+1,rfl,(by simp only[go_sem,Int.natCast_add,Int.natCast_one]<;>rfl),⟨by omega,h3⟩,by omega⟩
 have hd:a<b:=by simpa using hd
 refine EvC.skip ?_;refine EvC.seq ?_;refine EvC.block ?_;have hal:a<L.length:=by omega
 have hx:L[a]?=some (L[a]'hal):=List.getElem?_eq_getElem hal;have hxk:=hL _ (List.getElem_mem hal);generalize L[a]'hal=x at hx hxk;have hS:=step59_is x y hxk.len hyk.len (by have:=hxk.small;omega);have hca:conAt L b a=stepT x y:=by rw[conAt,hx,hy]
 rw[show b-a=(b-(a+1))+1 by omega,conIn,hca]at g2;generalize stepT x y=s at hS g2 hca;refine EvC.k1D mixed ?_ (h1:=by simp only[go_sem,hx,hy,hain,hbin,traceC,List.length_map]<;>rfl) (k1:=by simp;try omega) (c1:=.ca hS);refine EvC.a ?_;refine EvC.cond (by simp only[go_sem]<;>rfl) (fun he=>?_) (fun he=>?_)
 ·
  have he:0≤s:=by simpa using he
  rw[if_pos he]at g2;have h3:conOut L 0 L.length=some (a,b):=by
   rw[h2,show L.length-b=(L.length-(b+1))+1 by omega,conOut,g2]
  rw[h3];simp only;rw[hca];refine EvC.a ?_;refine EvC.rz ?_;simp only[go_sem]
 have he:¬0≤s:=by simpa using he
 rw[if_neg he]at g2;refine EvC.skip ?_;refine EvC.bi ?_;exact⟨[(0,0)],a+1,rfl,(by simp only[go_sem,Int.natCast_add,Int.natCast_one]<;>rfl),⟨by omega,g2⟩,by omega⟩
def hasW(t:TR)(w:List Int):Prop:=w.length≤t.w.length∧t.w.take w.length=w
instance (t:TR) (w:List Int):Decidable (hasW t w):=by unfold hasW;infer_instance
def lastL:List TR→List Int→Option Int
 | [],_=>none
 | t::L,w=>if hasW t w then some ((t.r[w.length-1]?).getD 0)else lastL L w
def lastN(L:List TR)(w:List Int):Int:=(lastL L w).getD 0
theorem lastL_drop{L:List TR}{i:Nat}(h:i<L.length){t:TR}(ht:L[i]?=some t)(w:List Int):lastL (L.drop i) w=if hasW t w then some ((t.r[w.length-1]?).getD 0)else lastL (L.drop (i+1)) w:=by
 rw[List.getElem?_eq_getElem h]at ht;cases ht;rw[List.drop_eq_getElem_cons h,lastL]
set_option maxHeartbeats 4000000 in
theorem last62_is(i o:Int)(nl:Bool)(L:List TR)(c:Cp)(nw:Bool)(w:List Int)(cw:Cp)(hL:∀t∈L,TrOk t)(hl:L.length<1000000)(hw:w≠[])(hwl:w.length<1000000):
  PureIs prog 102 [.ag [.sc (.int .i64 i),.sc (.int .i64 o),.sl nl (L.map traceC) c],.sl nw (w.map intC) cw] (.tu [.sc (.int .i64 (lastN L w)),.sc (.bool (lastL L w).isSome)]):=by
 have hw0:w.length≠0:=fun h=>hw (List.length_eq_zero_iff.1 h);unfold lastN;refine PureIs.of1 2 [2,4,5,6,11,36] func102 ntmps102 results102 fun _=>?_;refine EvC.a ?_;refine EvC.z 0 ?_;refine EvC.seq ?_;refine EvC.a ?_;refine EvC.block ?_;refine EvC.loopS (σ:=Nat) (fun k=>⟨[(1,.sl nw (w.map intC) cw),(2,.ia [.sc (.int .i64 i),.sc (.int .i64 o),.sl nl (L.map traceC) c]),(6,.sc (.int .i64 k))],[],[],0⟩) (fun k=>L.length-k) (fun k=>k≤L.length∧lastL L w=lastL (L.drop k) w) [1,2,6] 0 ?_ ?_
 ·refine⟨[],0,rfl,(by simp only[go_sem,Int.natCast_zero]<;>rfl),Nat.zero_le _,rfl⟩
 rintro k ⟨h1,h2⟩;have hkin:(k:Int).toNat=k:=Int.toNat_natCast k;refine EvC.seq ?_;refine EvC.a ?_ (by simp only[go_sem,List.length_map]<;>rfl);refine EvC.cd (fun hc=>?_) (fun hc=>?_);rotate_left
 ·
  have hc:¬k<L.length:=by simpa using hc
  rw[h2,List.drop_eq_nil_of_le (by omega),lastL,show(none:Option Int).isSome=false from rfl,show(none:Option Int).getD 0=0 from rfl];refine EvC.exit ?_;refine EvC.a ?_;refine EvC.rz ?_;simp only[go_sem]
 have hc:k<L.length:=by simpa using hc
 refine EvC.skip ?_;refine EvC.seq ?_;refine EvC.block ?_;have hx:L[k]?=some (L[k]'hc):=List.getElem?_eq_getElem hc;have hxk:=hL _ (List.getElem_mem hc);generalize L[k]'hc=x at hx hxk;rw[lastL_drop hc hx w]at h2;obtain⟨xw,xr⟩:=x;have hl1:=hxk.len;have hl2:=hxk.small;simp only at hl1 hl2 h2;by_cases e1:w.length≤xw.length;rotate_left
 ·
  have d1:decide ((w.length:Int)≤xw.length)=false:=decide_eq_false (by omega);rw[if_neg (fun h=>e1 h.1)]at h2;apply EvC.s1
  ·apply Tr.run
   ·simp only[go_sem,hx,traceC,hkin,d1,List.length_map]<;>rfl
   ·simp[hc];try omega
   apply Tr.cons
   ·exact .skipv ((.sc (.bool false))) rfl rfl (by simp only[go_sem]<;>rfl) (by simp only[go_sem]<;>rfl)
   apply Tr.done
   ·simp only[go_sem,hx,traceC,hkin,d1,List.length_map]<;>rfl
   ·simp
  refine EvC.cs ?_;refine EvC.bi ?_;exact⟨[],k+1,rfl,(by simp only[go_sem,Int.natCast_add,Int.natCast_one]<;>rfl),⟨by omega,h2⟩,by omega⟩
 have d1:decide ((w.length:Int)≤xw.length)=true:=decide_eq_true (by omega);have hS:=same_is xw.isEmpty (xw.take w.length) .unk nw w cw (by simp;omega);have htm:List.take w.length (xw.map intC)=(xw.take w.length).map intC:=(List.map_take ..).symm;refine EvC.k1 ?_ (h1:=by simp only[go_sem,hx,traceC,hkin,d1,List.length_map,htm]<;>rfl) (k1:=by simp[hc,intC];try omega) (c1:=.cg hS) (h2:=by simp only[go_sem,hx,traceC,hkin,d1,List.length_map]<;>rfl);refine EvC.cond (by simp only[go_sem]<;>rfl) (fun he=>?_) (fun he=>?_)
 ·have he:xw.take w.length=w:=by simpa using he
  rw[if_pos ⟨e1,he⟩]at h2;have hxr:xr[w.length-1]?=some (xr[w.length-1]'(by omega)):=List.getElem?_eq_getElem _;have hin2:((w.length:Int)-1).toNat=w.length-1:=by omega
  rw[h2,hxr];generalize xr[w.length-1]'(by omega)=v at hxr;rw[show(some v).getD 0=v from rfl,show(some v).isSome=true from rfl,show(some v).getD 0=v from rfl];refine EvC.a ?_ (by simp only[go_sem,hx,traceC,hkin,hin2,List.length_map,List.getElem?_map,hxr,intC]<;>rfl) (by simp[hc];exact⟨inI64_of (by omega) (by omega),by omega⟩);refine EvC.rz ?_;simp only[go_sem]
 have he:¬xw.take w.length=w:=by simpa using he
 rw[if_neg (fun h=>he h.2)]at h2;refine EvC.skip ?_;refine EvC.bi ?_;exact⟨[],k+1,rfl,(by simp only[go_sem,Int.natCast_add,Int.natCast_one]<;>rfl),⟨by omega,h2⟩,by omega⟩
def nwC(w:List Int):List AV:=[.sl false (w.map intC) .unk]
@[go_sem] theorem norefs_nwC(l:List (List Int)):(l.map nwC).all AV.norefs=true:=by simp[List.all_eq_true,nwC,AV.norefs,AV.noref]
def addL:List (List Int)→List Int→Bool→List (List Int)
 | [],w,done=>if done then []else [w]
 | x::l,w,done=>(if cmpW w x<0∧done=false then [w]else [])++x::addL l w (done||decide (cmpW w x≤0))
theorem addL_drop{l:List (List Int)}{i:Nat}(h:i<l.length){x:List Int}(hx:l[i]?=some x)(w:List Int)(done:Bool):
  addL (l.drop i) w done=(if cmpW w x<0∧done=false then [w]else [])++x::addL (l.drop (i+1)) w (done||decide (cmpW w x≤0)):=by
 rw[List.getElem?_eq_getElem h]at hx;cases hx;rw[List.drop_eq_getElem_cons h,addL]
theorem addL_len(w:List Int):∀(l:List (List Int)) (d:Bool),(addL l w d).length≤l.length+(if d then 0 else 1)
 | [],d=>by cases d<;>simp[addL]
 | x::l,d=>by
   have h1:=addL_len w l true;have h2:=addL_len w l false;cases d
   ·rw[addL];by_cases hc:cmpW w x<0
    ·rw[if_pos ⟨hc,rfl⟩,show decide (cmpW w x≤0)=true from decide_eq_true (by omega)];simp at h1⊢;omega
    ·rw[if_neg (fun h=>hc h.1)];by_cases he:cmpW w x≤0
     ·rw[decide_eq_true he];simp at h1⊢;omega
     ·rw[decide_eq_false he];simp at h2⊢;omega
   ·rw[addL];simp at h1⊢;omega
set_option maxHeartbeats 4000000 in
theorem find63_is(nl:Bool)(l:List (List Int))(c:Cp)(nw:Bool)(w:List Int)(cw:Cp)(hl:l.length<1000000)(hs:∀x∈l,x.length<1000000):
  PureIs prog 103 [.sl nl (l.map nwC) c,.sl nw (w.map intC) cw] (.sc (.int .i64 (if l.idxOf w<l.length then(l.idxOf w:Int)else -1))):=by
 refine PureIs.of1 2 [4,5,9,17] func103 ntmps103 results103 fun _=>?_;refine EvC.a ?_;refine EvC.seq ?_;refine EvC.a ?_;refine EvC.block ?_;refine EvC.loopS (σ:=Nat) (fun k=>⟨[(0,.sl nl (l.map nwC) c),(1,.sl nw (w.map intC) cw),(5,.sc (.int .i64 k))],[],[],0⟩) (fun k=>l.length-k) (fun k=>k≤l.length∧∀j,j<k→l[j]?≠some w) [0,1,5] 0 ?_ ?_
 ·refine⟨[],0,rfl,(by simp only[go_sem,Int.natCast_zero]<;>rfl),Nat.zero_le _,fun j h=>absurd h (Nat.not_lt_zero _)⟩
 rintro k ⟨h1,h2⟩;have hkin:(k:Int).toNat=k:=Int.toNat_natCast k;have hge:k≤l.idxOf w:=by
  refine Nat.le_of_not_lt fun h=>?_;have hlt:l.idxOf w<l.length:=by omega
  refine h2 _ h ?_;rw[List.getElem?_eq_getElem hlt,List.getElem_idxOf hlt]
 refine EvC.seq ?_;refine EvC.a ?_ (by simp only[go_sem,List.length_map]<;>rfl);refine EvC.cd (fun hc=>?_) (fun hc=>?_);rotate_left
 ·
  have hc:¬k<l.length:=by simpa using hc
  rw[show(if l.idxOf w<l.length then(l.idxOf w:Int)else -1)=-1 from if_neg (by omega)];refine EvC.exit ?_;refine EvC.a ?_;refine EvC.rz ?_;simp only[go_sem]
 have hc:k<l.length:=by simpa using hc
 refine EvC.skip ?_;refine EvC.seq ?_;refine EvC.block ?_;have hx:l[k]?=some (l[k]'hc):=List.getElem?_eq_getElem hc;have hxs:=hs _ (List.getElem_mem hc);have hid:w=l[k]'hc→l.idxOf w=k:=fun h=>by
  refine Nat.le_antisymm (Nat.le_of_not_lt fun hlt=>?_) hge;have:=List.not_of_lt_findIdx (p:=(·==w)) (xs:=l) (i:=k) hlt;rw[←h]at this;simp at this
 generalize l[k]'hc=x at hx hxs hid;have hS:=same_is false x .unk nw w cw hxs;refine EvC.k1 ?_ (h1:=by simp only[go_sem,hx,nwC,hkin,List.length_map]<;>rfl) (k1:=by simp;try omega) (c1:=.ca hS);refine EvC.cond (by simp only[go_sem]<;>rfl) (fun he=>?_) (fun he=>?_)
 ·have he:x=w:=by simpa using he
  rw[hid he.symm,if_pos hc];refine EvC.a ?_;refine EvC.rz ?_;simp only[go_sem]
 have he:¬x=w:=by simpa using he
 refine EvC.skip ?_;refine EvC.bi ?_
 exact⟨[],k+1,rfl,(by simp only[go_sem,Int.natCast_add,Int.natCast_one]<;>rfl),⟨by omega,fun j hj=>by
  rcases Nat.lt_or_ge j k with h|h
  ·exact h2 j h
  ·obtain rfl:j=k:=by omega
   rw[hx];simpa using he⟩,by omega⟩
set_option maxHeartbeats 4000000 in
theorem add76_is(nl:Bool)(l:List (List Int))(c:Cp)(w:List Int)(hl:l.length<1000000)(hs:∀x∈l,x.length<1000000)(hw:w≠[])(hwl:w.length<1000000):
  PureIs prog 108 [.sl nl (l.map nwC) c,.sl false (w.map intC) .unk] (.sl false ((addL l w false).map nwC) .unk):=by
 refine PureIs.of1 2 [4,5,6,7,8,12,26,44] func108 ntmps108 results108 fun _=>?_;refine EvC.a ?_;refine EvC.a ?_;refine EvC.a ?_;refine EvC.seq ?_;refine EvC.a ?_;refine EvC.block ?_;have hnw:nwC w=[.sl false (w.map intC) .unk]:=rfl;refine EvC.loopS (σ:=Nat×List (List Int)×Bool) (fun g=>⟨[(0,.sl nl (l.map nwC) c),(1,.sl false (w.map intC) .unk),(5,.tl 0 g.2.1.length g.2.1.isEmpty),(6,.sc (.bool g.2.2)),(7,.sc (.int .i64 g.1))],[],[(0,.arr 1 (g.2.1.map nwC) true)],1⟩) (fun g=>l.length-g.1) (fun g=>g.1≤l.length∧g.2.1.length≤2*g.1∧g.2.1++addL (l.drop g.1) w g.2.2=addL l w false) [0,1,5,6,7] 1 ?_ ?_
 ·exact⟨[(1,0)],(0,[],false),rfl,(by simp only[go_sem,Int.natCast_zero,List.map_nil,List.length_nil,List.isEmpty_nil]<;>rfl),Nat.zero_le _,Nat.zero_le _,rfl⟩
 rintro⟨k,out,d⟩ ⟨h1,h2,h3⟩;simp only at h1 h2 h3⊢;have hkin:(k:Int).toNat=k:=Int.toNat_natCast k;refine EvC.seq ?_;refine EvC.a ?_ (by simp only[go_sem,List.length_map]<;>rfl);refine EvC.cd (fun hc=>?_) (fun hc=>?_);rotate_left
 ·
  have hc:¬k<l.length:=by simpa using hc
  rw[List.drop_eq_nil_of_le (by omega),addL]at h3;refine EvC.exit ?_;refine EvC.seq ?_;refine EvC.a ?_;cases d with
  | true=>
    rw[if_pos rfl,List.append_nil]at h3;subst h3;refine EvC.cs ?_;have hne:(addL l w false).isEmpty=false:=by
     cases l with
     | nil=>rfl
     | cons a b=>rw[addL];split<;>rfl
    generalize addL l w false=R at hne h2;refine EvC.frz 0 (by simp only[go_sem,List.length_map]<;>rfl) ?_;rw[hne];refine EvC.a ?_ (by simp only[go_sem,List.length_map]<;>rfl);refine EvC.rz ?_;simp only[go_sem]
  | false=>
    rw[if_neg (by simp)]at h3;refine EvC.ct ?_;have hsn:out.map nwC++[[.sl false (w.map intC) .unk]]=(out++[w]).map nwC:=by rw[List.map_append,List.map_cons,List.map_nil,hnw]
    have hsl:out.length+1=(out++[w]).length:=by simp
    have hr2:room (out.length+1) 24=true:=by simp only[room_eq,decide_eq_true_eq];omega
    rw[hsl]at hr2;rw[h3]at hsn hsl hr2;generalize addL l w false=R at hsn hsl hr2;refine EvC.b ?_ (by simp only[go_sem,hsn,hsl,List.length_map]<;>rfl) (by simp[hr2]);refine EvC.frz 0 (by simp only[go_sem,List.length_map]<;>rfl) ?_;refine EvC.a ?_ (by simp only[go_sem,List.length_map]<;>rfl);refine EvC.rz ?_;simp only[go_sem]
 have hc:k<l.length:=by simpa using hc
 refine EvC.skip ?_;refine EvC.seq ?_;refine EvC.block ?_;have hx:l[k]?=some (l[k]'hc):=List.getElem?_eq_getElem hc;have hxs:=hs _ (List.getElem_mem hc);rw[addL_drop hc hx w d]at h3;generalize l[k]'hc=x at hx hxs h3;have hC:=compare_is false w .unk false x .unk hwl;generalize cmpW w x=cw at hC h3;refine EvC.k1 ?_ (h1:=by simp only[go_sem,hx,nwC,hkin,List.length_map]<;>rfl) (k1:=by simp;try omega) (c1:=.ca hC);refine EvC.mergeS (α:=List (List Int)) (fun o2=>⟨[(0,.sl nl (l.map nwC) c),(1,.sl false (w.map intC) .unk),(5,.tl 0 o2.length o2.isEmpty),(6,.sc (.bool d)),(7,.sc (.int .i64 k)),(8,.sc (.int .i64 cw))],[],[(0,.arr 1 (o2.map nwC) true)],1⟩)
  (fun o2=>o2=out++if cw<0∧d=false then [w]else []) [0,1,5,6,7,8] 1 ?_ ?_
 ·refine EvC.g ?_;have hcf:(if decide (cw<0)=true then !d else false)=decide (cw<0∧d=false):=by
   by_cases h:cw<0
   ·rw[decide_eq_true h,if_pos rfl];cases d<;>simp[h]
   ·rw[decide_eq_false h];simp[h]
  by_cases he:cw<0∧d=false
  ·refine EvC.ct ?_ (by simp only[go_sem,hcf,decide_eq_true he]<;>rfl);rw[if_pos he];have hsn:out.map nwC++[[.sl false (w.map intC) .unk]]=(out++[w]).map nwC:=by rw[List.map_append,List.map_cons,List.map_nil,hnw]
   have hsl:out.length+1=(out++[w]).length:=by simp
   have hse:(out++[w]).isEmpty=false:=by simp
   have hr2:room (out.length+1) 24=true:=by simp only[room_eq,decide_eq_true_eq];omega
   rw[hsl]at hr2;generalize out++[w]=o2 at hsn hsl hse hr2;refine EvC.b ?_ (by simp only[go_sem,hsn,hsl,List.length_map]<;>rfl) (by simp[hr2]);exact⟨rfl,[(0,0)],o2,rfl,(by simp only[go_sem,hse]<;>rfl),rfl⟩
  refine EvC.cs ?_ (by simp only[go_sem,hcf,decide_eq_false he]<;>rfl);rw[if_neg he,List.append_nil];exact⟨rfl,[(0,0)],out,rfl,(by simp only[go_sem]<;>rfl),rfl⟩
 rintro o2 ho2;have hol:o2.length≤out.length+1:=by rw[ho2];split<;>simp
 rw[←List.append_assoc,←ho2,show o2++x::addL (l.drop (k+1)) w (d||decide (cw≤0))=(o2++[x])++addL (l.drop (k+1)) w (d||decide (cw≤0)) by simp]at h3;have hd:(if d=true then true else decide (cw≤0))=(d||decide (cw≤0)):=by cases d<;>rfl
 generalize hdd:(d||decide (cw≤0))=d2 at h3 hd;have hsn:o2.map nwC++[[.sl false (x.map intC) .unk]]=(o2++[x]).map nwC:=by rw[List.map_append];rfl
 have hsl:o2.length+1=(o2++[x]).length:=by simp
 have hse:(o2++[x]).isEmpty=false:=by simp
 have hr2:room (o2.length+1) 24=true:=by simp only[room_eq,decide_eq_true_eq];omega
 rw[hsl]at hr2;generalize hO3:o2++[x]=o3 at hsn hsl hse hr2 h3;refine EvC.g ?_ (h:=by simp only[go_sem,hd]<;>rfl) (hok:=by cases d<;>simp);refine EvC.b ?_ (by simp only[go_sem,hx,nwC,hkin,hsn,hsl,List.length_map]<;>rfl) (by simp[hr2,hc]);refine EvC.bi ?_;exact⟨[(0,0)],(k+1,o3,d2),rfl,(by simp only[go_sem,hse,Int.natCast_add,Int.natCast_one]<;>rfl),⟨by simp only;omega,by simp only;omega,h3⟩,by simp only;omega⟩
def preN(r:List Int):Nat:=(r.takeWhile fun x=>decide (x≠ -1)).length
def addP(t:TR)(l:List (List Int))(k:Nat):List (List Int):=(List.range k).foldl (fun l j=>addL l (t.w.take (j+1)) false) l
def nodesTo(L:List TR)(i:Nat):List (List Int):=(L.take i).foldl (fun l t=>addP t l (preN t.r)) [[]]
def nodesL(L:List TR):List (List Int):=L.foldl (fun l t=>addP t l (preN t.r)) [[]]
theorem addP_succ(t:TR)(l:List (List Int))(k:Nat):addP t l (k+1)=addL (addP t l k) (t.w.take (k+1)) false:=by
 rw[addP,List.range_succ,List.foldl_append];rfl
theorem nodesTo_succ{L:List TR}{i:Nat}(h:i<L.length){t:TR}(ht:L[i]?=some t):nodesTo L (i+1)=addP t (nodesTo L i) (preN t.r):=by
 rw[List.getElem?_eq_getElem h]at ht;cases ht;rw[nodesTo,List.take_succ_eq_append_getElem h,List.foldl_append];rfl
theorem addL_mem{w:List Int}:∀{l:List (List Int)} {d:Bool} {x:List Int},x∈addL l w d→x∈l∨x=w
 | [],d,x,h=>by
   cases d
   ·simp[addL]at h;exact .inr h
   ·simp[addL]at h
 | y::l,d,x,h=>by
   rw[addL]at h;rcases List.mem_append.1 h with h|h
   ·split at h
    ·simp at h;exact .inr h
    ·cases h
   ·rcases List.mem_cons.1 h with rfl|h
    ·exact .inl List.mem_cons_self
    ·rcases addL_mem h with h|h
     ·exact .inl (List.mem_cons_of_mem _ h)
     ·exact .inr h
theorem addP_mem{t:TR}{l:List (List Int)}:∀{k:Nat} {x:List Int},x∈addP t l k→x∈l∨∃j,j<k∧x=t.w.take (j+1)
 | 0,x,h=>.inl h
 | k+1,x,h=>by
   rw[addP_succ]at h;rcases addL_mem h with h|h
   ·rcases addP_mem h with h|⟨j,h1,h2⟩
    ·exact .inl h
    ·exact .inr ⟨j,by omega,h2⟩
   ·exact .inr ⟨k,by omega,h⟩
theorem addP_len(t:TR)(l:List (List Int)):∀k,(addP t l k).length≤l.length+k
 | 0=>Nat.le_refl _
 | k+1=>by
   rw[addP_succ];have h1:=addL_len (t.w.take (k+1)) (addP t l k) false;have h2:=addP_len t l k;simp at h1;omega
theorem preN_le(r:List Int):preN r≤r.length:=(List.takeWhile_prefix _).length_le
theorem nodesTo_len{L:List TR}(hL:∀t∈L,TrOk t):∀i,i≤L.length→(nodesTo L i).length≤1+1000*i
 | 0,_=>by simp[nodesTo]
 | i+1,h=>by
   have hi:i<L.length:=h;rw[nodesTo_succ hi (List.getElem?_eq_getElem hi)];have h1:=addP_len L[i] (nodesTo L i) (preN L[i].r);have h2:=nodesTo_len hL i (by omega);have h3:=preN_le L[i].r;have h4:=(hL _ (List.getElem_mem hi)).len;have h5:=(hL _ (List.getElem_mem hi)).small;omega
theorem nodesTo_mem{L:List TR}(hL:∀t∈L,TrOk t):∀i,i≤L.length→∀x∈nodesTo L i,x.length≤1000
 | 0,_,x,h=>by simp[nodesTo]at h;subst h;exact Nat.zero_le _
 | i+1,h,x,hx=>by
   have hi:i<L.length:=h;rw[nodesTo_succ hi (List.getElem?_eq_getElem hi)]at hx;rcases addP_mem hx with h1|⟨j,_,rfl⟩
   ·exact nodesTo_mem hL i (by omega) x h1
   ·have:=(hL _ (List.getElem_mem hi)).small;rw[List.length_take];omega
theorem preN_get{r:List Int}{k:Nat}(h:k<r.length)(hk:k≤preN r):k<preN r↔r[k]≠ -1:=by
 unfold preN at hk⊢
 induction r generalizing k with
 | nil=>simp at h
 | cons y r ih=>
   rw[List.takeWhile_cons]at hk⊢;by_cases hy:y=-1
   ·subst hy;simp at hk;subst hk;simp
   ·have e:decide (y≠ -1)=true:=decide_eq_true hy;rw[e]at hk⊢;simp only[if_true,List.length_cons]at hk⊢;cases k with
    | zero=>simp[hy]
    | succ k=>
      simp only[List.length_cons]at h;have:=ih (k:=k) (by omega) (by omega);simp only[List.getElem_cons_succ];omega
set_option maxHeartbeats 4000000 in
theorem nodes61_is(i o:Int)(nl:Bool)(L:List TR)(c:Cp)(hL:∀t∈L,TrOk t)(hl:L.length≤900):
  PureIs prog 101 [.ag [.sc (.int .i64 i),.sc (.int .i64 o),.sl nl (L.map traceC) c]] (.sl false ((nodesL L).map nwC) .unk):=by
 have hfin:nodesTo L L.length=nodesL L:=by rw[nodesTo,List.take_length];rfl
 refine PureIs.of1 1 [1,2,3,4,5,6,13,33] func101 ntmps101 results101 fun _=>?_;refine EvC.a ?_;refine EvC.z 0 ?_;refine EvC.a ?_;refine EvC.unkV 3 (by simp only[go_sem]<;>rfl) ?_;refine EvC.seq ?_;refine EvC.a ?_;refine EvC.block ?_;refine EvC.loopS (σ:=Nat) (fun k=>⟨[(1,.ia [.sc (.int .i64 i),.sc (.int .i64 o),.sl nl (L.map traceC) c]),(3,.sl false ((nodesTo L k).map nwC) .unk),(4,.sc (.int .i64 k))],[],[],0⟩) (fun k=>L.length-k) (fun k=>k≤L.length) [1,3,4] 0 ?_ ?_
 ·exact⟨[],0,rfl,(by simp only[go_sem,Int.natCast_zero,nodesTo,List.take_zero,List.foldl_nil,List.map_nil,List.map_cons,nwC]<;>rfl),Nat.zero_le _⟩
 rintro k h1;have hkin:(k:Int).toNat=k:=Int.toNat_natCast k;refine EvC.seq ?_;refine EvC.a ?_ (by simp only[go_sem,List.length_map]<;>rfl);refine EvC.cd (fun hc=>?_) (fun hc=>?_);rotate_left
 ·
  have hc:¬k<L.length:=by simpa using hc
  rw[←hfin,show L.length=k by omega];refine EvC.exit ?_;refine EvC.a ?_;refine EvC.rz ?_;simp only[go_sem]
 have hc:k<L.length:=by simpa using hc
 refine EvC.skip ?_;refine EvC.seq ?_;refine EvC.block ?_;have hx:L[k]?=some (L[k]'hc):=List.getElem?_eq_getElem hc;have hxk:=hL _ (List.getElem_mem hc);have hnext:=nodesTo_succ hc hx;generalize L[k]'hc=t at hx hxk hnext;have hnl:=nodesTo_len hL k (by omega);have hnm:=nodesTo_mem hL k (by omega);generalize nodesTo L k=N at hnext hnl hnm;have ht1:=hxk.len;have ht2:=hxk.small;have hP:=preN_le t.r;refine EvC.a ?_ (by simp only[go_sem,hx,hkin,List.length_map,traceC]<;>rfl) (by simp[hc]);refine EvC.z 10 ?_;refine EvC.a ?_;refine EvC.block ?_;refine EvC.loopS (σ:=Nat) (fun j=>⟨[(1,.ia [.sc (.int .i64 i),.sc (.int .i64 o),.sl nl (L.map traceC) c]),(3,.sl false ((addP t N j).map nwC) .unk),(4,.sc (.int .i64 k)),(5,.ia (traceC t)),(6,.sc (.int .i64 j))],[],[],0⟩) (fun j=>preN t.r-j) (fun j=>j≤preN t.r) [1,3,4,5,6] 0 ?_ ?_
 ·exact⟨[],0,rfl,(by simp only[go_sem,Int.natCast_zero,addP,List.range_zero,List.foldl_nil,traceC]<;>rfl),Nat.zero_le _⟩
 rintro j g1;have hjin:(j:Int).toNat=j:=Int.toNat_natCast j;have hj1:((j:Int)+1).toNat=j+1:=by omega
 have hal:=addP_len t N j;have ham:∀x∈addP t N j,x.length<1000000:=fun x hx=>by
  rcases addP_mem hx with h|⟨z,_,rfl⟩
  ·have:=hnm x h;omega
  ·rw[List.length_take];omega
 have hsucc:=addP_succ t N j;have hend:j=preN t.r→nodesTo L (k+1)=addP t N j:=fun h=>by rw[hnext,h]
 obtain⟨tw,tr⟩:=t;simp only at ht1 ht2 hP g1 hend hsucc⊢;generalize hA:addP ⟨tw,tr⟩ N j=A at hal ham hsucc hend;refine EvC.seq ?_;by_cases e1:j<tw.length;rotate_left
 ·have d1:decide ((j:Int)<tw.length)=false:=decide_eq_false (by omega);have hr:tr[j]?=none:=List.getElem?_eq_none (by omega);have hjp:j=preN tr:=by omega
  apply EvC.s1
  ·apply Tr.run
   ·simp only[go_sem,traceC,List.length_map,List.getElem?_map,hr,hjin,d1]<;>rfl
   ·simp
   apply Tr.cons
   ·exact .skipv (.ia [.sc (.int .i64 0)]) rfl rfl (by simp only[go_sem]<;>rfl) (by simp only[go_sem]<;>rfl)
   apply Tr.done
   ·simp only[go_sem,traceC,List.length_map,List.getElem?_map,hr,hjin,d1]<;>rfl
   ·simp
  refine EvC.cf ?_;refine EvC.exit ?_;refine EvC.bi ?_;exact⟨[],k+1,rfl,(by rw[hend hjp];simp only[go_sem,Int.natCast_add,Int.natCast_one]<;>rfl),by omega,by omega⟩
 have d1:decide ((j:Int)<tw.length)=true:=decide_eq_true (by omega);have hr:tr[j]?=some (tr[j]'(by omega)):=List.getElem?_eq_getElem _;have hpg:=preN_get (r:=tr) (k:=j) (by omega) g1;generalize tr[j]'(by omega)=v at hr hpg;refine EvC.g ?_ (h:=by simp only[go_sem,traceC,List.length_map,List.getElem?_map,hr,hjin,d1,intC]<;>rfl) (hok:=by simp;try omega);refine EvC.cond (by simp only[go_sem]<;>rfl) (fun he=>?_) (fun he=>?_);rotate_left
 ·have he:v=-1:=by simpa using he
  have hjp:j=preN tr:=by
   have:¬j<preN tr:=fun h=>hpg.1 h he;omega
  refine EvC.exit ?_;refine EvC.bi ?_;exact⟨[],k+1,rfl,(by rw[hend hjp];simp only[go_sem,Int.natCast_add,Int.natCast_one]<;>rfl),by omega,by omega⟩
 have he:¬v=-1:=by simpa using he
 have hjp:=hpg.2 he;refine EvC.skip ?_;refine EvC.seq ?_;refine EvC.block ?_;have hwe:tw.isEmpty=false:=by
  cases tw with
  | nil=>simp at e1
  | cons _ _=>rfl
 have htk:tw.take (j+1)≠[]:=fun h=>by
  have h2:(tw.take (j+1)).length=0:=by rw[h];rfl
  rw[List.length_take]at h2;omega
 have hadd:=add76_is false A .unk (tw.take (j+1)) (by omega) ham htk (by rw[List.length_take];omega);have htm:List.take (j+1) (tw.map intC)=(tw.take (j+1)).map intC:=(List.map_take ..).symm;refine EvC.k1L ?_ (h1:=by simp only[go_sem,traceC,List.length_map,hj1,htm,hwe]<;>rfl) (k1:=by simp[intC];exact⟨inI64_of (by omega) (by omega),by omega⟩) (c1:=.ca hadd) (h2:=by simp only[go_sem,traceC]<;>rfl);refine EvC.bi ?_;exact⟨[],j+1,rfl,(by rw[hsucc];simp only[go_sem,Int.natCast_add,Int.natCast_one,traceC,hwe]<;>rfl),by omega,by omega⟩
def posOf(N:List (List Int))(w:List Int):Int:=if N.idxOf w<N.length then(N.idxOf w:Int)else -1
def edgeOf(L:List TR)(N:List (List Int))(w:List Int):Int×Int:=match lastL L w with
 | none=>(-1,-1)
 | some n=>if n=-1 then(-1,-2)else(posOf N w,n)
def treeRow(L:List TR)(N:List (List Int))(x:List Int)(k:Nat):List (Int×Int):=(List.range k).map fun(j:Nat)=>edgeOf L N (x++[(j:Int)])
def treeM(ins:Nat)(outs:Int)(L:List TR):Mach:=⟨ins,outs,false,(nodesL L).map fun x=>(false,treeRow L (nodesL L) x ins)⟩
theorem nodesL_ne(L:List TR)(hL:∀t∈L,TrOk t):1≤(nodesL L).length:=by
 have key:∀(t:TR) (l:List (List Int)),1≤l.length→∀k,1≤(addP t l k).length:=fun t l h k=>by
  induction k with
  | zero=>exact h
  | succ k ih=>
    rw[addP_succ];cases h2:addP t l k with
    | nil=>simp[addL]
    | cons y r=>rw[addL];simp only[List.length_append,List.length_cons];omega
 have:∀(L:List TR) (l:List (List Int)),1≤l.length→1≤(L.foldl (fun l t=>addP t l (preN t.r)) l).length:=fun L=>by
  induction L with
  | nil=>intro l h;exact h
  | cons t L ih=>intro l h;exact ih _ (key t l h _)
 exact this L [[]] (by simp)
set_option maxHeartbeats 8000000 in
theorem tree27_is(i:Nat)(o:Int)(nl:Bool)(L:List TR)(c:Cp)(hL:∀t∈L,TrOk t)(hl:L.length≤900)(hi:1≤i∧i≤1000):
  PureIs prog 93 [.ag [.sc (.int .i64 i),.sc (.int .i64 o),.sl nl (L.map traceC) c]] (.ag (treeM i o L).cells):=by
 have hN:=nodes61_is i o nl L c hL hl;have hne:=nodesL_ne L hL;have hfin:nodesTo L L.length=nodesL L:=by rw[nodesTo,List.take_length];rfl
 have hnl:=nodesTo_len hL L.length (Nat.le_refl _);have hnm:=nodesTo_mem hL L.length (Nat.le_refl _);rw[hfin]at hnl hnm;unfold treeM;generalize nodesL L=N at hN hne hnl hnm;refine PureIs.of1 1 [1,2,3,4,5,6,7,8,9,10,21,27,53,60] func93 ntmps93 results93 fun _=>?_;refine EvC.a ?_;refine EvC.z 0 ?_;refine EvC.k1 ?_ (c1:=.ca hN);refine EvC.a ?_;refine EvC.seq ?_;refine EvC.a ?_;refine EvC.ownC 10 2 1 (by simp only[go_sem]<;>rfl) ?_;refine EvC.block ?_;refine EvC.loopS (σ:=Nat) (fun s=>⟨[(1,.ia [.sc (.int .i64 i),.sc (.int .i64 o),.sl nl (L.map traceC) c]),(2,.rf 0 0),(3,.sl false (N.map nwC) .unk),(4,.rf 1 0),(5,.sc (.int .i64 s))],[],
   [(0,.cells [.sc (.int .i64 0),.sc (.int .i64 0),.sl true [] .zer]),(1,.cells [.sc (.int .i64 i),.sc (.int .i64 o),.tl 2 s (s==0)]),(2,.arr 1 (((N.take s).map fun x=>treeRow L N x i).map rowF) true)],3⟩) (fun s=>N.length-s)
  (fun s=>s≤N.length) [1,2,3,4,5] 3 ?_ ?_
 ·exact⟨[(1,0),(10,1),(13,2)],0,rfl,(by simp only[go_sem,Int.natCast_zero,List.take_zero,List.map_nil]<;>rfl),Nat.zero_le _⟩
 intro s hs;have hsin:(s:Int).toNat=s:=Int.toNat_natCast s;have hls:(((N.take s).map fun x=>treeRow L N x i).map rowF).length=s:=by simp;omega
 refine EvC.seq ?_;refine EvC.a ?_ (by simp only[go_sem,List.length_map]<;>rfl);refine EvC.cd (fun hc=>?_) (fun hc=>?_);rotate_left
 ·
  have hc:¬s<N.length:=by simpa using hc
  obtain rfl:s=N.length:=by omega
  refine EvC.exit ?_;refine EvC.frzD 2 (by simp only[go_sem,hls]<;>rfl) ?_;refine EvC.a ?_;refine EvC.rz ?_;simp only[go_sem];have hne:(N.length==0)=false:=beq_eq_false_iff_ne.2 (by omega);simp only[Mach.cells,hne,List.take_length];rw[List.map_map,List.map_map];rfl
 have hc:s<N.length:=by simpa using hc
 refine EvC.skip ?_;refine EvC.seq ?_;refine EvC.block ?_;have hx:N[s]?=some (N[s]'hc):=List.getElem?_eq_getElem hc;have hxl:=hnm _ (List.getElem_mem hc);have hnext:(N.take (s+1)).map (fun x=>treeRow L N x i)=(N.take s).map (fun x=>treeRow L N x i)++[treeRow L N (N[s]'hc) i]:=by
  rw[List.take_succ_eq_append_getElem hc,List.map_append];rfl
 generalize N[s]'hc=x at hx hxl hnext;refine EvC.a ?_;refine EvC.seq ?_;refine EvC.a ?_;refine EvC.thaw 7 (by simp only[go_sem]<;>rfl) ?_;refine EvC.block ?_;refine EvC.loopS (σ:=Nat) (fun k=>⟨[(1,.ia [.sc (.int .i64 i),.sc (.int .i64 o),.sl nl (L.map traceC) c]),(2,.rf 0 0),(3,.sl false (N.map nwC) .unk),(4,.rf 1 0),(5,.sc (.int .i64 s)),(6,.tl 3 k (k==0)),(7,.sc (.int .i64 k))],[],
   [(0,.cells [.sc (.int .i64 0),.sc (.int .i64 0),.sl true [] .zer]),(1,.cells [.sc (.int .i64 i),.sc (.int .i64 o),.tl 2 s (s==0)]),(2,.arr 1 (((N.take s).map fun x=>treeRow L N x i).map rowF) true),(3,.arr 2 ((treeRow L N x k).map edgeC) false)],4⟩) (fun k=>i-k)
  (fun k=>k≤i) [1,2,3,4,5,6,7] 4 ?_ ?_
 ·exact⟨[(0,0),(1,1),(2,2),(7,3)],0,rfl,(by simp only[go_sem,Int.natCast_zero,treeRow,List.range_zero,List.map_nil]<;>rfl),Nat.zero_le _⟩
 intro k hk;have hkin:(k:Int).toNat=k:=Int.toNat_natCast k;have hlk:((treeRow L N x k).map edgeC).length=k:=by simp[treeRow]
 refine EvC.seq ?_;refine EvC.a ?_;refine EvC.cond (by simp only[go_sem]<;>rfl) (fun hd=>?_) (fun hd=>?_);rotate_left
 ·
  have hd:¬k<i:=by simpa using hd
  obtain rfl:k=i:=by omega
  have hne2:(k==0)=false:=beq_eq_false_iff_ne.2 (by omega);refine EvC.exit ?_;refine EvC.frz 3 (by simp only[go_sem,hlk,hne2]<;>rfl) ?_;have htl:(N.take s).length=s:=by rw[List.length_take];omega
  have hr2:room (s+1) 24=true:=by simp only[room_eq,decide_eq_true_eq];omega
  refine EvC.b ?_ (hok:=by simp[hls,AV.norefs,AV.noref];rw[Nat.min_eq_left (by omega)];exact⟨rfl,hr2⟩);refine EvC.bi ?_;refine⟨[(0,0),(1,1),(2,2)],s+1,rfl,?_,by omega,by omega⟩;have hs0:(s+1==0)=false:=rfl;rw[hnext];simp only[go_sem,hs0,htl,Int.natCast_add,Int.natCast_one,List.map_append,List.map_cons,List.map_nil,rowF,rowC]<;>rfl
 have hd:k<i:=by simpa using hd
 refine EvC.skip ?_;refine EvC.seq ?_;refine EvC.block ?_;obtain⟨w,hw⟩:∃w,w=x++[(k:Int)]:=⟨_,rfl⟩;have hwne:w≠[]:=by rw[hw];simp
 have hwl:w.length≤1001:=by rw[hw];simp;omega
 have hrow:treeRow L N x (k+1)=treeRow L N x k++[edgeOf L N w]:=by rw[treeRow,List.range_succ,List.map_append,hw];rfl
 refine EvC.mergeC (α:=Unit) (fun _=>⟨[(1,.ia [.sc (.int .i64 i),.sc (.int .i64 o),.sl nl (L.map traceC) c]),(2,.rf 0 0),(3,.sl false (N.map nwC) .unk),(4,.rf 1 0),(5,.sc (.int .i64 s)),(6,.tl 3 k (k==0)),(7,.sc (.int .i64 k)),(8,.sl false (w.map intC) .unk)],[],
  [(0,.cells [.sc (.int .i64 0),.sc (.int .i64 0),.sl true [] .zer]),(1,.cells [.sc (.int .i64 i),.sc (.int .i64 o),.tl 2 s (s==0)]),(2,.arr 1 (((N.take s).map fun x=>treeRow L N x i).map rowF) true),(3,.arr 2 ((treeRow L N x k).map edgeC) false)],4⟩) (fun _=>True) ?_ ?_
 ·by_cases hx0:x=[]
  ·subst hx0;have hx1:(N.map nwC)[s]?=some [.sl false [] .unk]:=by rw[List.getElem?_map,hx];rfl
   apply EvC.tr
   ·apply Tr.cons
    ·exact .op rfl (by simp only[go_sem]<;>rfl) (by simp only[go_sem]<;>rfl) rfl (by simp only[go_sem]<;>rfl)
    apply Tr.cons
    ·exact .op rfl (by simp only[go_sem]<;>rfl) (by simp only[go_sem]<;>rfl) rfl (by simp only[go_sem]<;>rfl)
    apply Tr.cons
    ·exact .op rfl (by simp only[go_sem]<;>rfl) (by simp only[go_sem]<;>rfl) rfl (by simp only[go_sem]<;>rfl)
    apply Tr.cons
    ·exact .op rfl (by simp only[go_sem]<;>rfl) (by simp only[go_sem,List.length_map,hsin,hx1]<;>rfl) rfl (by simp only[go_sem]<;>rfl)
    apply Tr.cons
    ·exact .op rfl (by simp only[go_sem]<;>rfl) (by simp only[go_sem]<;>rfl) rfl (by simp only[go_sem]<;>rfl)
    apply Tr.cons
    ·exact .appZ rfl rfl (by simp only[go_sem]<;>rfl) (by simp only[go_sem]<;>rfl) (by simp only[go_sem]<;>rfl) (by simp only[go_sem]<;>rfl) (by simp only[go_sem]<;>rfl) (by simp only[go_sem]<;>rfl) (by simp only[go_sem]<;>rfl)
    apply Tr.done
    ·simp only[go_sem]<;>rfl
    ·simp[room_eq]
   have hw1:w.map intC=[[.sc (.int .i64 k)]]:=by rw[hw];rfl
   rw[hw1];exact⟨rfl,(),trivial,fun c Q h=>EvC.frz 16 (by simp only[go_sem]<;>rfl) (EvC.gcE [1,2,3,4,5,6,7,8] [(0,0),(1,1),(2,2),(3,3)] 4 rfl (by simp only[go_sem]<;>rfl) h)⟩
  have hy:∀a∈x,(intC a).length=1:=fun _ _=>rfl;have hxn:(N.map nwC)[s]?=some [.sl false (x.map intC) .unk]:=by rw[List.getElem?_map,hx];rfl
  have hr3:room x.length 8=true:=by simp only[room_eq,decide_eq_true_eq];omega
  have hr4:room (x.length+1) 8=true:=by simp only[room_eq,decide_eq_true_eq];omega
  have hsn:x.map intC++[[.sc (.int .i64 k)]]=w.map intC:=by rw[hw];simp[intC]
  have hsl:x.length+1=w.length:=by rw[hw];simp
  have hx0l:x.length≠0:=fun h=>hx0 (List.length_eq_zero_iff.1 h);refine EvC.b ?_ (by simp only[go_sem,hxn,hsin,hsn,hsl,List.length_map]<;>rfl) (by simp;exact⟨⟨hr3,hy⟩,by rw[←hsl];exact hr4⟩);exact⟨rfl,(),trivial,fun c Q h=>EvC.frz 13 (by simp only[go_sem,List.length_map]<;>rfl) (EvC.gcE [1,2,3,4,5,6,7,8] [(0,0),(1,1),(2,2),(3,3)] 4 rfl (by simp only[go_sem]<;>rfl) h)⟩
 intro _ _;have hLa:=last62_is i o nl L c false w .unk hL (by omega) hwne (by omega);have hed:edgeOf L N w=match lastL L w with|none=>(-1,-1)|some n=>if n=-1 then(-1,-2)else(posOf N w,n):=rfl
 rw[lastN]at hLa;have hlk1:((treeRow L N x (k+1)).map edgeC).length=k+1:=by simp[treeRow]
 have hr5:room (k+1) 16=true:=by simp only[room_eq,decide_eq_true_eq];omega
 have hset:∀e:Int×Int,edgeOf L N w=e→(treeRow L N x k).map edgeC++[[.sc (.int .i64 e.1),.sc (.int .i64 e.2)]]=(treeRow L N x (k+1)).map edgeC:=fun e he=>by rw[hrow,he,List.map_append];rfl
 have hT2l:(treeRow L N x (k+1)).length=k+1:=by simp[treeRow]
 have hk0:(k+1==0)=false:=rfl;generalize hT2:treeRow L N x (k+1)=T2 at hrow hlk1 hset hT2l;cases hll:lastL L w with
 | none=>
   rw[hll]at hLa hed;rw[show(none:Option Int).getD 0=0 from rfl,show(none:Option Int).isSome=false from rfl]at hLa;have hs:=hset _ hed;simp only at hs;refine EvC.k1 ?_ (c1:=.ca hLa);refine EvC.block ?_;refine EvC.a ?_;refine EvC.ct ?_;refine EvC.b ?_ (by simp only[go_sem,hlk,hs]<;>rfl) (by simp[hlk,hr5]);refine EvC.bi ?_;exact⟨[(0,0),(1,1),(2,2),(3,3)],k+1,rfl,(by rw[hT2];simp only[go_sem,hT2l,hk0,Int.natCast_add,Int.natCast_one]<;>rfl),by omega,by omega⟩
 | some n=>
   rw[hll]at hLa hed;rw[show(some n).getD 0=n from rfl,show(some n).isSome=true from rfl]at hLa;simp only at hed;by_cases hn:n=-1
   ·rw[if_pos hn]at hed;have hs:=hset _ hed;simp only at hs;refine EvC.k1 ?_ (c1:=.ca hLa);refine EvC.block ?_;refine EvC.a ?_;refine EvC.cf ?_;refine EvC.a ?_;refine EvC.ct ?_ (by simp only[go_sem,decide_eq_true hn]<;>rfl);refine EvC.b ?_ (by simp only[go_sem,hlk,hs]<;>rfl) (by simp[hlk,hr5]);refine EvC.bi ?_;exact⟨[(0,0),(1,1),(2,2),(3,3)],k+1,rfl,(by rw[hT2];simp only[go_sem,hT2l,hk0,Int.natCast_add,Int.natCast_one]<;>rfl),by omega,by omega⟩
   rw[if_neg hn]at hed;have hs:=hset _ hed;simp only at hs;have hF:=find63_is false N .unk false w .unk (by omega) (fun y hy=>by have:=hnm y hy;omega);rw[show(if N.idxOf w<N.length then(N.idxOf w:Int)else -1)=posOf N w from rfl]at hF;generalize posOf N w=pw at hF hs;refine EvC.k1 ?_ (c1:=.ca hLa);refine EvC.block ?_;refine EvC.a ?_;refine EvC.cf ?_;refine EvC.a ?_;refine EvC.cf ?_ (by simp only[go_sem,decide_eq_false hn]<;>rfl);refine EvC.k1L ?_ (h1:=by simp only[go_sem,hlk]<;>rfl) (c1:=.ca hF) (h2:=by simp only[go_sem,hlk,hs]<;>rfl) (k2:=by simp[hlk,hr5]);refine EvC.bi ?_;exact⟨[(0,0),(1,1),(2,2),(3,3)],k+1,rfl,(by rw[hT2];simp only[go_sem,hT2l,hk0,Int.natCast_add,Int.natCast_one]<;>rfl),by omega,by omega⟩
def okLog(L:List TR):List TR:=if conB L then []else L
set_option maxHeartbeats 4000000 in
theorem tree11_is(i:Nat)(o:Int)(nl:Bool)(L:List TR)(c:Cp)(hL:∀t∈L,TrOk t)(hl:L.length≤900)(hi:1≤i∧i≤1000):
  PureIs prog 73 [.ag [.sc (.int .i64 i),.sc (.int .i64 o),.sl nl (L.map traceC) c]] (.ag (treeM i o (okLog L)).cells):=by
 have hC:=contra25_is i o nl L c hL (by omega);unfold okLog conB;have hT:=tree27_is i o nl L c hL hl hi;have hE:=tree27_is i o true [] .zer (fun _ h=>by cases h) (by simp) hi;generalize conR L=r at hC;obtain⟨r1,r2,r3,rb⟩:=r;simp only at hC⊢;refine PureIs.of1 1 [1,2,3,4,10] func73 ntmps73 results73 fun _=>?_;refine EvC.a ?_;refine EvC.seq ?_;refine EvC.k1 ?_ (c1:=.ca hC);refine EvC.a ?_;cases rb with
 | true=>
   rw[show(if true=true then([]:List TR)else L)=[]from if_pos rfl];generalize treeM i o []=T at hE;rw[Mach.cells]at hE⊢;refine EvC.ct ?_;refine EvC.b ?_;refine EvC.k1 ?_ (c1:=.ca hE);refine EvC.rz ?_;simp only[go_sem]
 | false=>
   rw[show(if false=true then([]:List TR)else L)=L from if_neg (by simp)];generalize treeM i o L=T at hT;rw[Mach.cells]at hT⊢;refine EvC.cs ?_;refine EvC.k1 ?_ (c1:=.ca hT);refine EvC.rz ?_;simp only[go_sem]
def knownE(e:Int×Int):Bool:=!decide (e.1=-1)||decide (e.2=-2)
def clashE(a b:Int×Int):Bool:=knownE a&&knownE b&&((decide (a.1=-1) !=decide (b.1=-1))||(!decide (a.1=-1)&&!decide (a.2=b.2)))
def bothE(a b:Int×Int):Bool:=!decide (a.1=-1)&&!decide (b.1=-1)
theorem knownE_if(e:Int×Int):(if(!decide (e.1=-1))=true then true else decide (e.2=-2))=knownE e:=by
 unfold knownE;cases decide (e.1=-1)<;>rfl
theorem known55_is(t o:Int):PureIs prog 78 [.ag [.sc (.int .i64 t),.sc (.int .i64 o)]] (.sc (.bool (knownE (t,o)))):=by
 rw[←knownE_if];simp only;refine PureIs.of1 1 [1,2] func78 ntmps78 results78 fun _=>?_;refine EvC.a ?_;refine EvC.seq ?_;refine EvC.gL ?_;refine EvC.rz ?_;simp only[go_sem]
theorem clash38_is(t o u p:Int):PureIs prog 74 [.ag [.sc (.int .i64 t),.sc (.int .i64 o)],.ag [.sc (.int .i64 u),.sc (.int .i64 p)]] (.sc (.bool (clashE (t,o) (u,p)))):=by
 have hA:=known55_is t o;have hB:=known55_is u p;have hcl:clashE (t,o) (u,p)=(knownE (t,o)&&knownE (u,p)&&((decide (t=-1) !=decide (u=-1))||(!decide (t=-1)&&!decide (o=p)))):=rfl;rw[hcl];generalize knownE (t,o)=ka at hA;generalize knownE (u,p)=kb at hB;refine PureIs.of1 2 [2,3,4] func74 ntmps74 results74 fun _=>?_;refine EvC.a ?_;refine EvC.seq ?_;cases ka with
 | false=>
   apply EvC.tr
   ·apply Tr.run
    ·simp only[go_sem]<;>rfl
    ·simp
    apply Tr.cons
    ·exact .ca (hA)
    apply Tr.run
    ·simp only[go_sem]<;>rfl
    ·simp
    apply Tr.cons
    ·exact .skipv ((.sc (.bool false))) rfl rfl (by simp only[go_sem]<;>rfl) (by simp only[go_sem]<;>rfl)
    apply Tr.done
    ·simp only[go_sem]<;>rfl
    ·simp
   refine EvC.rz ?_;simp only[go_sem]
 | true=>
   cases kb with
   | false=>
     apply EvC.tr
     ·apply Tr.run
      ·simp only[go_sem]<;>rfl
      ·simp
      apply Tr.cons
      ·exact .ca (hA)
      apply Tr.run
      ·simp only[go_sem]<;>rfl
      ·simp
      apply Tr.cons
      ·exact .cg (hB)
      apply Tr.done
      ·simp only[go_sem]<;>rfl
      ·simp
     refine EvC.rz ?_;simp only[go_sem]
   | true=>
     have h:(if(!(decide (t=-1)==decide (u=-1)))=true then true else if(!decide (t=-1))=true then !decide (o=p)else false)=(true&&true&&((decide (t=-1) !=decide (u=-1))||(!decide (t=-1)&&!decide (o=p)))):=by
      cases decide (t=-1)<;>cases decide (u=-1)<;>rfl
     rw[←h];apply EvC.tr
     ·apply Tr.run
      ·simp only[go_sem]<;>rfl
      ·simp
      apply Tr.cons
      ·exact .ca (hA)
      apply Tr.run
      ·simp only[go_sem]<;>rfl
      ·simp
      apply Tr.cons
      ·exact .cg (hB)
      apply Tr.done
      ·simp only[go_sem]<;>rfl
      ·simp
     refine EvC.rz ?_;simp only[go_sem]
def rowT(outs:Int):List (Int×Int)→Int→Option Int
 | [],nx=>some nx
 | e::r,nx=>if e.1=-1∧(e.2=-1∨e.2=-2)then rowT outs r nx else if e.1=nx∧0≤e.2∧e.2<outs then rowT outs r (nx+1)else none
def rowsT(ins outs:Int):List Row→Int→Int→Option Int
 | [],_,nx=>some nx
 | r::rs,n,nx=>if(r.2.length:Int)≠ins∨nx≤n then none else match rowT outs r.2 nx with
   | none=>none
   | some nx'=>rowsT ins outs rs (n+1) nx'
def checkT(t:Mach):Int:=
 if 16<t.ins∨16<t.outs∨65537<(t.rows.length:Int)then 3
 else if t.ins<1∨t.outs<1∨(t.rows.length:Int)<1 then 1
 else match rowsT t.ins t.outs t.rows 0 1 with
  | some nx=>if nx=t.rows.length then 0 else 1
  | none=>1
theorem rowT_drop{outs:Int}{r:List (Int×Int)}{i:Nat}(h:i<r.length){e:Int×Int}(he:r[i]?=some e)(nx:Int):
  rowT outs (r.drop i) nx=if e.1=-1∧(e.2=-1∨e.2=-2)then rowT outs (r.drop (i+1)) nx else if e.1=nx∧0≤e.2∧e.2<outs then rowT outs (r.drop (i+1)) (nx+1)else none:=by
 rw[List.getElem?_eq_getElem h]at he;cases he;rw[List.drop_eq_getElem_cons h,rowT]
theorem rowsT_drop{ins outs:Int}{rs:List Row}{i:Nat}(h:i<rs.length){r:Row}(hr:rs[i]?=some r)(n nx:Int):
  rowsT ins outs (rs.drop i) n nx=if(r.2.length:Int)≠ins∨nx≤n then none else match rowT outs r.2 nx with
   | none=>none
   | some nx'=>rowsT ins outs (rs.drop (i+1)) (n+1) nx':=by
 rw[List.getElem?_eq_getElem h]at hr;cases hr;rw[List.drop_eq_getElem_cons h,rowsT]
theorem or3(a b c:Prop)[Decidable a][Decidable b][Decidable c]:(if(if decide a=true then true else decide b)=true then true else decide c)=decide (a∨b∨c):=by
 by_cases ha:a
 ·simp[ha]
 ·by_cases hb:b<;>simp[ha,hb]
theorem rowT_ge{outs:Int}:∀{r:List (Int×Int)} {nx nx':Int},rowT outs r nx=some nx'→nx≤nx'∧nx'≤nx+r.length
 | [],nx,nx',h=>by simp[rowT]at h;subst h;simp
 | e::r,nx,nx',h=>by
   rw[rowT]at h;split at h
   ·have:=rowT_ge h;simp only[List.length_cons];omega
   ·split at h
    ·have:=rowT_ge h;simp only[List.length_cons];omega
    ·cases h
set_option maxHeartbeats 4000000 in
theorem checkT_is(t:Mach)(hr:∀r∈t.rows,r.2.length<1000000):PureIs prog 67 [.ag t.cells] (.sc (.int .i64 (checkT t))):=by
 obtain⟨ins,outs,nl,rows⟩:=t;simp only at hr;unfold checkT;simp only;refine PureIs.of1 1 [1,2,3,4,5,7,21,35,37,38,39,40,53,54,55,56,57,60,74,99] func67 ntmps67 results67 fun _=>?_;refine EvC.a ?_ (by simp only[go_sem,Mach.cells]<;>rfl);refine EvC.z 0 ?_;refine EvC.seq ?_;refine EvC.g ?_ (h:=by simp only[go_sem,List.length_map]<;>rfl);by_cases c1:16<ins∨16<outs∨65537<(rows.length:Int)
 ·rw[if_pos c1];refine EvC.ct ?_ (by simp only[go_sem,or3,decide_eq_true c1]<;>rfl);refine EvC.a ?_;refine EvC.rz ?_;simp only[go_sem]
 rw[if_neg c1];refine EvC.cs ?_ (by simp only[go_sem,or3,decide_eq_false c1]<;>rfl);refine EvC.seq ?_;refine EvC.g ?_ (h:=by simp only[go_sem,List.length_map]<;>rfl);by_cases c2:ins<1∨outs<1∨(rows.length:Int)<1
 ·rw[if_pos c2];refine EvC.ct ?_ (by simp only[go_sem,or3,decide_eq_true c2]<;>rfl);refine EvC.a ?_;refine EvC.rz ?_;simp only[go_sem]
 rw[if_neg c2];refine EvC.cs ?_ (by simp only[go_sem,or3,decide_eq_false c2]<;>rfl);refine EvC.a ?_;refine EvC.seq ?_;refine EvC.a ?_;refine EvC.block ?_;refine EvC.loopS (σ:=Nat×Int) (fun g=>⟨[(1,.ia [.sc (.int .i64 ins),.sc (.int .i64 outs),.sl nl (rows.map rowC) .unk]),(3,.sc (.int .i64 g.2)),(37,.sl nl (rows.map rowC) .unk),(38,.sc (.int .i64 rows.length)),(39,.sc (.int .i64 g.1))],[],[],0⟩) (fun g=>rows.length-g.1)
  (fun g=>g.1≤rows.length∧1≤g.2∧g.2≤1+16*(g.1:Int)∧rowsT ins outs rows 0 1=rowsT ins outs (rows.drop g.1) g.1 g.2) [1,3,37,38,39] 0 ?_ ?_
 ·exact⟨[],(0,1),rfl,(by simp only[go_sem,Int.natCast_zero]<;>rfl),Nat.zero_le _,by simp,by simp,rfl⟩
 rintro⟨i,nx⟩ ⟨h1,h2,h3,h4⟩;simp only at h1 h2 h3 h4⊢;have hin:(i:Int).toNat=i:=Int.toNat_natCast i;refine EvC.a ?_;refine EvC.seq ?_;refine EvC.cd (fun hc=>?_) (fun hc=>?_);rotate_left
 ·
  have hc:¬i<rows.length:=by simpa using hc
  rw[List.drop_eq_nil_of_le (by omega),rowsT]at h4;rw[h4];simp only;refine EvC.exit ?_;refine EvC.seq ?_;refine EvC.a ?_ (by simp only[go_sem,List.length_map]<;>rfl);by_cases he:nx=rows.length
  ·rw[if_pos he];refine EvC.cs ?_ (by simp only[go_sem,decide_eq_true he]<;>rfl);refine EvC.a ?_;refine EvC.rz ?_;simp only[go_sem]
  rw[if_neg he];refine EvC.ct ?_ (by simp only[go_sem,decide_eq_false he]<;>rfl);refine EvC.a ?_;refine EvC.rz ?_;simp only[go_sem]
 have hc:i<rows.length:=by simpa using hc
 refine EvC.skip ?_;refine EvC.seq ?_;refine EvC.block ?_;have hx:rows[i]?=some (rows[i]'hc):=List.getElem?_eq_getElem hc;have hxl:=hr _ (List.getElem_mem hc);rw[rowsT_drop hc hx]at h4;generalize rows[i]'hc=x at hx hxl h4;obtain⟨xn,x⟩:=x;simp only at hxl h4;refine EvC.a ?_ (by simp only[go_sem,hx,rowC,hin,List.length_map]<;>rfl);refine EvC.seq ?_;refine EvC.g ?_ (h:=by simp only[go_sem,List.length_map]<;>rfl);have hcf:(if(!decide ((x.length:Int)=ins))=true then true else decide (nx≤i))=decide ((x.length:Int)≠ins∨nx≤i):=by
  by_cases h:(x.length:Int)=ins
  ·rw[decide_eq_true h];simp[h]
  ·rw[decide_eq_false h];simp[h]
 by_cases hd:(x.length:Int)≠ins∨nx≤i
 ·rw[if_pos hd]at h4;rw[h4];simp only;refine EvC.ct ?_ (by simp only[go_sem,hcf,decide_eq_true hd]<;>rfl);refine EvC.a ?_;refine EvC.rz ?_;simp only[go_sem]
 rw[if_neg hd]at h4;refine EvC.cs ?_ (by simp only[go_sem,hcf,decide_eq_false hd]<;>rfl);refine EvC.a ?_ (by simp only[go_sem,List.length_map]<;>rfl);refine EvC.block ?_;refine EvC.loopS (σ:=Nat×Int) (fun g=>⟨[(1,.ia [.sc (.int .i64 ins),.sc (.int .i64 outs),.sl nl (rows.map rowC) .unk]),(3,.sc (.int .i64 g.2)),(37,.sl nl (rows.map rowC) .unk),(38,.sc (.int .i64 rows.length)),(39,.sc (.int .i64 i)),(54,.sl xn (x.map edgeC) .unk),(55,.sc (.int .i64 x.length)),(56,.sc (.int .i64 g.1))],[],[],0⟩) (fun g=>x.length-g.1)
  (fun g=>g.1≤x.length∧1≤g.2∧g.2≤nx+g.1∧rowT outs x nx=rowT outs (x.drop g.1) g.2) [1,3,37,38,39,54,55,56] 0 ?_ ?_
 ·exact⟨[],(0,nx),rfl,(by simp only[go_sem,Int.natCast_zero]<;>rfl),Nat.zero_le _,h2,by simp,rfl⟩
 rintro⟨j,m⟩ ⟨g1,g2,g3,g4⟩;simp only at g1 g2 g3 g4⊢;have hjin:(j:Int).toNat=j:=Int.toNat_natCast j;refine EvC.a ?_;refine EvC.seq ?_;refine EvC.cond (by simp only[go_sem]<;>rfl) (fun he=>?_) (fun he=>?_);rotate_left
 ·
  have he:¬j<x.length:=by simpa using he
  rw[List.drop_eq_nil_of_le (by omega),rowT]at g4;rw[g4]at h4;simp only at h4;refine EvC.exit ?_;refine EvC.bi ?_;exact⟨[],(i+1,m),rfl,(by simp only[go_sem,Int.natCast_add,Int.natCast_one]<;>rfl),⟨by simp only;omega,g2,by simp only;omega,by simp only[Int.natCast_add,Int.natCast_one];exact h4⟩,by simp only;omega⟩
 have he:j<x.length:=by simpa using he
 refine EvC.skip ?_;refine EvC.seq ?_;refine EvC.block ?_;have hy:x[j]?=some (x[j]'he):=List.getElem?_eq_getElem he;rw[rowT_drop he hy]at g4;generalize x[j]'he=e at hy g4;obtain⟨et,eo⟩:=e;simp only at g4;refine EvC.a ?_ (by simp only[go_sem,hy,edgeC,hjin,List.length_map]<;>rfl);refine EvC.z 3 ?_;refine EvC.block ?_;have hq1:(if decide (et=-1)=true then(if decide (eo=-1)=true then true else decide (eo=-2))else false)=decide (et=-1∧(eo=-1∨eo=-2)):=by
  by_cases ha:et=-1
  ·by_cases hb:eo=-1<;>simp[ha,hb]
  ·simp[ha]
 have hq2:(if(if decide (et=m)=true then decide (0≤eo)else false)=true then decide (eo<outs)else false)=decide (et=m∧0≤eo∧eo<outs):=by
  by_cases ha:et=m
  ·by_cases hb:0≤eo<;>simp[ha,hb]
  ·simp[ha]
 refine EvC.g ?_;by_cases q1:et=-1∧(eo=-1∨eo=-2)
 ·rw[if_pos q1]at g4;refine EvC.cr ?_ (by simp only[go_sem,hq1,decide_eq_true q1]<;>rfl);refine EvC.bi ?_;exact⟨[],(j+1,m),rfl,(by simp only[go_sem,Int.natCast_add,Int.natCast_one]<;>rfl),⟨by simp only;omega,g2,by simp only;omega,g4⟩,by simp only;omega⟩
 rw[if_neg q1]at g4;refine EvC.cf ?_ (by simp only[go_sem,hq1,decide_eq_false q1]<;>rfl);refine EvC.g ?_;by_cases q2:et=m∧0≤eo∧eo<outs
 ·rw[if_pos q2]at g4;refine EvC.ct ?_ (by simp only[go_sem,hq2,decide_eq_true q2]<;>rfl);refine EvC.bi ?_;refine EvC.bi ?_;exact⟨[],(j+1,m+1),rfl,(by simp only[go_sem,Int.natCast_add,Int.natCast_one]<;>rfl),⟨by simp only;omega,by simp only;omega,by simp only;omega,g4⟩,by simp only;omega⟩
 rw[if_neg q2]at g4;rw[g4]at h4;simp only at h4;rw[h4];simp only;refine EvC.cf ?_ (by simp only[go_sem,hq2,decide_eq_false q2]<;>rfl);refine EvC.a ?_;refine EvC.rz ?_;simp only[go_sem]
def inT(n:Nat)(x:Int):Bool:=decide (0≤x∧x<n)
def nodesE(t:Mach)(l:List Int):Int:=if checkT t≠0 then checkT t else if l.all (inT t.rows.length)then 0 else 1
theorem all_drop{p:Int→Bool}{l:List Int}{i:Nat}(h:i<l.length){x:Int}(hx:l[i]?=some x):(l.drop i).all p=(p x&&(l.drop (i+1)).all p):=by
 rw[List.getElem?_eq_getElem h]at hx;cases hx;rw[List.drop_eq_getElem_cons h,List.all_cons]
set_option maxHeartbeats 4000000 in
theorem nodes37_is(t:Mach)(hr:∀r∈t.rows,r.2.length<1000000)(nl:Bool)(l:List Int)(c:Cp)(hl:l.length<1000000):
  PureIs prog 32 [.ag t.cells,.sl nl (l.map intC) c] (.sc (.int .i64 (nodesE t l))):=by
 have hC:=checkT_is t hr;unfold nodesE;generalize checkT t=e at hC;rw[Mach.cells]at hC⊢;obtain⟨ins,outs,tn,rows⟩:=t;simp only at hC hr⊢;refine PureIs.of1 2 [2,4,5,7,11,13,14,15,16,27] func32 ntmps32 results32 fun _=>?_;refine EvC.a ?_;refine EvC.z 0 ?_;refine EvC.seq ?_;refine EvC.k1 ?_ (c1:=.ca hC);refine EvC.a ?_;by_cases he:e=0;rotate_left
 ·rw[if_pos he];refine EvC.ct ?_ (by simp only[go_sem,decide_eq_false he]<;>rfl);refine EvC.a ?_;refine EvC.rz ?_;simp only[go_sem]
 rw[show(if e≠0 then e else if l.all (inT rows.length)then(0:Int)else 1)=(if l.all (inT rows.length)then(0:Int)else 1)from if_neg (fun h=>h he)];refine EvC.cs ?_ (by simp only[go_sem,decide_eq_true he]<;>rfl);refine EvC.seq ?_;refine EvC.a ?_ (by simp only[go_sem,List.length_map]<;>rfl);refine EvC.block ?_;refine EvC.loopS (σ:=Nat) (fun i=>⟨[(2,.ia [.sc (.int .i64 ins),.sc (.int .i64 outs),.sl tn (rows.map rowC) .unk]),(13,.sl nl (l.map intC) c),(14,.sc (.int .i64 l.length)),(15,.sc (.int .i64 i))],[],[],0⟩) (fun i=>l.length-i) (fun i=>i≤l.length∧l.all (inT rows.length)=(l.drop i).all (inT rows.length)) [2,13,14,15] 0 ?_ ?_
 ·exact⟨[],0,rfl,(by simp only[go_sem,Int.natCast_zero]<;>rfl),Nat.zero_le _,rfl⟩
 rintro i ⟨h1,h2⟩;have hin:(i:Int).toNat=i:=Int.toNat_natCast i;refine EvC.a ?_;refine EvC.seq ?_;refine EvC.cd (fun hc=>?_) (fun hc=>?_);rotate_left
 ·
  have hc:¬i<l.length:=by simpa using hc
  rw[List.drop_eq_nil_of_le (by omega)]at h2;rw[if_pos (show l.all (inT rows.length)=true by rw[h2];rfl)];refine EvC.exit ?_;refine EvC.a ?_;refine EvC.rz ?_;simp only[go_sem]
 have hc:i<l.length:=by simpa using hc
 refine EvC.skip ?_;refine EvC.seq ?_;refine EvC.block ?_;have hx:l[i]?=some (l[i]'hc):=List.getElem?_eq_getElem hc;rw[all_drop hc hx]at h2;generalize l[i]'hc=x at hx h2;refine EvC.a ?_ (by simp only[go_sem,hx,intC,hin,List.length_map]<;>rfl);have hq:(if decide (x<0)=true then true else decide ((rows.length:Int)≤x))=!inT rows.length x:=by
  unfold inT;have hB:(decide (0≤x∧x<(rows.length:Int)))=(!decide (x<0)&&!decide ((rows.length:Int)≤x)):=by
   by_cases ha:x<0
   ·rw[decide_eq_true ha,decide_eq_false (by omega)];rfl
   ·by_cases hb:(rows.length:Int)≤x
    ·rw[decide_eq_false ha,decide_eq_true hb,decide_eq_false (by omega)];rfl
    ·rw[decide_eq_false ha,decide_eq_false hb,decide_eq_true (by omega)];rfl
  rw[hB];cases decide (x<0)<;>cases decide ((rows.length:Int)≤x)<;>rfl
 refine EvC.g ?_ (h:=by simp only[go_sem,List.length_map]<;>rfl);cases hp:inT rows.length x with
 | false=>
   rw[hp]at h2;rw[show(if l.all (inT rows.length)=true then(0:Int)else 1)=1 from if_neg (by rw[h2];simp)];refine EvC.ct ?_ (by simp only[go_sem,hq,hp]<;>rfl);refine EvC.a ?_;refine EvC.rz ?_;simp only[go_sem]
 | true=>
   rw[hp,Bool.true_and]at h2;refine EvC.cs ?_ (by simp only[go_sem,hq,hp]<;>rfl);refine EvC.bi ?_;exact⟨[],i+1,rfl,(by simp only[go_sem,Int.natCast_add,Int.natCast_one]<;>rfl),⟨by omega,h2⟩,by omega⟩
structure TV (t:Mach):Prop where
 ins:1≤t.ins∧t.ins≤16
 outs:1≤t.outs∧t.outs≤16
 rows:1≤t.rows.length∧t.rows.length≤65537
 row:∀(i:Nat) (r:Row),t.rows[i]?=some r→(r.2.length:Int)=t.ins∧∀e∈r.2,(e.1=-1∧(e.2=-1∨e.2=-2))∨((i:Int)<e.1∧e.1<t.rows.length∧0≤e.2∧e.2<t.outs)
theorem rowT_edges{outs:Int}:∀{r:List (Int×Int)} {nx nx':Int},rowT outs r nx=some nx'→∀e∈r,(e.1=-1∧(e.2=-1∨e.2=-2))∨(nx≤e.1∧e.1<nx'∧0≤e.2∧e.2<outs)
 | [],_,_,_,e,he=>by cases he
 | y::r,nx,nx',h,e,he=>by
   rw[rowT]at h;split at h
   ·rename_i hy;rcases List.mem_cons.1 he with rfl|he
    ·exact .inl hy
    ·exact rowT_edges h e he
   ·split at h
    ·rename_i hy;have hg:=rowT_ge h;rcases List.mem_cons.1 he with rfl|he
     ·exact .inr ⟨by omega,by omega,hy.2⟩
     ·rcases rowT_edges h e he with h1|⟨h1,h2⟩
      ·exact .inl h1
      ·exact .inr ⟨by omega,h2⟩
    ·cases h
theorem rowsT_ge{ins outs:Int}:∀{rs:List Row} {n nx nx':Int},rowsT ins outs rs n nx=some nx'→nx≤nx'
 | [],n,nx,nx',h=>by simp[rowsT]at h;omega
 | r::rs,n,nx,nx',h=>by
   rw[rowsT]at h;split at h
   ·cases h
   ·split at h
    ·cases h
    ·rename_i m hm;have h1:=rowT_ge hm;have h2:=rowsT_ge h;omega
theorem rowsT_edges{ins outs:Int}:∀{rs:List Row} {n nx nx':Int},rowsT ins outs rs n nx=some nx'→∀(i:Nat) (r:Row),rs[i]?=some r→
  (r.2.length:Int)=ins∧∀e∈r.2,(e.1=-1∧(e.2=-1∨e.2=-2))∨(n+i<e.1∧e.1<nx'∧0≤e.2∧e.2<outs)
 | [],_,_,_,_,i,r,hr=>by simp at hr
 | y::rs,n,nx,nx',h,i,r,hr=>by
   rw[rowsT]at h;split at h
   ·cases h
   ·rename_i hc;split at h
    ·cases h
    ·rename_i m hm;have h2:=rowsT_ge h;cases i with
     | zero=>
       simp at hr;subst hr;refine⟨by omega,fun e he=>?_⟩;rcases rowT_edges hm e he with h3|⟨h3,h4,h5⟩
       ·exact .inl h3
       ·exact .inr ⟨by simp;omega,by omega,h5⟩
     | succ i=>
       simp at hr;have h3:=rowsT_edges h i r hr;refine⟨h3.1,fun e he=>?_⟩;rcases h3.2 e he with h4|⟨h4,h5⟩
       ·exact .inl h4
       ·exact .inr ⟨by simp only[Int.natCast_add,Int.natCast_one]at *;omega,h5⟩
theorem TV.of{t:Mach}(h:checkT t=0):TV t:=by
 unfold checkT at h;split at h
 ·cases h
 ·rename_i h1;split at h
  ·cases h
  ·rename_i h2;split at h
   ·rename_i nx hnx;split at h
    ·rename_i h3;subst h3;refine⟨by omega,by omega,by omega,fun i r hr=>?_⟩;have:=rowsT_edges hnx i r hr;simpa using this
    ·cases h
   ·cases h
def eT(t:Mach)(n i:Nat):Int×Int:=((((t.rows[n]?).map (·.2)).getD [])[i]?).getD (-1,-1)
def compF(t:Mach):Nat→Nat→Nat→Bool
 | 0,_,_=>true
 | f+1,a,b=>(List.range t.ins.toNat).all fun i=>!clashE (eT t a i) (eT t b i)&&(!bothE (eT t a i) (eT t b i)||compF t f (eT t a i).1.toNat (eT t b i).1.toNat)
def compB(t:Mach)(a b:Nat):Bool:=compF t (t.rows.length-a) a b
theorem TV.edge{t:Mach}(v:TV t){n i:Nat}(hn:n<t.rows.length)(hi:(i:Int)<t.ins):
  ((eT t n i).1=-1∧((eT t n i).2=-1∨(eT t n i).2=-2))∨((n:Int)<(eT t n i).1∧(eT t n i).1<t.rows.length∧0≤(eT t n i).2∧(eT t n i).2<t.outs):=by
 have h1:=v.row n _ (List.getElem?_eq_getElem hn);have hl:i<t.rows[n].2.length:=by omega
 have e:eT t n i=t.rows[n].2[i]:=by simp[eT,hn,hl]
 rw[e];exact h1.2 _ (List.getElem_mem hl)
theorem compF_more{t:Mach}(v:TV t):∀(f g a b:Nat),a<t.rows.length→b<t.rows.length→t.rows.length-a≤f→t.rows.length-a≤g→compF t f a b=compF t g a b
 | 0,_,a,_,ha,_,hf,_=>by omega
 | _,0,a,_,ha,_,_,hg=>by omega
 | f+1,g+1,a,b,ha,hb,hf,hg=>by
   rw[compF,compF];have:∀i∈List.range t.ins.toNat,(!clashE (eT t a i) (eT t b i)&&(!bothE (eT t a i) (eT t b i)||compF t f (eT t a i).1.toNat (eT t b i).1.toNat))=(!clashE (eT t a i) (eT t b i)&&(!bothE (eT t a i) (eT t b i)||compF t g (eT t a i).1.toNat (eT t b i).1.toNat)):=fun i hi=>by
    have hi:(i:Int)<t.ins:=by have:=List.mem_range.1 hi;omega
    cases hbo:bothE (eT t a i) (eT t b i)with
    | false=>rfl
    | true=>
      unfold bothE at hbo;simp only[Bool.and_eq_true,Bool.not_eq_true',decide_eq_false_iff_not]at hbo;rcases v.edge ha hi with h1|h1
      ·exact absurd h1.1 hbo.1
      rcases v.edge hb hi with h2|h2
      ·exact absurd h2.1 hbo.2
      rw[compF_more v f g _ _ (by omega) (by omega) (by omega) (by omega)]
   rw[Bool.eq_iff_iff,List.all_eq_true,List.all_eq_true];exact⟨fun h i hi=>by rw[←this i hi];exact h i hi,fun h i hi=>by rw[this i hi];exact h i hi⟩
theorem compB_eq{t:Mach}(v:TV t){a b:Nat}(ha:a<t.rows.length)(hb:b<t.rows.length):
  compB t a b=(List.range t.ins.toNat).all fun i=>!clashE (eT t a i) (eT t b i)&&(!bothE (eT t a i) (eT t b i)||compB t (eT t a i).1.toNat (eT t b i).1.toNat):=by
 rw[compB,compF_more v _ (t.rows.length+1) a b ha hb (Nat.le_refl _) (by omega),compF];have:∀i∈List.range t.ins.toNat,(!clashE (eT t a i) (eT t b i)&&(!bothE (eT t a i) (eT t b i)||compF t t.rows.length (eT t a i).1.toNat (eT t b i).1.toNat))=(!clashE (eT t a i) (eT t b i)&&(!bothE (eT t a i) (eT t b i)||compB t (eT t a i).1.toNat (eT t b i).1.toNat)):=fun i hi=>by
  have hi:(i:Int)<t.ins:=by have:=List.mem_range.1 hi;omega
  cases hbo:bothE (eT t a i) (eT t b i)with
  | false=>rfl
  | true=>
    unfold bothE at hbo;simp only[Bool.and_eq_true,Bool.not_eq_true',decide_eq_false_iff_not]at hbo;rcases v.edge ha hi with h1|h1
    ·exact absurd h1.1 hbo.1
    rcases v.edge hb hi with h2|h2
    ·exact absurd h2.1 hbo.2
    rw[compB,compF_more v t.rows.length (t.rows.length-(eT t a i).1.toNat) _ _ (by omega) (by omega) (by omega) (Nat.le_refl _)]
 rw[Bool.eq_iff_iff,List.all_eq_true,List.all_eq_true];exact⟨fun h i hi=>by rw[←this i hi];exact h i hi,fun h i hi=>by rw[this i hi];exact h i hi⟩
def compI(t:Mach)(a b i:Nat):Bool:=!clashE (eT t a i) (eT t b i)&&(!bothE (eT t a i) (eT t b i)||compB t (eT t a i).1.toNat (eT t b i).1.toNat)
end Go.Avl
