/-
  Calls of functions that write nothing that was there; functions from their bodies; freezing.
  Loops: states by their shape; slots are dropped, objects are dropped and renamed.
  The rules in the shapes that texts use; the simp set.
  An operation's abstract evaluation hangs on its operands and on the objects that these name, and on nothing else.
  Regions that draw their order: if each two operations that touch one thing have an edge between them, every order ends as the text's order does.
  Regions that draw their order: the theorem.
  Operations of a drawn region, one by one and in runs.
  Calls in drawn regions; runs of operations at once, guards and all.
  The rules for regions in their last shape; the rest of the simp set.
  A box is frozen: nobody writes it any more; its address is read by the cells behind it.
  Blocks that hold no data are turned: nothing that is read changes.
  Iterators: functions that hand values to 'yield'; ranges over them.
  A range over an iterator with a contract.
  Frozen slices are read by their contents in boxes, too.
  A slice without room is an object that nobody has written; contracts under weaker readings.
  A call by its body: the callee works on the caller's own objects, and may hand back new ones.
  Functions whose result is read from new cells alone; calls that lend objects.
  Contracts with a result in new cells, from a body.
  Scopes that nobody jumps in, and labels.
  A slice of length 0 at the front of an object that nobody else keeps: an empty object with room.
-/
import Derived.RangeFuncNested
import Derived.Scope
import Derived.Test.YthfacnlkecjodaaGreatPart2
set_option linter.unusedSimpArgs false
set_option linter.unusedVariables false
set_option linter.unnecessarySimpa false
set_option linter.deprecated false
namespace Go.Avl
open Go
def callable(P:Program)(f:FuncId):Prop:=∀args w,(callFunc f args).run P w=.ok (.enter f args) w
theorem callable_of{P:Program}{f:FuncId}{fn:Func}(hf:P.funcs[f]?=some fn)(hn:(fn.name== "runtime.NumGoroutine")=false)(hb:fn.body.isNone=false):callable P f:=fun args w=>by
 have h1:fn.name≠ "runtime.NumGoroutine" :=by simpa using hn
 have h2:fn.body≠none:=fun h=>by rw[h]at hb;cases hb
 simp[callFunc,hf,h1,h2]
def Imms(F:Nat→Nat→Prop)(w:World)(vs:List Value)(xs:List AV):Prop:=vs.length=xs.length∧∀i (h1:i<vs.length) (h2:i<xs.length),Imm F w vs[i] xs[i]
structure Grown (F:Nat→Nat→Prop) (w:World) (F':Nat→Nat→Prop) (w':World):Prop where
 size:w.heap.size≤w'.heap.size
 old:∀b,b<w.heap.size→w'.heap[b]?=w.heap[b]?
 F1:∀b o,F b o→F' b o
 F3:∀b o,F' b o→F b o∨w.heap.size≤b
 inF:∀b o,F' b o→b<w'.heap.size
 kept:Kept w w'
def PureIs(P:Program)(f:FuncId)(args:List AV)(r:AV):Prop:=
 callable P f∧∀F w vals,FOk F w→Imms F w vals args→
  CallsIn Fence.wide 0 P f vals.toArray w fun e w'=>∃v F',e=.returned v∧Imm F' w' v r∧Grown F w F' w'
section
variable {P:Program} {fr:Fr} {ro:Option Nat} {ds:DS} {st st':St} {Q Q':Exit→St→Prop} {G G':Nat→Option Value} {F F':Nat→Nat→Prop} {a:Act} {w w':World} {x y c:Code}
 {M:Mem} {ops:Array Oper} {l rest:List Oper} {o:Oper}
theorem simM_grown{nx:Nat}(hm:SimM P G F M nx w)(g:Grown F w F' w'):SimM P G F' M nx w'∧Step All G F M w G F' M w':=by
 have S:Step All G F M w G F' M w':=
  { kept:=g.kept
    size:=g.size
    out:=fun b hb _=>g.old b hb
    F1:=g.F1
    F2:=fun b o hF=>cell?_same (g.old b (hm.inF b o hF)) o
    F3:=fun b o h=>by rcases g.F3 b o h with h|h;exact .inl h;exact .inr (.inl h)
    own:=fun b h=>.inr h
    some':=fun _ _ h=>h
    same:=fun _ _ _ h _=>h
    keep:=fun id o' _ hG ho=>by
     cases hg:G id with
     | none=>exact absurd hg hG
     | some v=>exact⟨o',v,v,ho,rfl,rfl,objKeep.refl v o'⟩ }
 refine⟨simM_gen hm S (fun id o' ho=>⟨(hm.obj id o' ho).1,.inr ⟨ho,rfl,fun b v hG hb=>?_⟩⟩) hm.inj g.inF,S⟩;have hlt:b<w.heap.size:=hm.lt ⟨id,o',v,ho,hG,hb⟩;exact⟨g.old b hlt,fun o h=>by rcases g.F3 b o h with h|h;exact h;omega⟩
theorem callsIn_fc{n:Nat}{f:FuncId}{args:Array Value}{R:Ending→World→Prop}(h:CallsIn Fence.wide n P f args w R):CallsIn (fc ro) (0-1) P f args w R:=
 ⟨trivial,fun cs _=>h.2 cs (room_wide _)⟩
theorem Imms.of_rv{vs:List Value}{xs:List AV}(hl:vs.length=xs.length)(h:∀i (h1:i<vs.length) (h2:i<xs.length),RV G F M w vs[i] xs[i])(hn:AV.norefs xs=true):Imms F w vs xs:=
 ⟨hl,fun i h1 h2=>(h i h1 h2).imm_of (norefs_get xs hn i h2)⟩
def callArgs(fr:Fr)(st:St)(args:Array Operand):List AV:=args.toList.map fun x=>snap st.mem (od fr st true x)
theorem SimA.call{f:FuncId}{cs:List AV}{callee:Operand}{args:Array Operand}{tys:Array TypeId}{xs:List AV}{r:AV}{K:Act→World→Prop}{Q1:Exit→Act→World→Prop}
  (s:SimA P fr ds G F st a w)(hop:o.op=.call ⟨.value callee,args,tys⟩)(hd:∀k,o.dst=some k→k<fr.sz)(hcal:od fr st true callee=.fn f cs)
  (hxs:callArgs fr st args++cs=xs)(hn:AV.norefs xs=true)(hc:PureIs P f xs r)
  (h:∀G' F' a' w',SimA P fr ds G' F' ((⟨st.vars,st.tmps,st.mem,st.nx+1⟩:St).put fr o.dst r) a' w'→Step All G F st.mem w G' F' st.mem w'→K a' w'):o.wpIn (fc ro) 0 P a w K Q1:=by
 refine⟨fun _ _=>trivial,?_⟩;rw[Oper.semAt_eq _ _ _ (by rw[hop];intro c h;cases h)];have hv:=(s.eval callee).unopt;have hv:RV G F st.mem w (a.eval callee) (.fn f cs):=by unfold od at hcal;rwa[hcal]at hv
 obtain⟨vs,hev,hl,hcs⟩:=hv.inv_fn;have hrun:(execOp a.eval o).run P w=.ok (.enter f ((args.toList.map a.eval++vs).toArray)) w:=by
  obtain⟨dst,op,ty,pos,after,guard⟩:=o;simp only at hop;subst hop;simp only[execOp,resolve,hev,Deferred.ofValue,Sem.run_bind,Sem.run_pure,Result.andThen_ok,invoke];rw[hc.1];congr 2;apply Array.ext';simp
 rw[hrun];have hi:Imms F w (args.toList.map a.eval++vs) xs:=by
  subst hxs;refine .of_rv (G:=G) (M:=st.mem) (by simp[callArgs,hl]) (fun i h1 h2=>?_) hn;by_cases hlt:i<args.toList.length
  ·rw[List.getElem_append_left (by simpa using hlt),List.getElem_append_left (by simpa[callArgs]using hlt)];simp only[callArgs,List.getElem_map];exact((s.eval _).unopt).snap s.sim.mem
  ·rw[List.getElem_append_right (by simpa using hlt),List.getElem_append_right (by simpa[callArgs]using hlt)];simp only[List.length_map,callArgs];exact hcs _ _ _
 refine⟨fun h=>by simp[fc,Fence.wide]at h,callsIn_fc ((hc.2 F w _ s.sim.mem.fok hi).mono ?_)⟩;rintro e w' ⟨v,F',rfl,hv,g⟩;obtain⟨hm',S'⟩:=simM_grown s.sim.mem g;exact h G F' _ w' (s.step_put (st1:=⟨st.vars,st.tmps,st.mem,st.nx+1⟩) S' (hm'.more (Nat.le_succ _)) rfl rfl (fun j hj=>s.fresh j (Nat.le_of_succ_le hj)) hd (.imm hv)) S'
theorem XR.call{f:FuncId}{cs:List AV}{callee:Operand}{args:Array Operand}{tys:Array TypeId}{xs:List AV}{r:AV}(hg:o.guard=none)(hop:o.op=.call ⟨.value callee,args,tys⟩)(hd:dok fr o.dst=true)
  (hcal:od fr st true callee=.fn f cs)(hxs:callArgs fr st args++cs=xs)(hn:AV.norefs xs=true)(hc:PureIs P f xs r)
  (h:XR P fr ro ds ops rest ((⟨st.vars,st.tmps,st.mem,st.nx+1⟩:St).put fr o.dst r) Q):XR P fr ro ds ops (o::rest) st Q:=
 fun _ _ _ _ _ _ _ _ S s=>wpListIn_plain hg fun K hK=>s.call hop (dok_spec hd) hcal hxs hn hc fun _ _ _ _ s' S'=>hK _ _ (h _ _ _ _ _ _ _ _ (S.trans (by rw[St.put_mem];exact S'.mono fun _ _=>trivial)) s')
def vars0:Nat→List AV→List (Nat×AV)
 | _,[]=>[]
 | i,x::xs=>(i,x)::vars0 (i+1) xs
def st0(args:List AV):St:=⟨vars0 0 args,[],[],0⟩
theorem alook_vars0:∀(xs:List AV) (i k:Nat),alook (vars0 i xs) k=.junk∨∃h:k-i<xs.length,i≤k∧alook (vars0 i xs) k=xs[k-i]
 | [],_,_=>.inl rfl
 | x::xs,i,k=>by
   simp only[vars0,alook];by_cases h:k=i
   ·subst h;exact .inr ⟨by simp,Nat.le_refl _,by simp⟩
   ·rw[if_neg h];rcases alook_vars0 xs (i+1) k with h'|⟨h1,h2,h3⟩
    ·exact .inl h'
    ·refine .inr ⟨by simp;omega,by omega,?_⟩;rw[h3];have:k-i=(k-(i+1))+1:=by omega
     simp[this]
def resOne(P:Program)(fr:Fr)(st:St):ResultVar→Option AV
 | .tmp t=>some (snap st.mem (st.get fr t))
 | .cell a t=>match st.get fr a,tinfo P t with
   | .rf i off,some ti=>match mlook st.mem i with
     | some (.cells cs)=>if off+ti.size≤cs.length∧(ti.agg=true∨ti.size=1)then some (mkv ti.agg ((cs.drop off).take ti.size))else none
     | _=>none
   | _,_=>none
def resAll(P:Program)(fr:Fr)(st:St):List ResultVar→Option (List AV)
 | []=>some []
 | x::xs=>match resOne P fr st x,resAll P fr st xs with
   | some v,some vs=>some (v::vs)
   | _,_=>none
def mkRes:List AV→AV
 | [x]=>x
 | xs=>.tu xs
def resVar(tmps:Array Value):ResultVar→Sem Value
 | .tmp t=>pure (tmps.getD t undef)
 | .cell a t=>do loadVar t (←asAddr (tmps.getD a undef))
theorem results_eq(fn:Func)(tmps:Array Value):results fn tmps=(do
  let vs ←fn.results.mapM (resVar tmps)
  pure (if h:vs.size=1 then vs[0]else .tuple vs)):=by
 unfold results;have:(fun x:ResultVar=>match x with
  | .tmp t=>(pure (tmps.getD t undef):Sem Value)
  | .cell a t=>do loadVar t (←asAddr (tmps.getD a undef)))=resVar tmps:=by
  funext x;cases x<;>rfl
 rw[←this];rfl
theorem resOne_ok(s:SimA P fr ds G F st a w){x:ResultVar}{v:AV}(h:resOne P fr st x=some v):
  ∃u,(resVar a.tmps x).run P w=.ok u w∧RV G F st.mem w u v:=by
 cases x with
 | tmp t=>
   simp only[resOne,Option.some.injEq]at h;subst h;exact⟨_,rfl,(s.sim.slots t).snap s.sim.mem⟩
 | cell p t=>
   simp only[resOne]at h;split at h
   ·rename_i i off ti hp ht;split at h
    ·rename_i cs ho;split at h
     ·rename_i hb;cases h;have hv:=s.sim.slots p;rw[hp]at hv;obtain⟨u,h1,h2⟩:=ok_load_rf s.sim.mem ht hv ho hb.1 hb.2;refine⟨u,?_,h2⟩;obtain⟨b,_,hpv⟩:=hv.inv_rf;rw[hpv]at h1;simp only[resVar,hpv];simpa[Instr.loadAt,Instr.sureAddr,asAddr]using h1
     ·cases h
    ·cases h
   ·cases h
theorem resAll_ok(s:SimA P fr ds G F st a w):∀{xs:List ResultVar} {rs:List AV},resAll P fr st xs=some rs→
  ∃us:List Value,(xs.mapM (resVar a.tmps)).run P w=.ok us w∧us.length=rs.length∧∀i (h1:i<us.length) (h2:i<rs.length),RV G F st.mem w us[i] rs[i]
 | [],rs,h=>by
   cases h;exact⟨[],by simp,rfl,fun _ h=>absurd h (Nat.not_lt_zero _)⟩
 | x::xs,rs,h=>by
   simp only[resAll]at h;split at h
   ·rename_i v vs hv hvs;cases h;obtain⟨u,h1,h2⟩:=resOne_ok s hv;obtain⟨us,h3,h4,h5⟩:=resAll_ok s hvs;refine⟨u::us,by simp[List.mapM_cons,h1,h3],by simp[h4],fun i hi hj=>?_⟩;cases i with
    | zero=>exact h2
    | succ i=>exact h5 i (by simpa using hi) (by simpa using hj)
   ·cases h
theorem results_ok(s:SimA P fr ds G F st a w){fn:Func}{rs:List AV}(h:resAll P fr st fn.results.toList=some rs):∃u,(results fn a.tmps).run P w=.ok u w∧RV G F st.mem w u (mkRes rs):=by
 obtain⟨us,h1,h2,h3⟩:=resAll_ok s h;refine⟨if h:us.toArray.size=1 then us.toArray[0]else .tuple us.toArray,?_,?_⟩
 ·rw[results_eq,Array.mapM_eq_mapM_toList];simp[h1]
 ·match us,rs,h2 with
  | [],[],_=>exact .tu [] [] rfl (fun _ h=>absurd h (Nat.not_lt_zero _))
  | [u],[r],_=>exact h3 0 (by simp) (by simp)
  | u::u'::us,r::r'::rs,h2=>
    simp only[List.size_toArray,List.length_cons,mkRes];rw[dif_neg (by omega)];exact .tu _ _ h2 h3
def retP(P:Program)(fr:Fr)(results:List ResultVar)(r:AV)(e:Exit)(st:St):Prop:=
 (e=.ret∨e=.normal)∧∃rs,resAll P fr st results=some rs∧mkRes rs=r∧r.noref=true
theorem cell?_data{b o:Nat}{v:Value}(h:w.cell? ⟨b,o,none⟩=some v):∃ob,w.heap[b]?=some ob∧isData ob=true:=by
 unfold World.cell? at h;cases hb:w.heap[b]? with
 | none=>simp[hb]at h
 | some ob=>
   refine⟨ob,rfl,?_⟩;simp only[hb]at h;cases ob<;>simp_all[isData]
theorem Imm.keepData{v:Value}{x:AV}(h:Imm F w v x)(hk:∀(b:Nat) (o:Obj),w.heap[b]?=some o→isData o=true→w'.heap[b]?=some o):Imm F w' v x:=by
 have hc:∀(b o:Nat) (v:Value),w.cell? ⟨b,o,none⟩=some v→w'.cell? ⟨b,o,none⟩=some v:=fun b o v h=>by
  obtain⟨ob,h1,h2⟩:=cell?_data h;rw[cell?_same ((hk b ob h1 h2).trans h1.symm) o];exact h
 induction h with
 | sc v=>exact .sc v
 | ag vs cs hl _ ih=>exact .ag vs cs hl ih
 | tu vs cs hl _ ih=>exact .tu vs cs hl ih
 | nil cap hc=>exact .nil cap hc
 | sz a cap hc=>exact .sz a cap hc
 | sl b off c esz es cap vs hc' hcap hes hF _ ih=>exact .sl b off c esz es cap vs hc' hcap hes (fun i j h1 h2=>let⟨a,b,c⟩:=hF i j h1 h2;⟨a,hc _ _ _ b,c⟩) ih
 | ia b off cs vs hF _ ih=>exact .ia b off cs vs (fun j h=>let⟨a,b⟩:=hF j h;⟨a,hc _ _ _ b⟩) ih
 | ifc t v x _ ih=>exact .ifc t v x ih
 | fn f vs cs hl _ ih=>exact .fn f vs cs hl ih
 | opt b v x _ h' ih=>exact .opt b v x ih h'
 | junk v=>exact .junk v
theorem RV.keepData{v:Value}{x:AV}(h:RV G F M w v x)(hk:∀(b:Nat) (o:Obj),w.heap[b]?=some o→isData o=true→w'.heap[b]?=some o):RV G F M w' v x:=by
 induction h with
 | imm h=>exact .imm (h.keepData hk)
 | ag vs cs hl _ ih=>exact .ag vs cs hl ih
 | tu vs cs hl _ ih=>exact .tu vs cs hl ih
 | ifc t v x _ ih=>exact .ifc t v x ih
 | fn f vs cs hl _ ih=>exact .fn f vs cs hl ih
 | opt b v x _ h' ih=>exact .opt b v x ih h'
 | rf id off b h=>exact .rf id off b h
 | tl id len nl v hG h=>exact .tl id len nl v hG h
 | tv id n off len cap v hG h=>exact .tv id n off len cap v hG h
 | ea id n i off v hG h=>exact .ea id n i off v hG h
 | mp id b h=>exact .mp id b h
theorem ObjOk.keepData{id:Nat}{o:RObj}(h:ObjOk P G F M w id o)(hk:∀(b:Nat) (o:Obj),w.heap[b]?=some o→isData o=true→w'.heap[b]?=some o):ObjOk P G F M w' id o:=by
 cases o with
 | cells cs=>obtain⟨b,c,e,h1,h2,h3,h4,h5⟩:=h;exact⟨b,c,e,h1,hk _ _ h2 rfl,h3,fun i a b=>(h4 i a b).keepData hk,h5⟩
 | arr esz es fz=>
   rcases h with h|⟨b,c,cc,e,h1,h2,h3,h4,h5,h6,h7,h8⟩
   ·exact .inl h
   ·exact .inr ⟨b,c,cc,e,h1,h2,hk _ _ h3 rfl,h4,h5,h6,fun i j a b=>let⟨v,x,y,z⟩:=h7 i j a b;⟨v,x,y,z.keepData hk⟩,h8⟩
 | map kt es=>obtain⟨b,ents,clock,h1,h2,h3,h4,h5⟩:=h;exact⟨b,ents,clock,h1,hk _ _ h2 rfl,h3,fun i a b=>let⟨x,y,z⟩:=h4 i a b;⟨x,y.keepData hk,z⟩,h5⟩
theorem SimM.keepData{nx:Nat}(h:SimM P G F M nx w)(hk:∀(b:Nat) (o:Obj),w.heap[b]?=some o→isData o=true→w'.heap[b]?=some o)(hs:w.heap.size≤w'.heap.size):SimM P G F M nx w':=
 ⟨fun id o ho=>⟨(h.obj id o ho).1,(h.obj id o ho).2.keepData hk⟩,h.inj,fun b o hb=>Nat.lt_of_lt_of_le (h.inF b o hb) hs,fun g vs hg j hj=>by
  obtain⟨h1,h2⟩:=h.gl g vs hg j hj;refine⟨h1,?_⟩;obtain⟨ob,h3,h4⟩:=cell?_data h2;rw[cell?_same ((hk g ob h3 h4).trans h3.symm) j];exact h2⟩
theorem PureIs.of{f:FuncId}{fn:Func}{args:List AV}{r:AV}{nv:Nat}{hid:List Nat}(hf:P.funcs[f]?=some fn)(hb:fn.body=some c)(hnm:(fn.name== "runtime.NumGoroutine")=false)(hsz:args.length≤fn.ntmps)
  (h:∀h0:Nat,EvC P ⟨0,nv,hid,fn.ntmps⟩ none ⟨h0,none,false⟩ c (st0 args) (retP P ⟨0,nv,hid,fn.ntmps⟩ fn.results.toList r)):PureIs P f args r:=by
 refine⟨callable_of hf hnm (by rw[hb];rfl),fun F w vals hF hi=>?_⟩;obtain⟨hl,hi⟩:=hi;have s0:SimA P ⟨0,nv,hid,fn.ntmps⟩ ⟨w.heap.size,none,false⟩ (fun _=>none) F (st0 args) { tmps:=vals.toArray++Array.replicate (fn.ntmps-vals.toArray.size) undef,defers:=[] } w:=by
  refine⟨⟨⟨fun id o h=>(by cases h),fun id id' v v' b h=>absurd rfl h,hF.1,hF.2⟩,fun k=>?_,by simp;omega⟩,fun _ _=>rfl,Marks.none _ _ _ (Nat.le_refl _)⟩;have key:∀x,(x=.junk∨∃h:k<args.length,x=args[k])→RV (fun _=>none) F (st0 args).mem w ((vals.toArray++Array.replicate (fn.ntmps-vals.toArray.size) undef).getD k undef) x:=by
   rintro x (rfl|⟨hk,rfl⟩)
   ·exact .imm (.junk _)
   ·have:(vals.toArray++Array.replicate (fn.ntmps-vals.toArray.size) undef).getD k undef=vals[k]:=by
      rw[Array.getD_eq_getD_getElem?,Array.getElem?_append_left (by simp;omega)];simp[List.getElem?_eq_getElem (show k<vals.length by omega)]
    rw[this];exact .imm (hi k (by omega) hk)
  refine key _ ?_;unfold St.get;split
  ·rcases alook_vars0 args 0 k with h|⟨h1,h2,h3⟩
   ·exact .inl h
   ·exact .inr ⟨by simpa using h1,by simpa[st0]using h3⟩
  ·exact .inl rfl
 refine callsIn_of_wp_marks (F:=Fence.wide) hf hb trivial (wpIn_mono (h _ _ _ _ _ _ _ _ _ .refl s0) ?_);rintro e a' w' ⟨G',F',st',s',S',he,rs,hrs,rfl,hn⟩;have g:Grown F w F' w':=⟨S'.size,fun b hb=>S'.out b hb (fun⟨_,_,_,h,_⟩=>by cases h),S'.F1,(fun b o h=>by
  rcases S'.F3 b o h with h|h|⟨_,_,_,h,_⟩
  ·exact .inl h
  ·exact .inr h
  ·cases h),s'.sim.mem.inF,S'.kept⟩
 have hfin:∀(Ds:List Nat) (w2:World),Ds.Nodup→(∀D∈Ds,w.heap.size≤D∧w2.heap[D]?=some (.deferred (some [])))→Grown F w F' w2→SimA P ⟨0,nv,hid,fn.ntmps⟩ ⟨w.heap.size,none,false⟩ G' F' st' { a' with defers:=[] } w2→
   LeavesInM Fence.wide 0 P fn a'.tmps (fun e w'=>∃v F',e=.returned v∧Imm F' w' v (mkRes rs)∧Grown F w F' w') (Ds.map dmark) .returning w2:=by
  intro Ds
  induction Ds with
  | nil=>
    intro w2 _ _ g s2;obtain⟨u,h1,h2⟩:=results_ok s2 hrs;exact⟨u,h1,u,F',rfl,h2.imm_of hn,g⟩
  | cons D Ds ih=>
    intro w2 hnd hD g s2;obtain⟨h1,h2⟩:=hD D List.mem_cons_self;have hnd:=List.nodup_cons.1 hnd;have hk:∀(b:Nat) (o:Obj),w2.heap[b]?=some o→isData o=true→(w2.putObj D (.deferred none)).heap[b]?=some o:=fun b o hb ho=>by
     rw[World.putObj_heap_other (by rintro rfl;rw[h2]at hb;cases hb;cases ho)];exact hb
    refine⟨(by intro h;cases h),.inl ⟨D,_,rfl,run_takeDeferred h2,ih _ hnd.2 (fun D' hD'=>?_) ⟨by rw[World.putObj_size];exact g.size,fun b hb=>?_,g.F1,g.F3,fun b o h=>by rw[World.putObj_size];exact g.inF b o h,g.kept.trans (.set h2 rfl rfl)⟩ ?_⟩⟩
    ·refine⟨(hD D' (List.mem_cons_of_mem _ hD')).1,?_⟩;rw[World.putObj_heap_other (by rintro rfl;exact hnd.1 hD')];exact(hD D' (List.mem_cons_of_mem _ hD')).2
    ·rw[World.putObj_heap_other (by omega)];exact g.old b hb
    ·exact⟨⟨s2.sim.mem.keepData hk (by rw[World.putObj_size];exact Nat.le_refl _),fun k=>(s2.sim.slots k).keepData hk,s2.sim.size⟩,s2.fresh,Marks.none _ _ _ (by rw[World.putObj_size];exact g.size)⟩
 obtain⟨⟨Ds,hDs,hnd,hD⟩,_⟩:=s'.defers;have:=hfin Ds w' hnd hD g ⟨⟨s'.sim.mem,s'.sim.slots,s'.sim.size⟩,s'.fresh,Marks.none _ _ _ g.size⟩;rw[←hDs]at this;rcases he with rfl|rfl
 ·exact this
 ·exact this
def frzF(F:Nat→Nat→Prop)(b n:Nat):Nat→Nat→Prop:=fun b' o=>F b' o∨(b'=b∧o<n)
theorem simM_frz{nx i esz:Nat}{es:List (List AV)}{fz:Bool}(hm:SimM P G F M nx w)(ho:mlook M i=some (.arr esz es fz))(hn:es.all AV.norefs=true):
  ∃F',SimM P G F' (mset M i (.arr esz es true)) nx w∧Step All G F M w G F' (mset M i (.arr esz es true)) w:=by
 have hold:=(hm.obj i _ ho).2;have hstep:∀F':Nat→Nat→Prop,(∀b o,F b o→F' b o)→(∀b o,F' b o→F b o∨Owned G M b)→Step All G F M w G F' (mset M i (.arr esz es true)) w:=fun F' h1 h2=>
  { kept:=.refl
    size:=Nat.le_refl _
    out:=fun _ _ _=>rfl
    F1:=h1
    F2:=fun _ _ _=>rfl
    F3:=fun b o h=>by rcases h2 b o h with h|h;exact .inl h;exact .inr (.inr h)
    own:=fun b ⟨id,o,v,h3,h4,h5⟩=>by
     rw[mlook_mset]at h3;by_cases hi:id=i
     ·subst hi;exact .inr ⟨id,_,v,ho,h4,h5⟩
     ·rw[if_neg hi]at h3;exact .inr ⟨id,o,v,h3,h4,h5⟩
    some':=fun _ _ h=>h
    same:=fun _ _ _ h _=>h
    keep:=fun id o' _ hG h3=>by
     obtain⟨v,hv⟩:=Option.ne_none_iff_exists'.1 hG;rw[mlook_mset]at h3;by_cases hi:id=i
     ·subst hi;rw[if_pos rfl]at h3;cases h3;exact⟨_,v,v,ho,hv,hv,⟨rfl,.inl ⟨rfl,rfl⟩⟩⟩
     ·rw[if_neg hi]at h3;exact⟨o',v,v,h3,hv,hv,objKeep.refl v o'⟩ }
 have hinj:∀id id' v v' b,mlook (mset M i (.arr esz es true)) id≠none→mlook (mset M i (.arr esz es true)) id'≠none→G id=some v→G id'=some v'→blkOf v=some b→blkOf v'=some b→id=id':=by
  intro id id' v v' b h1 h2;refine hm.inj id id' v v' b ?_ ?_
  ·rw[mlook_mset]at h1;by_cases hi:id=i
   ·subst hi;rw[ho];simp
   ·rwa[if_neg hi]at h1
  ·rw[mlook_mset]at h2;by_cases hi:id'=i
   ·subst hi;rw[ho];simp
   ·rwa[if_neg hi]at h2
 rcases hold with⟨h0,base,h1,hsp⟩|⟨b,c,cc,e,h1,h2,h3,h4,h5,h6,h7,h8,h9⟩
 ·have S:=hstep F (fun _ _ h=>h) (fun _ _ h=>.inl h);refine⟨F,simM_gen hm S (fun id o' h=>?_) hinj hm.inF,S⟩;rw[mlook_mset]at h;by_cases hi:id=i
  ·subst hi;rw[if_pos rfl]at h;cases h;exact⟨(hm.obj id _ ho).1,.inl (.inl ⟨h0,base,h1,hsp⟩)⟩
  ·rw[if_neg hi]at h;exact⟨(hm.obj id _ h).1,.inr ⟨h,rfl,fun b v hG hb=>⟨rfl,fun _ h=>h⟩⟩⟩
 ·have hbk:blkOf (.slice (some ⟨b,0,none⟩) es.length c)=some b:=by simp[blkOf,h2]
  have S:=hstep (frzF F b (es.length*esz)) (fun _ _ h=>.inl h) (fun b' o h=>by
   rcases h with h|⟨rfl,_⟩
   ·exact .inl h
   ·exact .inr ⟨i,_,_,ho,h1,hbk⟩)
  refine⟨_,simM_gen hm S (fun id o' h=>?_) hinj (fun b' o h=>by
   rcases h with h|⟨rfl,_⟩
   ·exact hm.inF _ _ h
   ·exact(Array.getElem?_eq_some_iff.1 h3).1),S⟩
  rw[mlook_mset]at h;by_cases hi:id=i
  ·subst hi;rw[if_pos rfl]at h;cases h;refine⟨(hm.obj id _ ho).1,.inl (.inr ⟨b,c,cc,e,h1,h2,h3,h4,h5,h6,fun k j hk hj=>?_,fun o h=>?_,fun _=>⟨all_norefs hn,fun o h=>.inr ⟨rfl,h⟩⟩⟩)⟩
   ·obtain⟨v,hv,h1c,hr⟩:=h7 k j hk hj;exact⟨v,hv,h1c,hr.step S (fun _ _=>trivial)⟩
   ·rcases h with h|⟨_,h⟩
    ·exact⟨rfl,(h8 o h).2⟩
    ·exact⟨rfl,h⟩
  ·rw[if_neg hi]at h;refine⟨(hm.obj id _ h).1,.inr ⟨h,rfl,fun b' v hG hb=>⟨rfl,fun o h'=>?_⟩⟩⟩;rcases h' with h'|⟨rfl,_⟩
   ·exact h'
   ·exact absurd (hm.inj id i _ _ _ (by rw[h];simp) (by rw[ho];simp) hG h1 hb hbk) hi
mutual
def AV.deep(σ:AV→AV):AV→AV
 | .ag cs=>.ag (AV.deeps σ cs)
 | .tu cs=>.tu (AV.deeps σ cs)
 | .ifc t v=>.ifc t (v.deep σ)
 | .fn f cs=>.fn f (AV.deeps σ cs)
 | .opt b v=>.opt b (v.deep σ)
 | v=>σ v
def AV.deeps(σ:AV→AV):List AV→List AV
 | []=>[]
 | c::cs=>c.deep σ::AV.deeps σ cs
end
theorem deeps_eq(σ:AV→AV):∀cs:List AV,AV.deeps σ cs=cs.map (AV.deep σ)
 | []=>rfl
 | c::cs=>by rw[AV.deeps,deeps_eq σ cs];rfl
def mapSlots(f:AV→AV)(l:List (Nat×AV)):List (Nat×AV):=l.map fun p=>(p.1,f p.2)
theorem alook_map{f:AV→AV}(hj:f .junk=.junk):∀(l:List (Nat×AV)) (k:Nat),alook (mapSlots f l) k=f (alook l k)
 | [],_=>hj.symm
 | (i,v)::l,k=>by
   simp only[mapSlots,List.map_cons,alook];split
   ·rfl
   ·exact alook_map hj l k
def St.map(f:AV→AV)(st:St):St:=⟨mapSlots f st.vars,mapSlots f st.tmps,st.mem,st.nx⟩
theorem St.get_map{f:AV→AV}(hj:f .junk=.junk)(k:Nat):(st.map f).get fr k=f (st.get fr k):=by
 unfold St.get St.map;split
 ·exact alook_map hj _ k
 ·exact alook_map hj _ k
theorem Imm.deep{σ:AV→AV}{v:Value}{y:AV}(h:Imm F w v y)(hσ:∀v y,Imm F w v y→RV G F M w v (σ y)):RV G F M w v (y.deep σ):=by
 induction h with
 | ag vs cs hl _ ih=>exact .ag vs _ (by rw[deeps_eq];simpa using hl) fun i h1 h2=>by simp only[deeps_eq,List.getElem_map];exact ih i h1 _
 | tu vs cs hl _ ih=>exact .tu vs _ (by rw[deeps_eq];simpa using hl) fun i h1 h2=>by simp only[deeps_eq,List.getElem_map];exact ih i h1 _
 | ifc t v x _ ih=>exact .ifc t v _ ih
 | fn f vs cs hl _ ih=>exact .fn f vs _ (by rw[deeps_eq];simpa using hl) fun i h1 h2=>by simp only[deeps_eq,List.getElem_map];exact ih i h1 _
 | opt b v x _ h' ih=>exact .opt b v _ ih h'
 | sc v=>exact hσ _ _ (.sc v)
 | nil cap hc=>exact hσ _ _ (.nil cap hc)
 | sz a cap hc=>exact hσ _ _ (.sz a cap hc)
 | sl b off c esz es cap vs hc hcap hes hF hi _=>exact hσ _ _ (.sl b off c esz es cap vs hc hcap hes hF hi)
 | ia b off cs vs hF hi _=>exact hσ _ _ (.ia b off cs vs hF hi)
 | junk v=>exact hσ _ _ (.junk v)
theorem RV.deep{σ:AV→AV}{v:Value}{y:AV}(h:RV G F M w v y)(hσ:∀v y,RV G F M w v y→RV G F M w v (σ y)):RV G F M w v (y.deep σ):=by
 induction h with
 | imm h=>exact h.deep fun v y h=>hσ v y (.imm h)
 | ag vs cs hl _ ih=>exact .ag vs _ (by rw[deeps_eq];simpa using hl) fun i h1 h2=>by simp only[deeps_eq,List.getElem_map];exact ih i h1 _
 | tu vs cs hl _ ih=>exact .tu vs _ (by rw[deeps_eq];simpa using hl) fun i h1 h2=>by simp only[deeps_eq,List.getElem_map];exact ih i h1 _
 | ifc t v x _ ih=>exact .ifc t v _ ih
 | fn f vs cs hl _ ih=>exact .fn f vs _ (by rw[deeps_eq];simpa using hl) fun i h1 h2=>by simp only[deeps_eq,List.getElem_map];exact ih i h1 _
 | opt b v x _ h' ih=>exact .opt b v _ ih h'
 | rf id off b h=>exact hσ _ _ (.rf id off b h)
 | tl id len nl v hG h=>exact hσ _ _ (.tl id len nl v hG h)
 | tv id n off len cap v hG h=>exact hσ _ _ (.tv id n off len cap v hG h)
 | ea id n i off v hG h=>exact hσ _ _ (.ea id n i off v hG h)
 | mp id b h=>exact hσ _ _ (.mp id b h)
theorem SimA.map{f:AV→AV}(hj:f .junk=.junk)(hf:∀v y,RV G F st.mem w v y→RV G F st.mem w v (f y))(s:SimA P fr ds G F st a w):SimA P fr ds G F (st.map f) a w:=
 ⟨⟨s.sim.mem,fun k=>by rw[St.get_map hj];exact hf _ _ (s.sim.slots k),s.sim.size⟩,s.fresh,s.defers⟩
def St.frz(i:Nat)(st:St):Option St:=
 match mlook st.mem i with
 | some (.arr esz es _)=>if es.all AV.norefs=true then some ((⟨st.vars,st.tmps,mset st.mem i (.arr esz es true),st.nx⟩:St).map (AV.deep (snap (mset st.mem i (.arr esz es true)))))else none
 | _=>none
theorem SimA.frz{i:Nat}{st':St}(s:SimA P fr ds G F st a w)(h:st.frz i=some st'):∃F',SimA P fr ds G F' st' a w∧Step (·<fr.base) G F st.mem w G F' st'.mem w:=by
 unfold St.frz at h;split at h
 ·rename_i esz es fz ho;split at h
  ·rename_i hn;cases h;obtain⟨F',hm',S'⟩:=simM_frz s.sim.mem ho hn;refine⟨F',?_,S'.mono fun _ _=>trivial⟩;have s1:SimA P fr ds G F' ⟨st.vars,st.tmps,mset st.mem i (.arr esz es true),st.nx⟩ a w:=⟨⟨hm',fun k=>(s.sim.slots k).step S' (fun _ _=>trivial),s.sim.size⟩,s.fresh,s.defers⟩;exact s1.map rfl fun v y h=>h.deep fun v y h=>h.snap s1.sim.mem
  ·cases h
 ·cases h
theorem EvC.frz(i:Nat){st':St}(h:st.frz i=some st')(hc:EvC P fr ro ds c st' Q):EvC P fr ro ds c st Q:=
 EvC.conv (fun _ _ _ _ s=>let⟨F',s',S'⟩:=s.frz h;⟨_,F',s',S'⟩) hc
def St.fz(i:Nat)(st:St):Option St:=
 match mlook st.mem i with
 | some (.arr esz es _)=>if es.all AV.norefs=true then some ⟨st.vars,st.tmps,mset st.mem i (.arr esz es true),st.nx⟩else none
 | _=>none
theorem SimA.fz{i:Nat}{st':St}(s:SimA P fr ds G F st a w)(h:st.fz i=some st'):∃F',SimA P fr ds G F' st' a w∧Step (·<fr.base) G F st.mem w G F' st'.mem w:=by
 unfold St.fz at h;split at h
 ·rename_i esz es fz ho;split at h
  ·rename_i hn;cases h;obtain⟨F',hm',S'⟩:=simM_frz s.sim.mem ho hn;exact⟨F',⟨⟨hm',fun k=>(s.sim.slots k).step S' (fun _ _=>trivial),s.sim.size⟩,s.fresh,s.defers⟩,S'.mono fun _ _=>trivial⟩
  ·cases h
 ·cases h
theorem EvC.fz(i:Nat){st':St}(h:st.fz i=some st')(hc:EvC P fr ro ds c st' Q):EvC P fr ro ds c st Q:=
 EvC.conv (fun _ _ _ _ s=>let⟨F',s',S'⟩:=s.fz h;⟨_,F',s',S'⟩) hc
theorem XR.frz(i:Nat){st':St}(h:st.frz i=some st')(hc:XR P fr ro ds ops l st' Q):XR P fr ro ds ops l st Q:=
 fun _ _ _ _ _ _ _ _ S s=>let⟨_,s',S'⟩:=s.frz h;hc _ _ _ _ _ _ _ _ (S.trans S') s'
end
def rlook:List (Nat×Nat)→Nat→Option Nat
 | [],_=>none
 | (i,j)::K,k=>if k=i then some j else rlook K k
def blook:List (Nat×Nat)→Nat→Option Nat
 | [],_=>none
 | (i,j)::K,k=>if k=j then some i else blook K k
def renLeaf(K:List (Nat×Nat)):AV→AV
 | .rf i o=>match rlook K i with
   | some j=>.rf j o
   | none=>.junk
 | .tl i n b=>match rlook K i with
   | some j=>.tl j n b
   | none=>.junk
 | .tv i n off len cap=>match rlook K i with
   | some j=>.tv j n off len cap
   | none=>.junk
 | .ea i n k off=>match rlook K i with
   | some j=>.ea j n k off
   | none=>.junk
 | .mp i=>match rlook K i with
   | some j=>.mp j
   | none=>.junk
 | v=>v
def AV.ren(K:List (Nat×Nat))(x:AV):AV:=if x.noref=true then x else x.deep (renLeaf K)
def renCells(K:List (Nat×Nat))(cs:List AV):List AV:=if AV.norefs cs=true then cs else cs.map (AV.ren K)
def RObj.ren(K:List (Nat×Nat)):RObj→RObj
 | .cells cs=>.cells (renCells K cs)
 | .arr esz es fz=>if es.all AV.norefs=true then .arr esz es fz else .arr esz (es.map fun c=>c.map (AV.ren K)) fz
 | .map kt es=>if es.all (fun p=>p.2.noref)=true then .map kt es else .map kt (es.map fun p=>(p.1,p.2.ren K))
def renMem(M:Mem)(K:List (Nat×Nat)):List (Nat×Nat)→Mem
 | []=>[]
 | (i,j)::K'=>match mlook M i with
   | some o=>(j,o.ren K)::renMem M K K'
   | none=>renMem M K K'
def gcVars(K:List (Nat×Nat))(vars:List (Nat×AV)):List Nat→List (Nat×AV)
 | []=>[]
 | k::L=>(k,(alook vars k).ren K)::gcVars K vars L
def St.gc(L:List Nat)(K:List (Nat×Nat))(nx:Nat)(st:St):St:=⟨gcVars K st.vars L,[],renMem st.mem K K,nx⟩
def gcOk(base nx:Nat):List (Nat×Nat)→Bool
 | []=>decide (base≤nx)
 | (i,j)::K=>decide (j<nx)&&(decide (i=j)||(decide (base≤i)&&decide (base≤j)))&&(blook K j==none)&&(rlook K i==none)&&gcOk base nx K
section
variable {P:Program} {fr:Fr} {ro:Option Nat} {ds:DS} {st st':St} {Q Q':Exit→St→Prop} {G G':Nat→Option Value} {F F':Nat→Nat→Prop} {a:Act} {w w':World} {x y c:Code}
 {M:Mem} {ops:Array Oper} {l rest:List Oper} {o:Oper} {K:List (Nat×Nat)} {base nx:Nat}
theorem gcOk_base:∀{K:List (Nat×Nat)},gcOk base nx K=true→base≤nx
 | [],h=>by simpa[gcOk]using h
 | (i,j)::K,h=>by simp only[gcOk,Bool.and_eq_true]at h;exact gcOk_base h.2
theorem blook_mem:∀{K:List (Nat×Nat)} {i j:Nat},(i,j)∈K→blook K j≠none
 | (i',j')::K,i,j,h=>by
   simp only[blook];split
   ·simp
   ·rename_i hj;rcases List.mem_cons.1 h with h|h
    ·cases h;exact absurd rfl hj
    ·exact blook_mem h
theorem rlook_ne:∀{K:List (Nat×Nat)} {i j:Nat},(i,j)∈K→rlook K i≠none
 | (i',j')::K,i,j,h=>by
   simp only[rlook];split
   ·simp
   ·rename_i hj;rcases List.mem_cons.1 h with h|h
    ·cases h;exact absurd rfl hj
    ·exact rlook_ne h
theorem gcOk_mem:∀{K:List (Nat×Nat)},gcOk base nx K=true→∀i j,(i,j)∈K→j<nx∧(i=j∨(base≤i∧base≤j))∧blook K j=some i∧rlook K i=some j
 | (i',j')::K,h,i,j,hm=>by
   simp only[gcOk,Bool.and_eq_true,decide_eq_true_eq,Bool.or_eq_true,beq_iff_eq]at h;obtain⟨⟨⟨⟨h1,h2⟩,h3⟩,h3'⟩,h4⟩:=h;rcases List.mem_cons.1 hm with hm'|hm'
   ·cases hm';exact⟨h1,h2,by simp[blook],by simp[rlook]⟩
   ·obtain⟨h5,h6,h7,h8⟩:=gcOk_mem h4 i j hm';refine⟨h5,h6,?_,?_⟩
    ·simp only[blook];rw[if_neg (fun hj=>blook_mem hm' (by rw[hj];exact h3))];exact h7
    ·simp only[rlook];rw[if_neg (fun hj=>rlook_ne hm' (by rw[hj];exact h3'))];exact h8
theorem rlook_mem:∀{K:List (Nat×Nat)} {i j:Nat},rlook K i=some j→(i,j)∈K
 | (i',j')::K,i,j,h=>by
   simp only[rlook]at h;split at h
   ·rename_i hi;cases h;subst hi;exact List.mem_cons_self
   ·exact List.mem_cons_of_mem _ (rlook_mem h)
theorem blook_mem':∀{K:List (Nat×Nat)} {i j:Nat},blook K j=some i→(i,j)∈K
 | (i',j')::K,i,j,h=>by
   simp only[blook]at h;split at h
   ·rename_i hi;cases h;subst hi;exact List.mem_cons_self
   ·exact List.mem_cons_of_mem _ (blook_mem' h)
def gcG(base:Nat)(K:List (Nat×Nat))(G:Nat→Option Value)(j:Nat):Option Value:=
 if j<base then G j else match blook K j with
  | some i=>G i
  | none=>none
theorem gcG_ren(hk:gcOk base nx K=true){i j:Nat}(h:(i,j)∈K):gcG base K G j=G i:=by
 obtain⟨_,h2,h3,_⟩:=gcOk_mem hk i j h;unfold gcG;split
 ·rcases h2 with h2|⟨_,h2⟩
  ·rw[h2]
  ·omega
 ·rw[h3]
theorem renMem_look(hk:gcOk base nx K=true):∀{K':List (Nat×Nat)},(∀p∈K',p∈K)→∀{j:Nat} {o':RObj},mlook (renMem M K K') j=some o'→∃i o,(i,j)∈K∧mlook M i=some o∧o'=o.ren K
 | [],_,j,o',h=>by cases h
 | (i,j')::K',hs,j,o',h=>by
   simp only[renMem]at h;split at h
   ·rename_i o ho;simp only[mlook]at h;split at h
    ·rename_i hj;cases h;subst hj;exact⟨i,o,hs _ List.mem_cons_self,ho,rfl⟩
    ·exact renMem_look hk (fun p hp=>hs p (List.mem_cons_of_mem _ hp)) h
   ·exact renMem_look hk (fun p hp=>hs p (List.mem_cons_of_mem _ hp)) h
theorem arr_ren{esz:Nat}{es':List (List AV)}{fz:Bool}{o:RObj}(h:RObj.arr esz es' fz=o.ren K):∃es,o=.arr esz es fz∧es'.length=es.length:=by
 cases o with
 | cells cs=>cases h
 | arr e es f=>
   simp only[RObj.ren]at h;split at h
   ·cases h;exact⟨_,rfl,rfl⟩
   ·cases h;exact⟨_,rfl,by simp⟩
 | map kt es=>
   simp only[RObj.ren]at h;split at h<;>cases h
theorem leaf_rv(hk:gcOk base nx K=true){v:Value}{y:AV}(hl:(∃i o,y=.rf i o)∨(∃i n b,y=.tl i n b)∨(∃i n off len cap,y=.tv i n off len cap)∨(∃i n k off,y=.ea i n k off)∨∃i,y=.mp i)(h:RV G F M w v y):
  RV (gcG base K G) F (renMem M K K) w v (Avl.renLeaf K y):=by
 have arr:∀{i j esz es fz},(i,j)∈K→mlook (renMem M K K) j=some (.arr esz es fz)→∃es',mlook M i=some (.arr esz es' fz)∧es.length=es'.length:=by
  intro i j esz es fz hij ho;obtain⟨i',o,h1,h2,h3⟩:=renMem_look hk (fun _ h=>h) ho;have e1:=(gcOk_mem hk i j hij).2.2.1;have e2:=(gcOk_mem hk i' j h1).2.2.1;rw[e1]at e2;cases e2;obtain⟨es',rfl,h4⟩:=arr_ren h3;exact⟨es',h2,h4⟩
 rcases hl with⟨i,o,rfl⟩|⟨i,n,b,rfl⟩|⟨i,n,off,len,cap,rfl⟩|⟨i,n,k,off,rfl⟩|⟨i,rfl⟩
 ·simp only[Avl.renLeaf];split
  ·rename_i j hj;obtain⟨b,hG,rfl⟩:=h.inv_rf;exact .rf j o b (by rw[gcG_ren hk (rlook_mem hj)];exact hG)
  ·exact .imm (.junk _)
 ·simp only[Avl.renLeaf];split
  ·rename_i j hj;have hij:=rlook_mem hj;obtain⟨hG,hh⟩:=h.inv_tl;refine .tl j n b v (by rw[gcG_ren hk hij];exact hG) fun esz es fz ho=>?_;obtain⟨es',h1,h2⟩:=arr hij ho;rw[gcG_ren hk hij,h2];exact hh _ _ _ h1
  ·exact .imm (.junk _)
 ·simp only[Avl.renLeaf];split
  ·rename_i j hj;have hij:=rlook_mem hj;obtain⟨hG,hh⟩:=h.inv_tv;refine .tv j n off len cap v (by rw[gcG_ren hk hij];exact hG) fun esz es fz ho=>?_;obtain⟨es',h1,h2⟩:=arr hij ho;rw[gcG_ren hk hij,h2];exact hh _ _ _ h1
  ·exact .imm (.junk _)
 ·simp only[Avl.renLeaf];split
  ·rename_i j hj;have hij:=rlook_mem hj;obtain⟨hG,hh⟩:=h.inv_ea;refine .ea j n k off v (by rw[gcG_ren hk hij];exact hG) fun esz es fz ho=>?_;obtain⟨es',h1,h2⟩:=arr hij ho;rw[gcG_ren hk hij,h2];exact hh _ _ _ h1
  ·exact .imm (.junk _)
 ·simp only[Avl.renLeaf];split
  ·rename_i j hj;obtain⟨b,hG,rfl⟩:=h.inv_mp;exact .mp j b (by rw[gcG_ren hk (rlook_mem hj)];exact hG)
  ·exact .imm (.junk _)
theorem RV.deepRen(hk:gcOk base nx K=true){v:Value}{y:AV}(h:RV G F M w v y):RV (gcG base K G) F (renMem M K K) w v (y.deep (Avl.renLeaf K)):=by
 induction h with
 | imm h=>
  refine h.deep ?_;intro v y h;cases h with
  | sc v=>exact .imm (.sc v)
  | nil cap hc=>exact .imm (.nil cap hc)
  | sz a cap hc=>exact .imm (.sz a cap hc)
  | sl b off c esz es cap vs hc hcap hes hF hi=>exact .imm (.sl b off c esz es cap vs hc hcap hes hF hi)
  | ia b off cs vs hF hi=>exact .imm (.ia b off cs vs hF hi)
  | junk v=>exact .imm (.junk v)
  | ag vs cs hl h=>exact .imm (.ag vs cs hl h)
  | tu vs cs hl h=>exact .imm (.tu vs cs hl h)
  | ifc t v x h=>exact .imm (.ifc t v x h)
  | fn f vs cs hl h=>exact .imm (.fn f vs cs hl h)
  | opt b v x h h'=>exact .imm (.opt b v x h h')
 | ag vs cs hl _ ih=>exact .ag vs _ (by rw[deeps_eq];simpa using hl) fun i h1 h2=>by simp only[deeps_eq,List.getElem_map];exact ih i h1 _
 | tu vs cs hl _ ih=>exact .tu vs _ (by rw[deeps_eq];simpa using hl) fun i h1 h2=>by simp only[deeps_eq,List.getElem_map];exact ih i h1 _
 | ifc t v x _ ih=>exact .ifc t v _ ih
 | fn f vs cs hl _ ih=>exact .fn f vs _ (by rw[deeps_eq];simpa using hl) fun i h1 h2=>by simp only[deeps_eq,List.getElem_map];exact ih i h1 _
 | opt b v x _ h' ih=>exact .opt b v _ ih h'
 | rf id off b h=>exact leaf_rv hk (.inl ⟨_,_,rfl⟩) (.rf id off b h)
 | tl id len nl v hG h=>exact leaf_rv hk (.inr (.inl ⟨_,_,_,rfl⟩)) (.tl id len nl v hG h)
 | tv id n off len cap v hG h=>exact leaf_rv hk (.inr (.inr (.inl ⟨_,_,_,_,_,rfl⟩))) (.tv id n off len cap v hG h)
 | ea id n i off v hG h=>exact leaf_rv hk (.inr (.inr (.inr (.inl ⟨_,_,_,_,rfl⟩)))) (.ea id n i off v hG h)
 | mp id b h=>exact leaf_rv hk (.inr (.inr (.inr (.inr ⟨_,rfl⟩)))) (.mp id b h)
theorem RV.ren(hk:gcOk base nx K=true){v:Value}{y:AV}(h:RV G F M w v y):RV (gcG base K G) F (renMem M K K) w v (y.ren K):=by
 unfold AV.ren;split
 ·rename_i hn;exact .imm (h.imm_of hn)
 ·exact h.deepRen hk
theorem noref_keep{M':Mem}{v:Value}{y:AV}(h:RV G F M w v y)(hn:y.noref=true):RV G' F M' w v y:=.imm (h.imm_of hn)
theorem ren_norefs_len(cs:List AV):(renCells K cs).length=cs.length:=by unfold renCells;split<;>simp
theorem ObjOk.ren{i j:Nat}{o:RObj}(hk:gcOk base nx K=true)(hij:(i,j)∈K)(h:ObjOk P G F M w i o):ObjOk P (gcG base K G) F (renMem M K K) w j (o.ren K):=by
 have hg:=gcG_ren (G:=G) hk hij;cases o with
 | cells cs=>
   obtain⟨b,c,e,h1,h2,h3,h4,h5⟩:=h;refine⟨b,c,e,by rw[hg];exact h1,h2,by rw[ren_norefs_len];exact h3,fun k hk1 hk2=>?_,h5⟩;unfold renCells at hk2⊢;split
   ·rename_i hn;have:=h4 k hk1 (by rw[if_pos hn]at hk2;exact hk2);exact noref_keep this (norefs_get _ hn k _)
   ·simp only[List.getElem_map];exact(h4 k hk1 _).ren hk
 | arr esz es fz=>
   by_cases hn:es.all AV.norefs=true
   ·have e:(RObj.arr esz es fz).ren K=.arr esz es fz:=by simp only[RObj.ren,hn,if_true]
    rw[e];rcases h with⟨h0,base',h1,hsp⟩|⟨b,c,cc,e,h1,h2,h3,h4,h5,h6,h7,h8,h9⟩
    ·exact .inl ⟨h0,base',by rw[hg];exact h1,hsp⟩
    ·refine .inr ⟨b,c,cc,e,by rw[hg];exact h1,h2,h3,h4,h5,h6,fun k j hk hj=>?_,h8,h9⟩;obtain⟨v,h10,h11,h12⟩:=h7 k j hk hj;exact⟨v,h10,h11,noref_keep h12 (all_norefs hn k j hk hj)⟩
   ·have e:(RObj.arr esz es fz).ren K=.arr esz (es.map fun c=>c.map (AV.ren K)) fz:=by simp only[RObj.ren,hn];rfl
    rw[e];rcases h with⟨h0,base',h1,hsp⟩|⟨b,c,cc,e,h1,h2,h3,h4,h5,h6,h7,h8,h9⟩
    ·exact .inl ⟨by rw[h0];rfl,base',by rw[hg];exact h1,hsp⟩
    ·refine .inr ⟨b,c,cc,e,by rw[hg];simpa using h1,h2,h3,by simpa using h4,h5,fun k hk=>by simpa using h6 k (by simpa using hk),fun k j hk hj=>?_,by simpa using h8,fun hz=>?_⟩
     ·simp only[List.getElem_map,List.length_map]at hj hk⊢;obtain⟨v,h10,h11,h12⟩:=h7 k j hk hj;exact⟨v,h10,h11,h12.ren ‹_›⟩
     ·obtain⟨k1,k2⟩:=h9 hz;exfalso;refine hn ?_;rw[List.all_eq_true];intro c hc;obtain⟨n,hn1,rfl⟩:=List.getElem_of_mem hc;have:∀(l:List AV),(∀i (h:i<l.length),l[i].noref=true)→AV.norefs l=true:=by
       intro l
       induction l with
       | nil=>intro _;rfl
       | cons y ys ih=>intro hh;simp only[AV.norefs,Bool.and_eq_true];exact⟨hh 0 (by simp),ih fun i hi=>hh (i+1) (by simpa using hi)⟩
      exact this _ fun i hi=>k1 n i hn1 hi
 | map kt es=>
   obtain⟨b,ents,clock,h1,h2,h3,h4,h5⟩:=h;by_cases hn:es.all (fun p=>p.2.noref)=true
   ·have e:(RObj.map kt es).ren K=.map kt es:=by simp only[RObj.ren,hn,if_true]
    rw[e];refine⟨b,ents,clock,by rw[hg];exact h1,h2,h3,fun k hk1 hk2=>?_,h5⟩;obtain⟨h6,h7,h8⟩:=h4 k hk1 hk2;refine⟨h6,noref_keep h7 ?_,h8⟩;rw[List.all_eq_true]at hn;exact hn _ (List.getElem_mem hk2)
   ·have e:(RObj.map kt es).ren K=.map kt (es.map fun p=>(p.1,p.2.ren K)):=by simp only[RObj.ren,hn];rfl
    rw[e];refine⟨b,ents,clock,by rw[hg];exact h1,h2,⟨by simpa using h3.1,h3.2⟩,fun k hk1 hk2=>?_,h5⟩;simp only[List.getElem_map];simp only[List.length_map]at hk2;obtain⟨h6,h7,h8⟩:=h4 k hk1 hk2;exact⟨h6,h7.ren hk,h8⟩
theorem objKeep.ren(v:Value)(o:RObj):objKeep v v o (o.ren K):=by
 cases o with
 | cells cs=>exact rfl
 | arr esz es fz=>
   by_cases hn:es.all AV.norefs=true
   ·have e:(RObj.arr esz es fz).ren K=.arr esz es fz:=by simp only[RObj.ren,hn,if_true]
    rw[e];exact objKeep.refl _ _
   ·have e:(RObj.arr esz es fz).ren K=.arr esz (es.map fun c=>c.map (AV.ren K)) fz:=by simp only[RObj.ren,hn];rfl
    rw[e];exact⟨rfl,.inl ⟨by simp,rfl⟩⟩
 | map kt es=>
   by_cases hn:es.all (fun p=>p.2.noref)=true
   ·have e:(RObj.map kt es).ren K=.map kt es:=by simp only[RObj.ren,hn,if_true]
    rw[e];exact objKeep.refl _ _
   ·have e:(RObj.map kt es).ren K=.map kt (es.map fun p=>(p.1,p.2.ren K)):=by simp only[RObj.ren,hn];rfl
    rw[e];exact⟨rfl,rfl⟩
theorem alook_gc(vars:List (Nat×AV)):∀(L:List Nat) (k:Nat),alook (gcVars K vars L) k=.junk∨alook (gcVars K vars L) k=(alook vars k).ren K
 | [],_=>.inl rfl
 | j::L,k=>by
   simp only[gcVars,alook];split
   ·rename_i h;subst h;exact .inr rfl
   ·exact alook_gc vars L k
theorem SimA.gc{L:List Nat}(hk:gcOk fr.base nx K=true)(s:SimA P fr ds G F st a w):
  SimA P fr ds (gcG fr.base K G) F (st.gc L K nx) a w∧Step (·<fr.base) G F st.mem w (gcG fr.base K G) F (st.gc L K nx).mem w:=by
 refine⟨⟨⟨⟨fun id o h=>?_,fun id id' v v' b h1 h2 h3 h4 h5 h6=>?_,s.sim.mem.inF,s.sim.mem.gl⟩,fun k=>?_,s.sim.size⟩,fun j hj=>?_,s.defers⟩,?_⟩
 ·obtain⟨i,o',h1,h2,rfl⟩:=renMem_look hk (fun _ h=>h) h;exact⟨(gcOk_mem hk _ _ h1).1,(s.sim.mem.obj i o' h2).2.ren hk h1⟩
 ·obtain⟨o,h1⟩:=Option.ne_none_iff_exists'.1 h1;obtain⟨o',h2⟩:=Option.ne_none_iff_exists'.1 h2;obtain⟨i,p,k1,k2,_⟩:=renMem_look hk (fun _ h=>h) h1;obtain⟨i',p',l1,l2,_⟩:=renMem_look hk (fun _ h=>h) h2;rw[gcG_ren hk k1]at h3;rw[gcG_ren hk l1]at h4;have e:=s.sim.mem.inj i i' v v' b (by rw[k2];simp) (by rw[l2];simp) h3 h4 h5 h6;subst e;have e1:=(gcOk_mem hk _ _ k1).2.2.2;rw[(gcOk_mem hk _ _ l1).2.2.2]at e1;cases e1;rfl
 ·unfold St.get St.gc;split
  ·rename_i hg;have:=s.sim.slots k;unfold St.get at this;rw[if_pos hg]at this;rcases alook_gc (K:=K) st.vars L k with h|h
   ·simp only[h];exact .imm (.junk _)
   ·simp only[h];exact this.ren hk
  ·exact .imm (.junk _)
 ·unfold gcG;have hj:nx≤j:=hj;have hb:=gcOk_base hk;rw[if_neg (by omega)];split
  ·rename_i i hi;have:=(gcOk_mem hk _ _ (blook_mem' hi)).1;omega
  ·rfl
 ·exact
  { kept:=.refl
    size:=Nat.le_refl _
    out:=fun _ _ _=>rfl
    F1:=fun _ _ h=>h
    F2:=fun _ _ _=>rfl
    F3:=fun _ _ h=>.inl h
    own:=fun b ⟨id,o,v,h1,h2,h3⟩=>by
     obtain⟨i,p,k1,k2,_⟩:=renMem_look hk (fun _ h=>h) h1;rw[gcG_ren hk k1]at h2;exact .inr ⟨i,p,v,k2,h2,h3⟩
    some':=fun id hb h=>by unfold gcG;rw[if_pos hb];exact h
    same:=fun id v hb h _=>by unfold gcG;rw[if_pos hb];exact h
    keep:=fun id o' hb hG h=>by
     obtain⟨i,p,k1,k2,rfl⟩:=renMem_look hk (fun _ h=>h) h;obtain⟨v,hv⟩:=Option.ne_none_iff_exists'.1 hG;have hi:i=id:=by
      rcases(gcOk_mem hk _ _ k1).2.1 with h|⟨_,h⟩
      ·exact h
      ·have hb:id<fr.base:=hb;omega
     subst hi;exact⟨p,v,v,k2,hv,by unfold gcG;rw[if_pos hb];exact hv,objKeep.ren v p⟩ }
theorem EvC.gc(L:List Nat)(K:List (Nat×Nat))(nx:Nat)(hk:gcOk fr.base nx K=true)(h:EvC P fr ro ds c (st.gc L K nx) Q):EvC P fr ro ds c st Q:=
 EvC.conv (fun _ _ _ _ s=>⟨_,_,(s.gc hk).1,(s.gc hk).2⟩) h
theorem EvC.loopS{σ:Type}(sh:σ→St)(μ:σ→Nat)(inv:σ→Prop)(L:List Nat)(nx:Nat)
  (h0:∃K s,gcOk fr.base nx K=true∧st.gc L K nx=sh s∧inv s)
  (round:∀s,inv s→EvC P fr ro ds c (sh s) (thenE (fun st'=>∃K s',gcOk fr.base nx K=true∧st'.gc L K nx=sh s'∧inv s'∧μ s'<μ s) Q)):EvC P fr ro ds (.loop c) st Q:=by
 have h0':∃K s,gcOk fr.base nx K=true∧st.gc L K nx=sh s∧inv s:=h0;refine EvC.loop (fun st=>∃K s,gcOk fr.base nx K=true∧st.gc L K nx=sh s∧inv s) (fun st=>leastOf fun n=>∃K s,gcOk fr.base nx K=true∧st.gc L K nx=sh s∧inv s∧μ s=n) h0' ?_;rintro st ⟨K,s,h1,h2,h3⟩;obtain⟨K,s,h1,h2,h3,hn⟩:=leastOf_spec (p:=fun n=>∃K s,gcOk fr.base nx K=true∧st.gc L K nx=sh s∧inv s∧μ s=n) ⟨_,K,s,h1,h2,h3,rfl⟩;refine EvC.gc L K nx h1 ?_;rw[h2];refine(round s h3).mono fun e st' hq=>?_;cases e with
 | normal=>
   obtain⟨K',s',k1,k2,k3,k4⟩:=hq;refine⟨⟨K',s',k1,k2,k3⟩,?_⟩;have:=leastOf_le (p:=fun n=>∃K s,gcOk fr.base nx K=true∧st'.gc L K nx=sh s∧inv s∧μ s=n) ⟨K',s',k1,k2,k3,rfl⟩;rw[hn]at k4;exact Nat.lt_of_le_of_lt this k4
 | _=>exact hq
end
section
variable {P:Program} {fr:Fr} {ro:Option Nat} {ds:DS} {st st':St} {Q Q':Exit→St→Prop} {x y c:Code} {l rest:List Oper} {o:Oper} {ok:Bool} {id:Nat} {ops:Array Oper}
theorem EvC.clrQ(h:EvC P fr ro ds c st fun e s=>Q e s.clr):EvC P fr ro ds c st Q:=
 fun _ _ _ _ _ _ _ _ S s=>wpIn_mono (h _ _ _ _ _ _ _ _ S s) fun _ _ _ ⟨G',F',st',h1,h2,h3⟩=>⟨G',F',st'.clr,h1.clr,h2,h3⟩
theorem EvC.rg(h:xrun P fr l st.clr true=.done ok st')(hok:ok=true)(hq:Q .normal st'.clr):EvC P fr ro ds (.region id l.toArray false) st Q:=.clrQ (.region (.done h hok hq))
theorem EvC.rs(h:xrun P fr l st.clr true=.stop ok st' rest)(hok:ok=true)(hq:XR P fr ro ds l.toArray rest st' Q):EvC P fr ro ds (.region id l.toArray false) st Q:=.region (.run h hok hq)
end
theorem band_t(b:Bool):(true&&b)=b:=by cases b<;>decide
theorem band_t'(b:Bool):(b&&true)=b:=by cases b<;>decide
theorem band_f(b:Bool):(false&&b)=false:=by cases b<;>decide
theorem band_f'(b:Bool):(b&&false)=false:=by cases b<;>decide
theorem bor_t(b:Bool):(true||b)=true:=by cases b<;>decide
theorem bor_t'(b:Bool):(b||true)=true:=by cases b<;>decide
theorem bor_f(b:Bool):(false||b)=b:=by cases b<;>decide
theorem bor_f'(b:Bool):(b||false)=b:=by cases b<;>decide
def keyTest(ag:Bool)(ks:List Kd):Value→Bool
 | .agg cs=>ag&&matchKinds ks cs.toList
 | v=>!ag&&matchKinds ks [v]
theorem isKey_of{P:Program}{t:TypeId}{ks:List Kd}{ag:Bool}(h1:kindsOf P 8 t=some ks)(h2:(P.underlying t).map descAgg=some ag):isKey P t=keyTest ag ks:=by
 obtain⟨d,h3,h4⟩:=Option.map_eq_some_iff.1 h2;funext v;unfold isKey keyTest;rw[h1,h3,←h4];cases v<;>rfl
theorem isEmpty_app{α:Type}(a b:List α):(a++b).isEmpty=(a.isEmpty&&b.isEmpty):=by cases a<;>simp
attribute [go_sem] xrun St.eff xop St.put St.get Fr.isG alook aset mlook mset mdel od unopt opnd ofVal ofCell mkv acells awrite AV.noref AV.norefs AV.cell1 acell cellVal cellVals toVal eqCell eqCells eqVal elook eset
 intBin nilOf nilEf binEf zeroOf fillAV fillEs elemsOf snap tvCap tvEs viewOf cutV vEf sliceV appendN appendEf copyEf isShift ownSlot bound sliceEf dok gval gslot effG St.clr callArgs vars0 st0 resOne resAll mkRes retP AV.deep AV.deeps mapSlots St.map St.frz St.fz
 rlook blook renLeaf AV.ren renCells RObj.ren renMem gcVars St.gc gcOk matchKind matchKinds keyTest
attribute [go_sem] List.drop_zero List.drop_succ_cons List.take_succ_cons List.take_zero List.length_cons List.length_nil List.nil_append List.cons_append List.append_nil List.map_cons List.map_nil List.set_cons_zero List.set_cons_succ List.map_append List.all_append isEmpty_app List.isEmpty_cons List.isEmpty_nil List.length_append List.all_cons List.all_nil
 List.getElem?_cons_zero List.getElem?_cons_succ List.getElem?_nil List.replicate_succ List.replicate_zero Array.toList_map List.contains_cons List.contains_nil
 Nat.zero_add Nat.add_zero band_t band_t' band_f band_f' bor_t bor_t' bor_f bor_f' Bool.not_true Bool.not_false decide_true decide_false if_true if_false Bool.false_eq_true
 Option.map_some Option.map_none Option.isSome_some Option.bind_some Option.bind_none and_self and_true true_and or_true true_or or_false false_or not_true not_false_iff eq_self reduceIte
mutual
def AV.ids:AV→List Nat
 | .ag cs=>AV.idss cs
 | .tu cs=>AV.idss cs
 | .ifc _ v=>v.ids
 | .fn _ cs=>AV.idss cs
 | .opt _ v=>v.ids
 | .rf i _=>[i]
 | .tl i _ _=>[i]
 | .tv i _ _ _ _=>[i]
 | .ea i _ _ _=>[i]
 | .mp i=>[i]
 | _=>[]
def AV.idss:List AV→List Nat
 | []=>[]
 | c::cs=>c.ids++AV.idss cs
end
section
variable {P:Program} {fr:Fr} {st st':St} {M M':Mem} {x y:AV}
def Same(M' M:Mem)(l:List Nat):Prop:=∀i∈l,mlook M' i=mlook M i
theorem idss_mem:∀{cs:List AV} {c:AV} {i:Nat},c∈cs→i∈c.ids→i∈AV.idss cs
 | c'::cs,c,i,h,hi=>by
   simp only[AV.idss,List.mem_append];rcases List.mem_cons.1 h with h|h
   ·subst h;exact .inl hi
   ·exact .inr (idss_mem h hi)
theorem Same.of_mem{cs:List AV}(h:Same M' M (AV.idss cs)){c:AV}(hc:c∈cs):Same M' M c.ids:=fun i hi=>h i (idss_mem hc hi)
theorem acell_congr(h:Same M' M x.ids):acell M' x=acell M x:=by
 cases x<;>try rfl
 ·rename_i i n b;simp only[acell];rw[h i (by simp[AV.ids])]
 ·rename_i i n off len cap;simp only[acell];rw[h i (by simp[AV.ids])]
theorem viewOf_congr(h:Same M' M x.ids):viewOf M' x=viewOf M x:=by
 cases x<;>try rfl
 ·rename_i i n b;simp only[viewOf];rw[h i (by simp[AV.ids])]
 ·rename_i i n off len cap;simp only[viewOf];rw[h i (by simp[AV.ids])]
theorem snap_congr(h:Same M' M x.ids):snap M' x=snap M x:=by
 cases x<;>try rfl
 ·rename_i i n b;simp only[snap];rw[h i (by simp[AV.ids])]
 ·rename_i i n off len cap;simp only[snap];rw[h i (by simp[AV.ids])]
theorem elemsOf_congr(h:Same M' M x.ids):elemsOf M' x=elemsOf M x:=by
 cases x<;>try rfl
 ·rename_i i n b;simp only[elemsOf];rw[h i (by simp[AV.ids])]
 ·rename_i i n off len cap;simp only[elemsOf];rw[h i (by simp[AV.ids])]
theorem nilOf_congr(h:Same M' M x.ids):nilOf M' x=nilOf M x:=by
 cases x with
 | sc v=>
   cases v<;>try rfl
   rename_i p;cases p<;>rfl
 | tl i n b=>
   simp only[nilOf];rw[h i (by simp[AV.ids])]
 | tv i n off len cap=>
   simp only[nilOf];rw[h i (by simp[AV.ids])]
 | _=>rfl
theorem ids_acells:AV.idss (acells x)=x.ids:=by
 cases x<;>simp[acells,AV.ids,AV.idss]
theorem acells_congr(h:Same M' M x.ids):(acells x).all (acell M')=(acells x).all (acell M):=by
 have h:Same M' M (AV.idss (acells x)):=by rw[ids_acells];exact h
 generalize acells x=l at h
 induction l with
 | nil=>rfl
 | cons c cs ih=>
   simp only[List.all_cons];rw[acell_congr (h.of_mem List.mem_cons_self),ih fun i hi=>h i (by simp[AV.idss,hi])]
theorem ids_unopt{g:Bool}{i:Nat}(h:i∈(unopt g x).ids):i∈x.ids:=by
 unfold unopt at h;split at h
 ·split at h
  ·simpa[AV.ids]using h
  ·simp[AV.ids]at h
 ·exact h
theorem ids_snap{i:Nat}(h:i∈(snap M x).ids):i∈x.ids:=by
 unfold snap at h;split at h
 ·split at h
  ·split at h
   ·simp[AV.ids]at h
   ·exact h
  ·exact h
 ·split at h
  ·split at h
   ·simp[AV.ids]at h
   ·exact h
  ·exact h
 ·exact h
theorem fillAV_congr{place:Nat→Option (Nat×Nat)}:∀{ps:List (Nat×AV)} {cells:List AV},(∀p∈ps,Same M' M p.2.ids)→fillAV M' place cells ps=fillAV M place cells ps
 | [],_,_=>rfl
 | (i,v)::ps,cells,h=>by
   simp only[fillAV];rw[acells_congr (h _ List.mem_cons_self)];split
   ·rfl
   ·split
    ·exact fillAV_congr fun p hp=>h p (List.mem_cons_of_mem _ hp)
    ·rfl
theorem fillEs_congr{size:Nat}:∀{ps:List (Nat×AV)} {es:List (List AV)},(∀p∈ps,Same M' M p.2.ids)→fillEs M' size es ps=fillEs M size es ps
 | [],_,_=>rfl
 | (i,v)::ps,es,h=>by
   simp only[fillEs];rw[acells_congr (h _ List.mem_cons_self)];split
   ·exact fillEs_congr fun p hp=>h p (List.mem_cons_of_mem _ hp)
   ·rfl
theorem appendEf_congr{id:Nat}{own:Bool}{t:TypeId}{ys:List (List AV)}(h:Same M' M x.ids):appendEf P M' id own t x ys=appendEf P M id own t x ys:=by
 unfold appendEf;split
 ·rfl
 ·split
  ·rfl
  ·cases x with
   | sl nl es cap=>cases cap<;>rfl
   | tl i n b=>
     simp only;rw[h i (by simp[AV.ids])]
   | tv i n off len cap=>
     cases off with
     | succ k=>cases cap<;>rfl
     | zero=>
       cases cap<;>try rfl
       all_goals (simp only;rw[h i (by simp[AV.ids])])
   | _=>rfl
theorem viewOf_id{i esz n off len:Nat}{cap:Cp}(h:viewOf M x=some (i,esz,n,off,len,cap)):i∈x.ids:=by
 unfold viewOf at h;split at h
 ·split at h
  ·split at h
   ·cases h;simp[AV.ids]
   ·cases h
  ·cases h
 ·split at h
  ·split at h
   ·cases h;simp[AV.ids]
   ·cases h
  ·cases h
 ·cases h
theorem copyEf_congr{t:TypeId}{y:AV}(h:Same M' M x.ids)(h':Same M' M y.ids):copyEf P M' t x y=copyEf P M t x y:=by
 unfold copyEf;rw[viewOf_congr h,elemsOf_congr h'];split
 ·rfl
 ·split
  ·rename_i hv _;rw[h _ (viewOf_id hv)]
  ·rfl
def OpSame(fr:Fr)(st' st:St)(xs:List Operand):Prop:=∀x∈xs,opnd fr st' x=opnd fr st x∧Same st'.mem st.mem (opnd fr st x).ids
theorem OpSame.od{xs:List Operand}(h:OpSame fr st' st xs){x:Operand}(hx:x∈xs)(g:Bool):Avl.od fr st' g x=Avl.od fr st g x∧Same st'.mem st.mem (Avl.od fr st g x).ids:=by
 unfold Avl.od;exact⟨by rw[(h x hx).1],fun i hi=>(h x hx).2 i (ids_unopt hi)⟩
theorem xop_congr{g:Bool}{id:Nat}{o:Oper}(h:OpSame fr st' st o.op.operands.toList):xop P fr st' g id o=xop P fr st g id o:=by
 obtain⟨dst,op,ty,pos,after,guard⟩:=o;cases op with
 | move x=>simp only[xop];rw[(h.od (by simp[Op.operands]) g).1]
 | assign x=>
   have h1:=(h.od (x:=x) (by simp[Op.operands]) g).1;simp only[xop];split
   ·rfl
   ·rw[h1]
 | pick c a b=>
   have h1:=(h c (by simp[Op.operands])).1;have h2:=(h a (by simp[Op.operands])).1;have h3:=(h b (by simp[Op.operands])).1;simp only[xop];rw[h1,h2,h3]
 | alloc t=>rfl
 | box t x=>
   obtain⟨h1,h2⟩:=h.od (x:=x) (by simp[Op.operands]) g;simp only[xop];rw[h1,acells_congr h2]
 | build t parts=>
   have e:(parts.toList.map fun p=>(p.1,od fr st' g p.2))=parts.toList.map fun p=>(p.1,od fr st g p.2):=
    List.map_congr_left fun p hp=>by rw[(h.od (x:=p.2) (by simp only[Op.operands,List.mem_map];exact⟨p,hp,rfl⟩) g).1]
   simp only[xop];rw[e];split
   ·rw[fillAV_congr];intro p hp;obtain⟨q,hq,rfl⟩:=List.mem_map.1 hp;exact(h.od (x:=q.2) (by simp only[Op.operands,List.mem_map];exact⟨q,hq,rfl⟩) g).2
   ·rfl
 | buildSlice t n parts=>
   have e:(parts.toList.map fun p=>(p.1,snap st'.mem (od fr st' g p.2)))=parts.toList.map fun p=>(p.1,snap st.mem (od fr st g p.2)):=
    List.map_congr_left fun p hp=>by
     obtain⟨h1,h2⟩:=h.od (x:=p.2) (by simp only[Op.operands,List.mem_map];exact⟨p,hp,rfl⟩) g;rw[h1,snap_congr h2]
   simp only[xop];rw[e];split
   ·split
    ·rw[fillEs_congr];intro p hp;obtain⟨q,hq,rfl⟩:=List.mem_map.1 hp;exact fun i hi=>(h.od (x:=q.2) (by simp only[Op.operands,List.mem_map];exact⟨q,hq,rfl⟩) g).2 i (ids_snap hi)
    ·rfl
   ·rfl
 | load t x=>
   obtain⟨h1,h2⟩:=h.od (x:=x) (by simp[Op.operands]) g;simp only[xop];rw[h1];generalize od fr st g x=X at h2;split
   ·cases X<;>try rfl
    ·(try simp only);rw[h2 _ (by simp[AV.ids])]
    ·(try simp only);rw[h2 _ (by simp[AV.ids])]
   ·rfl
 | store t a x=>
   obtain⟨h1,h2⟩:=h.od (x:=a) (by simp[Op.operands]) g;obtain⟨h3,h4⟩:=h.od (x:=x) (by simp[Op.operands]) g;have h5:Same st'.mem st.mem (snap st.mem (od fr st g x)).ids:=fun i hi=>h4 i (ids_snap hi);simp only[xop];rw[h1,h3];rw[snap_congr h4,acells_congr h4,acells_congr h5];generalize od fr st g a=X at h2;split
   ·cases X<;>try rfl
    ·(try simp only);rw[h2 _ (by simp[AV.ids])]
    ·(try simp only);rw[h2 _ (by simp[AV.ids])]
   ·rfl
 | fieldAddr t x f=>
   obtain⟨h1,h2⟩:=h.od (x:=x) (by simp[Op.operands]) g;simp only[xop];rw[h1];generalize od fr st g x=X at h2;split
   ·cases X<;>try rfl
    (try simp only);rw[h2 _ (by simp[AV.ids])]
   ·rfl
 | nilCheck x=>
   obtain⟨h1,h2⟩:=h.od (x:=x) (by simp[Op.operands]) g;simp only[xop];rw[h1];generalize od fr st g x=X at h2;cases X<;>try rfl
   (try simp only);rw[h2 _ (by simp[AV.ids])]
 | field t x f=>simp only[xop];rw[(h.od (x:=x) (by simp[Op.operands]) g).1]
 | indexAddr t x ix=>
   obtain⟨h1,h2⟩:=h.od (x:=x) (by simp[Op.operands]) g;simp only[xop];rw[h1,(h.od (x:=ix) (by simp[Op.operands]) g).1];generalize od fr st g x=X at h2;split
   ·split
    ·split
     ·rfl
     ·cases X<;>try rfl
      all_goals ((try simp only);rw[h2 _ (by simp[AV.ids])])
    ·split
     ·split
      ·rfl
      ·cases X<;>try rfl
       (try simp only);rw[h2 _ (by simp[AV.ids])]
     ·rfl
   ·rfl
 | index t x ix=>simp only[xop];rw[(h.od (x:=x) (by simp[Op.operands]) g).1,(h.od (x:=ix) (by simp[Op.operands]) g).1]
 | binOp op t x y yt=>
   obtain⟨h1,h2⟩:=h.od (x:=x) (by simp[Op.operands]) g;obtain⟨h3,h4⟩:=h.od (x:=y) (by simp[Op.operands]) g;simp only[xop];rw[h1,h3,nilOf_congr h2,nilOf_congr h4]
 | unOp op t x=>simp only[xop];rw[(h.od (x:=x) (by simp[Op.operands]) g).1]
 | convert s d x=>simp only[xop];rw[(h.od (x:=x) (by simp[Op.operands]) g).1]
 | makeInterface t x=>simp only[xop];rw[(h.od (x:=x) (by simp[Op.operands]) g).1]
 | makeFunc fn first caps=>
   have e:caps.toList.map (od fr st' g)=caps.toList.map (od fr st g):=
    List.map_congr_left fun p hp=>(h.od (x:=p) (by simp[Op.operands];exact .inr (by simpa using hp)) g).1
   simp only[xop];rw[e]
 | makeMap t r=>
   simp only[xop];cases r with
   | none=>cases tmap P t<;>rfl
   | some x=>
     have h1:=(h.od (x:=x) (by simp[Op.operands]) g).1;cases tmap P t with
     | none=>rfl
     | some k=>simp only;rw[h1]
 | makeSlice t l c=>simp only[xop];rw[(h.od (x:=l) (by simp[Op.operands]) g).1,(h.od (x:=c) (by simp[Op.operands]) g).1]
 | slice t x a b c=>
   obtain⟨h1,h2⟩:=h.od (x:=x) (by simp[Op.operands]) g;have eo:∀(y:Option Operand),(∀z,y=some z→z∈(Op.slice t x a b c).operands.toList)→y.map (od fr st' g)=y.map (od fr st g):=by
    intro y hy;cases y with
    | none=>rfl
    | some z=>simp only[Option.map_some];rw[(h.od (hy z rfl) g).1]
   simp only[xop];rw[h1,snap_congr h2,viewOf_congr fun i hi=>h2 i (ids_snap hi),eo a (fun z hz=>by simp[Op.operands,hz]),eo b (fun z hz=>by simp[Op.operands,hz]),eo c (fun z hz=>by simp[Op.operands,hz])]
 | lookup t m k ok=>
   obtain⟨h1,h2⟩:=h.od (x:=m) (by simp[Op.operands]) g;simp only[xop];rw[h1,(h.od (x:=k) (by simp[Op.operands]) g).1];generalize od fr st g m=X at h2;rcases tmap P t with _|⟨kt,et⟩<;>try rfl
   rcases toVal (od fr st g k)with _|kv<;>try rfl
   cases X<;>try rfl
   simp only;rw[h2 _ (by simp[AV.ids])]
 | mapUpdate t m k x=>
   obtain⟨h1,h2⟩:=h.od (x:=m) (by simp[Op.operands]) g;simp only[xop];rw[h1,(h.od (x:=k) (by simp[Op.operands]) g).1,(h.od (x:=x) (by simp[Op.operands]) g).1];generalize od fr st g m=X at h2;rcases tmap P t with _|⟨kt,et⟩<;>try rfl
   rcases toVal (od fr st g k)with _|kv<;>try rfl
   cases X<;>try rfl
   simp only;rw[h2 _ (by simp[AV.ids])]
 | insert t m k x=>
   obtain⟨h1,h2⟩:=h.od (x:=m) (by simp[Op.operands]) g;simp only[xop];rw[h1,(h.od (x:=k) (by simp[Op.operands]) g).1,(h.od (x:=x) (by simp[Op.operands]) g).1];generalize od fr st g m=X at h2;rcases tmap P t with _|⟨kt,et⟩<;>try rfl
   rcases toVal (od fr st g k)with _|kv<;>try rfl
   cases X<;>try rfl
   simp only;rw[h2 _ (by simp[AV.ids])]
 | typeAssert x xt t ok=>simp only[xop];rw[(h.od (x:=x) (by simp[Op.operands]) g).1]
 | extract x i=>simp only[xop];rw[(h.od (x:=x) (by simp[Op.operands]) g).1]
 | call c=>
   obtain⟨callee,args,tys⟩:=c;obtain⟨args⟩:=args;obtain⟨tys⟩:=tys;have ha:∀x∈args,od fr st' g x=od fr st g x∧Same st'.mem st.mem (od fr st g x).ids:=fun x hx=>h.od (x:=x) (by simp[Op.operands,Call.operands,hx]) g;simp only[xop];split
   ·rename_i x t;obtain⟨h1,h2⟩:=ha x (by simp);rw[h1,elemsOf_congr h2];split
    ·rfl
    ·generalize od fr st g x=X at h2;cases X with
     | sc v=>cases v<;>rfl
     | mp i=>simp only;rw[h2 _ (by simp[AV.ids])]
     | _=>rfl
   ·rename_i x t;obtain⟨h1,h2⟩:=ha x (by simp);rw[h1];generalize od fr st g x=X at h2;cases telem P t with
    | none=>rfl
    | some e=>
      cases X with
      | sl nl es cp=>cases cp<;>rfl
      | tv i n off len cp=>
        cases cp<;>try rfl
        simp only;rw[h2 _ (by simp[AV.ids])]
      | _=>rfl
   ·rename_i x y t t';obtain⟨h1,h2⟩:=ha x (by simp);obtain⟨h3,h4⟩:=ha y (by simp);rw[h1,h3,elemsOf_congr h4];split
    ·exact appendEf_congr h2
    ·rfl
    ·rfl
   ·rename_i x y t t';obtain⟨h1,h2⟩:=ha x (by simp);obtain⟨h3,h4⟩:=ha y (by simp);rw[h1,h3,copyEf_congr h2 h4]
   ·rename_i x y t t';rw[(ha x (by simp)).1,(ha y (by simp)).1]
   ·rename_i x y t t';rw[(ha x (by simp)).1,(ha y (by simp)).1]
   ·rfl
 | _=>rfl
end
structure Rc where
 val:AV
 fx:Option (Nat×RObj)
def Rc.mem(r:Rc)(M:Mem):Mem:=match r.fx with
 | none=>M
 | some (i,o)=>mset M i o
def run1(fr:Fr)(d:Option Nat)(r:Rc)(st:St):St:=(⟨st.vars,st.tmps,r.mem st.mem,st.nx⟩:St).put fr d r.val
def look(fr:Fr)(st:St)(x:Nat):AV ⊕ Option RObj:=if x%2=0 then .inl (st.get fr (x/2))else .inr (mlook st.mem (x/2))
def wrt(d:Option Nat)(r:Rc)(x:Nat):Option (AV ⊕ Option RObj):=
 if x%2=0 then(if d=some (x/2)then some (.inl r.val)else none)
 else match r.fx with
  | some (j,o)=>if x/2=j then some (.inr (some o))else none
  | none=>none
def wl(d:Option Nat)(r:Rc):List Nat:=
 (match d with|some k=>[2*k]|none=>[])++match r.fx with
  | some (j,_)=>[2*j+1]
  | none=>[]
structure It where
 o:Oper
 r:Rc
 rd:List Nat
def foldS(fr:Fr)(S:Nat→Bool):Nat→List It→St→St
 | _,[],st=>st
 | i,t::l,st=>foldS fr S (i+1) l (if S i=true then run1 fr t.o.dst t.r st else st)
def lastW(S:Nat→Bool):Nat→List It→Nat→AV ⊕ Option RObj→AV ⊕ Option RObj
 | _,[],_,c=>c
 | i,t::l,x,c=>lastW S (i+1) l x (if S i=true then(wrt t.o.dst t.r x).getD c else c)
section
variable {P:Program} {fr:Fr} {ro:Option Nat} {ds:DS} {st st':St} {Q:Exit→St→Prop} {G G':Nat→Option Value} {F F':Nat→Nat→Prop} {a:Act} {w w':World}
 {M M':Mem} {ops:Array Oper} {o:Oper} {id N:Nat} {S S':Nat→Bool} {d:Option Nat} {r:Rc} {x y:Nat} {l:List It}
theorem mlook_rc(r:Rc)(M:Mem)(i:Nat):mlook (r.mem M) i=match r.fx with
  | some (j,o)=>if i=j then some o else mlook M i
  | none=>mlook M i:=by
 unfold Rc.mem;split
 ·rename_i h;rw[h]
 ·rename_i j o h;rw[h];simp only[mlook_mset]
theorem look_run1(x:Nat):look fr (run1 fr d r st) x=(wrt d r x).getD (look fr st x):=by
 unfold look wrt run1;split
 ·cases d with
  | none=>simp[St.put,St.get]
  | some k=>
    rw[St.get_put];by_cases h:x/2=k
    ·rw[if_pos h,if_pos (by rw[h])];rfl
    ·rw[if_neg h,if_neg (by simpa using fun e=>h e.symm)];rfl
 ·rw[St.put_mem,mlook_rc];cases hf:r.fx with
  | none=>rfl
  | some p=>
    obtain⟨j,o⟩:=p;simp only;by_cases h:x/2=j
    ·rw[if_pos h,if_pos h];rfl
    ·rw[if_neg h,if_neg h];rfl
theorem wrt_wl:(wrt d r x).isSome=true→x∈wl d r:=by
 unfold wrt wl;split
 ·rename_i h;split
  ·rename_i hd;subst hd;intro _;simp;omega
  ·simp
 ·rename_i h;cases hf:r.fx with
  | none=>simp
  | some p=>
    obtain⟨j,o⟩:=p;simp only;split
    ·rename_i hj;subst hj;intro _;simp;omega
    ·simp
theorem look_foldS(x:Nat):∀(l:List It) (i:Nat) (st:St),look fr (foldS fr S i l st) x=lastW S i l x (look fr st x)
 | [],_,_=>rfl
 | t::l,i,st=>by
   simp only[foldS,lastW];rw[look_foldS x l];split
   ·rw[look_run1]
   ·rfl
theorem lastW_agree:∀(l:List It) (i:Nat) (c:AV ⊕ Option RObj),(∀m t,l[m]?=some t→(wrt t.o.dst t.r x).isSome=true→S (i+m)=S' (i+m))→lastW S i l x c=lastW S' i l x c
 | [],_,_,_=>rfl
 | t::l,i,c,h=>by
   simp only[lastW];have e:(if S i=true then(wrt t.o.dst t.r x).getD c else c)=if S' i=true then(wrt t.o.dst t.r x).getD c else c:=by
    cases hw:wrt t.o.dst t.r x with
    | none=>simp
    | some v=>
      have h0:=h 0 t rfl (by rw[hw];rfl);rw[Nat.add_zero]at h0;rw[h0]
   rw[e];exact lastW_agree l (i+1) _ fun m t' hm hw=>by
    have:=h (m+1) t' hm hw
    rwa[show i+1+m=i+(m+1) by omega]
theorem lastW_keep(v:AV ⊕ Option RObj):∀(l:List It) (i:Nat),(∀m t,l[m]?=some t→S (i+m)=true→wrt t.o.dst t.r x=none)→lastW S i l x v=v
 | [],_,_=>rfl
 | t::l,i,h=>by
   simp only[lastW];have e:(if S i=true then(wrt t.o.dst t.r x).getD v else v)=v:=by
    split
    ·rename_i hs;rw[h 0 t rfl hs];rfl
    ·rfl
   rw[e];exact lastW_keep v l (i+1) fun m t' hm hw=>h (m+1) t' hm (by rwa[show i+(m+1)=i+1+m by omega])
theorem lastW_is(v:AV ⊕ Option RObj)(t0:It)(hv:wrt t0.o.dst t0.r x=some v):∀(l:List It) (i m0:Nat) (c:AV ⊕ Option RObj),l[m0]?=some t0→S (i+m0)=true→
  (∀m t,m0<m→l[m]?=some t→S (i+m)=true→wrt t.o.dst t.r x=none)→lastW S i l x c=v:=by
 intro l
 induction l with
 | nil=>intro i m0 c ht;simp at ht
 | cons t l ih=>
   intro i m0 c ht hs h;simp only[lastW];cases m0 with
   | zero=>
     have e:t=t0:=by simpa using ht
     subst e;rw[Nat.add_zero]at hs;rw[if_pos hs,hv];refine lastW_keep v l (i+1) fun m t' hm hw=>h (m+1) t' (by omega) (by simpa using hm) ?_;rw[show i+(m+1)=i+1+m by omega];exact hw
   | succ m0=>
     refine ih (i+1) m0 _ (by simpa using ht) (by rw[show i+1+m0=i+(m0+1) by omega];exact hs) fun m t' hlt hm hw=>h (m+1) t' (by omega) (by simpa using hm) ?_;rw[show i+(m+1)=i+1+m by omega];exact hw
def addS(S:Nat→Bool)(i:Nat):Nat→Bool:=fun j=>S j||decide (j=i)
theorem foldS_add{i:Nat}{t:It}(hi:l[i]?=some t)(hS:S i=false)(hc:∀m u,l[m]?=some u→i<m→S m=true→∀x,(wrt t.o.dst t.r x).isSome=true→wrt u.o.dst u.r x=none)(x:Nat):
  look fr (foldS fr (addS S i) 0 l st) x=look fr (run1 fr t.o.dst t.r (foldS fr S 0 l st)) x:=by
 rw[look_foldS,look_run1,look_foldS];cases hw:wrt t.o.dst t.r x with
 | none=>
   exact lastW_agree l 0 _ fun m u hm hu=>by
    simp only[Nat.zero_add,addS];by_cases h:m=i
    ·subst h;rw[hi]at hm;cases hm;rw[hw]at hu;cases hu
    ·simp[h]
 | some v=>
   refine lastW_is v t hw l 0 i _ hi (by simp[addS]) fun m u hlt hm hs=>?_;refine hc m u hm hlt ?_ x (by rw[hw];rfl);simp only[addS,Nat.zero_add,Bool.or_eq_true,decide_eq_true_eq]at hs;rcases hs with hs|hs
   ·exact hs
   ·omega
theorem look_get{st st':St}(h:∀x,look fr st x=look fr st' x)(k:Nat):st.get fr k=st'.get fr k:=by
 have:=h (2*k);unfold look at this;rw[if_pos (by omega),if_pos (by omega)]at this;simpa[show 2*k/2=k by omega]using this
theorem look_mem{st st':St}(h:∀x,look fr st x=look fr st' x)(i:Nat):mlook st.mem i=mlook st'.mem i:=by
 have:=h (2*i+1);unfold look at this;rw[if_neg (by omega),if_neg (by omega)]at this;simpa[show(2*i+1)/2=i by omega]using this
theorem RV.ext{v:Value}{y:AV}(h:RV G F M w v y)(e:∀i,mlook M' i=mlook M i):RV G F M' w v y:=by
 induction h with
 | imm h=>exact .imm h
 | ag vs cs hl _ ih=>exact .ag vs cs hl ih
 | tu vs cs hl _ ih=>exact .tu vs cs hl ih
 | ifc t v x _ ih=>exact .ifc t v x ih
 | fn f vs cs hl _ ih=>exact .fn f vs cs hl ih
 | opt b v x _ h' ih=>exact .opt b v x ih h'
 | rf id off b h=>exact .rf id off b h
 | tl id len nl v hG h=>exact .tl id len nl v hG fun esz es fz ho=>h esz es fz (by rw[←e];exact ho)
 | tv id n off len cap v hG h=>exact .tv id n off len cap v hG fun esz es fz ho=>h esz es fz (by rw[←e];exact ho)
 | ea id n i off v hG h=>exact .ea id n i off v hG fun esz es fz ho=>h esz es fz (by rw[←e];exact ho)
 | mp id b h=>exact .mp id b h
theorem ObjOk.ext{ob:RObj}(h:ObjOk P G F M w id ob)(e:∀i,mlook M' i=mlook M i):ObjOk P G F M' w id ob:=by
 cases ob with
 | cells cs=>
   obtain⟨b,c,el,h1,h2,h3,h4,h5⟩:=h;exact⟨b,c,el,h1,h2,h3,fun i hi hj=>(h4 i hi hj).ext e,h5⟩
 | arr esz es fz=>
   rcases h with h|⟨b,c,cc,el,h1,h2,h3,h4,h5,h6,h7,h8,h9⟩
   ·exact .inl h
   ·exact .inr ⟨b,c,cc,el,h1,h2,h3,h4,h5,h6,fun i j hi hj=>let⟨v,k1,k2,k3⟩:=h7 i j hi hj;⟨v,k1,k2,k3.ext e⟩,h8,h9⟩
 | map kt es=>
   obtain⟨b,ents,clock,h1,h2,h3,h4,h5⟩:=h;exact⟨b,ents,clock,h1,h2,h3,fun i hi hj=>⟨(h4 i hi hj).1,(h4 i hi hj).2.1.ext e,(h4 i hi hj).2.2⟩,h5⟩
theorem SimM.ext(h:SimM P G F M N w)(e:∀i,mlook M' i=mlook M i):SimM P G F M' N w:=
 ⟨fun id o ho=>⟨(h.obj id o (by rw[←e];exact ho)).1,(h.obj id o (by rw[←e];exact ho)).2.ext e⟩,fun id id' v v' b h1 h2=>h.inj id id' v v' b (by rw[←e];exact h1) (by rw[←e];exact h2),h.inF,h.gl⟩
theorem Owned.ext{b:Nat}(h:Owned G M b)(e:∀i,mlook M' i=mlook M i):Owned G M' b:=let⟨id,o,v,h1,h2,h3⟩:=h;⟨id,o,v,by rw[e];exact h1,h2,h3⟩
theorem Step.ext{B:Nat→Prop}(h:Step B G F M w G' F' M' w'){M'':Mem}(e:∀i,mlook M'' i=mlook M' i):Step B G F M w G' F' M'' w':=
 { kept:=h.kept,size:=h.size,out:=h.out,F1:=h.F1,F2:=h.F2,F3:=h.F3
   own:=fun b hb=>h.own b (hb.ext fun i=>(e i).symm)
   some':=h.some',same:=h.same
   keep:=fun id o' hb hG ho=>h.keep id o' hb hG (by rw[←e];exact ho) }
structure SimD (P:Program) (fr:Fr) (ds:DS) (G:Nat→Option Value) (F:Nat→Nat→Prop) (st:St) (N:Nat) (a:Act) (w:World):Prop where
 mem:SimM P G F st.mem N w
 slots:∀k,RV G F st.mem w (a.tmps.getD k undef) (st.get fr k)
 size:a.tmps.size=fr.sz
 defers:Marks ds a.defers w
theorem SimD.ext(h:SimD P fr ds G F st N a w)(e:∀x,look fr st' x=look fr st x):SimD P fr ds G F st' N a w:=
 ⟨h.mem.ext (look_mem e),fun k=>by rw[look_get e];exact(h.slots k).ext (look_mem e),h.size,h.defers⟩
def OpIs(P:Program)(fr:Fr)(ro:Option Nat)(ds:DS)(ops:Array Oper)(id:Nat)(st:St)(t:It):Prop:=
 ∀(st':St) G F a w N (K:Act→World→Prop) (Q1:Exit→Act→World→Prop),SimD P fr ds G F st' N a w→id<N→G id=none→(∀x∈t.rd,look fr st' x=look fr st x)→
  (∀G' F' a' w',SimD P fr ds G' F' (run1 fr t.o.dst t.r st') N a' w'→Step All G F st'.mem w G' F' (run1 fr t.o.dst t.r st').mem w'→(∀j,j≠id→G j=none→G' j=none)→K a' w')→
  if Region.wanted t.o (yielded ops a.tmps)=true then t.o.wpIn (fc ro) 0 P a w K Q1 else(∀f,t.o.about P w a.eval=some f→(fc ro).fn f)∧K (a.put t.o.dst undef) w
inductive Tr (P:Program) (fr:Fr) (ro:Option Nat) (ds:DS) (ops:Array Oper):Nat→List Oper→St→List It→St→Prop
 | nil (id:Nat) (st:St):Tr P fr ro ds ops id [] st [] st
 | cons {id:Nat} {o:Oper} {rest:List Oper} {st st':St} {r:Rc} {rd:List Nat} {l:List It} (h:OpIs P fr ro ds ops id st ⟨o,r,rd⟩) (t:Tr P fr ro ds ops (id+1) rest (run1 fr o.dst r st) l st'):
  Tr P fr ro ds ops id (o::rest) st (⟨o,r,rd⟩::l) st'
theorem Tr.spec:∀{rest:List Oper} {id:Nat} {st st':St} {l:List It},Tr P fr ro ds ops id rest st l st'→
  l.map (·.o)=rest∧(∀i t,l[i]?=some t→OpIs P fr ro ds ops (id+i) (foldS fr (fun j=>decide (j<i)) 0 l st) t)∧st'=foldS fr (fun _=>true) 0 l st:=by
 intro rest id st st' l h;have key:∀{rest:List Oper} {id:Nat} {st st':St} {l:List It},Tr P fr ro ds ops id rest st l st'→∀n,
   l.map (·.o)=rest∧(∀i t,l[i]?=some t→OpIs P fr ro ds ops (id+i) (foldS fr (fun j=>decide (j<n+i)) n l st) t)∧st'=foldS fr (fun _=>true) n l st:=by
  intro rest id st st' l h
  induction h with
  | nil id st=>intro n;exact⟨rfl,fun i t h=>by simp at h,rfl⟩
  | cons h t ih=>
    rename_i id o rest st st' r rd l;intro n;obtain⟨h1,h2,h3⟩:=ih (n+1);refine⟨by simp[h1],fun i t' ht=>?_,by simp only[foldS,if_true];exact h3⟩;cases i with
    | zero=>
      cases ht;have e:foldS fr (fun j=>decide (j<n+0)) n (⟨o,r,rd⟩::l) st=st:=by
       have:∀(l:List It) (m:Nat) (st:St),n≤m→foldS fr (fun j=>decide (j<n+0)) m l st=st:=by
        intro l
        induction l with
        | nil=>intro m st _;rfl
        | cons u l ih=>intro m st hm;simp only[foldS];rw[if_neg (by simp;omega)];exact ih _ _ (by omega)
       exact this _ _ _ (Nat.le_refl _)
      rw[e];exact h
    | succ i=>
      have:=h2 i t' (by simpa using ht);simp only[foldS];rw[if_pos (by simp)];rw[show id+(i+1)=id+1+i by omega,show n+(i+1)=n+1+i by omega];exact this
 have:=key h 0;simpa using this
end
def depsOf(o:Oper):List Nat:=(o.after.toList.filter fun e=>Region.binds .any e).map (·.on)
structure Conf (l:List It):Prop where
 back:∀i t,l[i]?=some t→∀e∈depsOf t.o,e<i
 edge:∀i m t u,l[i]?=some t→l[m]?=some u→i≠m→∀x,(x∈t.rd∨x∈wl t.o.dst t.r)→x∈wl u.o.dst u.r→m∈depsOf t.o∨i∈depsOf u.o
def confOne(i:Nat)(t:It):Nat→List It→Bool
 | _,[]=>true
 | m,u::l=>(i==m||!((t.rd++wl t.o.dst t.r).any fun x=>(wl u.o.dst u.r).contains x)||(depsOf t.o).contains m||(depsOf u.o).contains i)&&confOne i t (m+1) l
def confAll(all:List It):Nat→List It→Bool
 | _,[]=>true
 | i,t::l=>(depsOf t.o).all (fun e=>decide (e<i))&&confOne i t 0 all&&confAll all (i+1) l
section
variable {P:Program} {fr:Fr} {ro:Option Nat} {ds:DS} {st st':St} {Q:Exit→St→Prop} {G G':Nat→Option Value} {F F':Nat→Nat→Prop} {a:Act} {w w':World}
 {M M':Mem} {ops:Array Oper} {o:Oper} {id N:Nat} {S S':Nat→Bool} {d:Option Nat} {r:Rc} {x y:Nat} {l:List It}
theorem confOne_spec{i:Nat}{t:It}:∀(l:List It) (m0:Nat),confOne i t m0 l=true→∀m u,l[m]?=some u→i≠m0+m→∀x,(x∈t.rd∨x∈wl t.o.dst t.r)→x∈wl u.o.dst u.r→m0+m∈depsOf t.o∨i∈depsOf u.o:=by
 intro l
 induction l with
 | nil=>intro m0 _ m u hm;simp at hm
 | cons u0 l ih=>
   intro m0 h m u hm hne x hx hu;simp only[confOne,Bool.and_eq_true]at h;cases m with
   | zero=>
     have e:u0=u:=by simpa using hm
     subst e;have h1:=h.1;simp only[Bool.or_eq_true,beq_iff_eq,Bool.not_eq_true',List.contains_iff_mem]at h1;rcases h1 with((h1|h1)|h1)|h1
     ·exact absurd h1 (by simpa using hne)
     ·rw[List.any_eq_false]at h1;exact absurd (by simpa using hu) (h1 x (List.mem_append.2 hx))
     ·exact .inl h1
     ·exact .inr h1
   | succ m=>
     have:=ih (m0+1) h.2 m u (by simpa using hm) (by omega) x hx hu
     rwa[show m0+1+m=m0+(m+1) by omega]at this
theorem confAll_spec{all:List It}:∀(l:List It) (i0:Nat),confAll all i0 l=true→∀i t,l[i]?=some t→(∀e∈depsOf t.o,e<i0+i)∧confOne (i0+i) t 0 all=true:=by
 intro l
 induction l with
 | nil=>intro i0 _ i t ht;simp at ht
 | cons t0 l ih=>
   intro i0 h i t ht;simp only[confAll,Bool.and_eq_true,List.all_eq_true,decide_eq_true_eq]at h;cases i with
   | zero=>
     have e:t0=t:=by simpa using ht
     subst e;exact⟨h.1.1,h.1.2⟩
   | succ i=>
     have:=ih (i0+1) h.2 i t (by simpa using ht)
     rwa[show i0+1+i=i0+(i+1) by omega]at this
theorem Conf.of(h:confAll l 0 l=true):Conf l where
 back:=fun i t ht=>by simpa using (confAll_spec l 0 h i t ht).1
 edge:=fun i m t u ht hu hne x hx hxu=>by
  have:=confOne_spec l 0 (by simpa using (confAll_spec l 0 h i t ht).2) m u hu (by simpa using hne) x hx hxu;simpa using this
theorem foldS_congr:∀{l:List It} {i:Nat} {st:St},(∀m,m<l.length→S (i+m)=S' (i+m))→foldS fr S i l st=foldS fr S' i l st
 | [],_,_,_=>rfl
 | t::l,i,st,h=>by
   have h0:=h 0 (by simp);rw[Nat.add_zero]at h0;simp only[foldS];rw[h0];exact foldS_congr fun m hm=>by
    have:=h (m+1) (by simp;omega)
    rwa[show i+1+m=i+(m+1) by omega]
def inS(listed:Array Bool)(i:Nat):Bool:=listed.getD i false
theorem countP_less{p q:Nat→Bool}{n i:Nat}(hi:i<n)(hp:p i=true)(hq:q i=false)(h:∀j,q j=true→p j=true):(List.range n).countP q<(List.range n).countP p:=by
 induction n with
 | zero=>omega
 | succ n ih=>
   rw[List.range_succ,List.countP_append,List.countP_append];have mono:∀n,(List.range n).countP q≤(List.range n).countP p:=fun n=>List.countP_mono_left fun j _ hj=>h j hj;by_cases he:i=n
   ·subst he;have:=mono i;simp only[List.countP_cons,List.countP_nil,hp,hq];simp;omega
   ·have:=ih (by omega);have hn:(if q n=true then 1 else 0)≤(if p n=true then 1 else 0):=by
     by_cases hqn:q n=true
     ·simp[hqn,h n hqn]
     ·simp[hqn]
    simp only[List.countP_cons,List.countP_nil,Nat.zero_add];omega
theorem drawAny{nx:Nat}{l:List It}{st:St}{G0:Nat→Option Value}{F0:Nat→Nat→Prop}{M0:Mem}{w0:World}(hops:∀i:Nat,(ops[i]?:Option Oper)=(l[i]?).map fun t=>t.o)(hn:ops.size=l.length)(hc:Conf l)
  (his:∀i t,l[i]?=some t→OpIs P fr ro ds ops (nx+i) (foldS fr (fun j=>decide (j<i)) 0 l st) t)
  (hQ:∀G F a w,SimD P fr ds G F (foldS fr (fun _=>true) 0 l st) (nx+l.length) a w→(∀j,nx+l.length≤j→G j=none)→Step (·<fr.base) G0 F0 M0 w0 G F (foldS fr (fun _=>true) 0 l st).mem w→Post P fr ds G0 F0 M0 w0 Q .normal a w):
  ∀(fuel:Nat) (listed:Array Bool) (G:Nat→Option Value) (F:Nat→Nat→Prop) (a:Act) (w:World),listed.size=l.length→
   SimD P fr ds G F (foldS fr (inS listed) 0 l st) (nx+l.length) a w→Step (·<fr.base) G0 F0 M0 w0 G F (foldS fr (inS listed) 0 l st).mem w→
   (∀j,nx≤j→(∀i,i<l.length→inS listed i=true→j≠nx+i)→G j=none)→
   (∀i t,l[i]?=some t→inS listed i=true→∀e∈depsOf t.o,inS listed e=true)→
   (List.range l.length).countP (fun i=>!inS listed i)≤fuel→
   wpAnyIn (fc ro) 0 P .any ops (Post P fr ds G0 F0 M0 w0 Q) fuel listed a w:=by
 have allDone:∀(listed:Array Bool) (G:Nat→Option Value) (F:Nat→Nat→Prop) (a:Act) (w:World),SimD P fr ds G F (foldS fr (inS listed) 0 l st) (nx+l.length) a w→Step (·<fr.base) G0 F0 M0 w0 G F (foldS fr (inS listed) 0 l st).mem w→
   (∀j,nx≤j→(∀i,i<l.length→inS listed i=true→j≠nx+i)→G j=none)→(∀i,i<l.length→inS listed i=true)→Post P fr ds G0 F0 M0 w0 Q .normal a w:=by
  intro listed G F a w s S hfr hall;have e:foldS fr (inS listed) 0 l st=foldS fr (fun _=>true) 0 l st:=foldS_congr fun m hm=>by rw[Nat.zero_add];exact hall m hm
  rw[e]at s S;exact hQ G F a w s (fun j hj=>hfr j (by omega) fun i hi _=>by omega) S
 have readyOf:∀(listed:Array Bool),listed.size=l.length→∀i,i∈Region.ready .any ops listed↔inS listed i=false∧∃t,l[i]?=some t∧∀e∈depsOf t.o,inS listed e=true:=by
  intro listed hsz i;rw[mem_ready];constructor
  ·rintro⟨h1,o,ho,h2⟩;rw[hops]at ho;obtain⟨t,ht,rfl⟩:=Option.map_eq_some_iff.1 ho;have hi:i<l.length:=(List.getElem?_eq_some_iff.1 ht).1;refine⟨?_,t,ht,fun e he=>?_⟩
   ·unfold inS;rw[Array.getD_eq_getD_getElem?]at h1⊢;rw[Array.getElem?_eq_getElem (by omega)]at h1⊢;exact h1
   ·simp only[depsOf,List.mem_map,List.mem_filter]at he;obtain⟨e',⟨he1,he2⟩,rfl⟩:=he;exact h2 e' (by simpa using he1) he2
  ·rintro⟨h1,t,ht,h2⟩;have hi:i<l.length:=(List.getElem?_eq_some_iff.1 ht).1;refine⟨?_,t.o,by rw[hops,ht];rfl,fun e he hb=>h2 e.on ?_⟩
   ·unfold inS at h1;rw[Array.getD_eq_getD_getElem?]at h1⊢;rw[Array.getElem?_eq_getElem (by omega)]at h1⊢;exact h1
   ·simp only[depsOf,List.mem_map,List.mem_filter];exact⟨e,⟨by simpa using he,hb⟩,rfl⟩
 have noneReady:∀(listed:Array Bool),listed.size=l.length→Region.ready .any ops listed=[]→∀i,i<l.length→inS listed i=true:=by
  intro listed hsz hr i
  induction i using Nat.strongRecOn with
  | _ i ih=>
    intro hi;cases hs:inS listed i with
    | true=>rfl
    | false=>
      have:i∈Region.ready .any ops listed:=(readyOf listed hsz i).2 ⟨hs,l[i],List.getElem?_eq_getElem hi,fun e he=>by
       have:=hc.back i l[i] (List.getElem?_eq_getElem hi) e he;exact ih e this (by omega)⟩
      rw[hr]at this;cases this
 intro fuel
 induction fuel with
 | zero=>
   intro listed G F a w hsz s S hfr hcl hcount;have hall:∀i,i<l.length→inS listed i=true:=by
    intro i hi;have h0:(List.range l.length).countP (fun i=>!inS listed i)=0:=by omega
    rw[List.countP_eq_zero]at h0;have:=h0 i (by simpa using hi);simpa using this
   refine⟨?_,allDone listed G F a w s S hfr hall⟩;cases hr:Region.ready .any ops listed with
   | nil=>rfl
   | cons i rs=>
     have:=(readyOf listed hsz i).1 (by rw[hr];exact List.mem_cons_self);obtain⟨h1,t,ht,_⟩:=this;rw[hall i (List.getElem?_eq_some_iff.1 ht).1]at h1;cases h1
 | succ fuel ih=>
   intro listed G F a w hsz s S hfr hcl hcount;refine⟨fun hr=>allDone listed G F a w s S hfr (noneReady listed hsz hr),fun i hi=>?_⟩;obtain⟨hSi,t,ht,hdep⟩:=(readyOf listed hsz i).1 hi;have hil:i<l.length:=(List.getElem?_eq_some_iff.1 ht).1;unfold wpOpIn;rw[hops,ht];simp only[Option.map_some];have hadd:∀j,inS (listed.setIfInBounds i true) j=addS (inS listed) i j:=by
    intro j;unfold inS addS;simp only[Array.getD_eq_getD_getElem?,Array.getElem?_setIfInBounds];by_cases h:i=j
    ·subst h;simp[show i<listed.size by omega]
    ·simp[h,Ne.symm h]
   have hfold:foldS fr (inS (listed.setIfInBounds i true)) 0 l st=foldS fr (addS (inS listed) i) 0 l st:=foldS_congr fun m _=>hadd _;have hlook:∀x,look fr (foldS fr (inS (listed.setIfInBounds i true)) 0 l st) x=look fr (run1 fr t.o.dst t.r (foldS fr (inS listed) 0 l st)) x:=by
    intro x;rw[hfold];refine foldS_add ht hSi (fun m u hu hlt hSm x hx=>?_) x;cases hw:wrt u.o.dst u.r x with
    | none=>rfl
    | some v=>
      exfalso;rcases hc.edge i m t u ht hu (by omega) x (.inr (wrt_wl hx)) (wrt_wl (by rw[hw];rfl))with h|h
      ·have:=hc.back i t ht m h;omega
      ·have:=hcl m u hu hSm i h;rw[hSi]at this;cases this
   refine his i t ht _ G F a w (nx+l.length) _ _ s (by omega) (hfr _ (by omega) fun i' _ hS' he=>?_) (fun x hx=>?_) (fun G' F' a' w' s' S' hfr'=>?_)
   ·have:i=i':=by omega
    subst this;rw[hSi]at hS';cases hS'
   ·rw[look_foldS,look_foldS];refine lastW_agree l 0 _ fun m u hu hw=>?_;rw[Nat.zero_add];by_cases hmi:m=i
    ·subst hmi;rw[hSi];simp
    ·rcases hc.edge i m t u ht hu (fun h=>hmi h.symm) x (.inl hx) (wrt_wl hw)with h|h
     ·have:=hc.back i t ht m h;rw[hdep m h];simp[this]
     ·have h1:=hc.back m u hu i h;cases hSm:inS listed m with
      | false=>simp;omega
      | true=>
        have:=hcl m u hu hSm i h;rw[hSi]at this;cases this
   ·refine ih _ G' F' a' w' (by simpa using hsz) (s'.ext hlook) ((S.trans (S'.mono fun _ _=>trivial)).ext (look_mem hlook)) (fun j hj hne=>?_) (fun i' t' ht' hS' e he=>?_) ?_
    ·refine hfr' j (hne i hil (by rw[hadd];simp[addS])) (hfr j hj fun i' hi' hS'=>hne i' hi' (by rw[hadd];simp[addS,hS']))
    ·rw[hadd]at hS'⊢;simp only[addS,Bool.or_eq_true,decide_eq_true_eq]at hS'⊢;rcases hS' with hS'|rfl
     ·exact .inl (hcl i' t' ht' hS' e he)
     ·rw[ht]at ht';cases ht';exact .inl (hdep e he)
    ·have:=countP_less (p:=fun i=>!inS listed i) (q:=fun j=>!inS (listed.setIfInBounds i true) j) hil (by simp[hSi]) (by simp only[hadd];simp[addS]) (fun j hj=>by
       rw[hadd]at hj;simp only[addS,Bool.not_or,Bool.and_eq_true]at hj;exact hj.1)
     omega
theorem EvC.draw{idr:Nat}{l:List Oper}{its:List It}(hm:P.follows .mixedOrders=true)(ht:Tr P fr ro ds l.toArray st.nx l st.clr its st')(hc:confAll its 0 its=true)
  (hq:Q .normal ⟨st'.vars,st'.tmps,st'.mem,st.nx+its.length⟩):EvC P fr ro ds (.region idr l.toArray true) st Q:=by
 intro G0 F0 M0 w0 G F a w S s;obtain⟨h1,h2,h3⟩:=ht.spec;obtain⟨hm',S'⟩:=simM_drew (w':={ w with drawn:=w.drawn+1 }) (s.clr.sim.mem.more (Nat.le_add_right _ its.length)) rfl ⟨rfl,rfl,rfl,fun _=>rfl,.refl⟩;have hlen:l.length=its.length:=by rw[←h1];simp
 refine wpIn_region_any hm ?_;have hnone:∀i,inS (Array.replicate l.toArray.size false) i=false:=fun i=>by
  unfold inS;simp only[Array.getD_eq_getD_getElem?,Array.getElem?_replicate];split<;>rfl
 have e:foldS fr (inS (Array.replicate l.toArray.size false)) 0 its st.clr=st.clr:=by
  have:∀(l':List It) (m:Nat) (st:St),foldS fr (inS (Array.replicate l.toArray.size false)) m l' st=st:=by
   intro l'
   induction l' with
   | nil=>intro m st;rfl
   | cons u l' ih=>intro m st;simp only[foldS];rw[hnone];exact ih _ _
  exact this _ _ _
 refine drawAny (l:=its) (nx:=st.nx) (st:=st.clr) (fun i=>by rw[←h1];simp) (by simp[hlen]) (.of hc) h2 (fun G F a w s hfr S=>?_) _ _ G F a _ (by simp[hlen]) ?_ ?_ (fun j hj _=>s.fresh j hj) (fun i t _ h=>by rw[hnone]at h;cases h) ?_
 ·refine⟨G,F,_,⟨⟨?_,fun k=>?_,s.size⟩,hfr,s.defers⟩,?_,hq⟩
  ·rw[h3];exact s.mem
  ·have:=s.slots k;rw[←h3]at this;exact this
  ·rw[←h3]at S;exact S
 ·rw[e];exact⟨hm',fun k=>(s.clr.sim.slots k).step S' (fun _ _=>trivial),s.clr.sim.size,s.clr.defers⟩
 ·rw[e];exact S.trans (S'.mono fun _ _=>trivial)
 ·refine Nat.le_trans List.countP_le_length (by simp[hlen])
end
def memless:Op→Bool
 | .move _ | .assign _ | .pick _ _ _ | .alloc _ | .field _ _ _ | .index _ _ _ | .unOp _ _ _ | .convert _ _ _ | .makeInterface _ _ | .makeFunc _ _ _ | .makeMap _ _ | .makeSlice _ _ _ | .typeAssert _ _ _ _ | .extract _ _=>true
 | _=>false
def opSlots:List Operand→List Nat
 | []=>[]
 | .tmp t::xs=>2*t::opSlots xs
 | _::xs=>opSlots xs
def odds:List Nat→List Nat
 | []=>[]
 | i::l=>(2*i+1)::odds l
def opIds(fr:Fr)(st:St):List Operand→List Nat
 | []=>[]
 | x::xs=>odds (opnd fr st x).ids++opIds fr st xs
def adrOp:Op→Bool
 | .nilCheck _ | .fieldAddr _ _ _ | .indexAddr _ _ _=>true
 | _=>false
def AV.idsA:AV→List Nat
 | .rf _ _=>[]
 | .opt _ (.rf _ _)=>[]
 | v=>v.ids
def opIdsA(fr:Fr)(st:St):List Operand→List Nat
 | []=>[]
 | x::xs=>odds (opnd fr st x).idsA++opIdsA fr st xs
def rdOf(fr:Fr)(st:St)(gs:List Nat)(o:Oper):List Nat:=gs++(opSlots o.op.operands.toList++if memless o.op=true then []else if adrOp o.op=true then opIdsA fr st o.op.operands.toList else opIds fr st o.op.operands.toList)
def efRc(id:Nat):Ef→Option (Bool×Rc)
 | .bad=>none
 | .val ok v=>some (ok,⟨v,none⟩)
 | .new ok v ob=>some (ok,⟨v,some (id,ob)⟩)
 | .upd ok v i ob=>some (ok,⟨v,some (i,ob)⟩)
 | .key _ _ _ _=>none
def efRcG(g:Bool):Ef→Option (Bool×Rc)
 | .val ok v=>some (!g||ok,⟨.opt g v,none⟩)
 | _=>none
section
variable {P:Program} {fr:Fr} {ro:Option Nat} {ds:DS} {st st':St} {Q:Exit→St→Prop} {G G':Nat→Option Value} {F F':Nat→Nat→Prop} {a:Act} {w w':World}
 {M M':Mem} {ops:Array Oper} {o:Oper} {id N:Nat} {d:Option Nat} {r:Rc} {x y:Nat} {rest:List Oper} {its:List It} {rd gs:List Nat} {ok:Bool}
theorem opSlots_mem{t:Nat}:∀{xs:List Operand},Operand.tmp t∈xs→2*t∈opSlots xs
 | x::xs,h=>by
   rcases List.mem_cons.1 h with h|h
   ·subst h;exact List.mem_cons_self
   ·have:=opSlots_mem h;cases x<;>simp[opSlots,this]
theorem odds_mem{i:Nat}:∀{l:List Nat},i∈l→2*i+1∈odds l
 | j::l,h=>by
   rcases List.mem_cons.1 h with h|h
   ·subst h;exact List.mem_cons_self
   ·exact List.mem_cons_of_mem _ (odds_mem h)
theorem opIds_mem{x:Operand}{i:Nat}:∀{xs:List Operand},x∈xs→i∈(opnd fr st x).ids→2*i+1∈opIds fr st xs
 | y::xs,h,hi=>by
   simp only[opIds,List.mem_append];rcases List.mem_cons.1 h with h|h
   ·subst h;exact .inl (odds_mem hi)
   ·exact .inr (opIds_mem h hi)
theorem look_slot{k:Nat}(h:look fr st' (2*k)=look fr st (2*k)):st'.get fr k=st.get fr k:=by
 unfold look at h;rw[if_pos (by omega),if_pos (by omega)]at h;simpa[show 2*k/2=k by omega]using h
theorem look_obj{i:Nat}(h:look fr st' (2*i+1)=look fr st (2*i+1)):mlook st'.mem i=mlook st.mem i:=by
 unfold look at h;rw[if_neg (by omega),if_neg (by omega)]at h;simpa[show(2*i+1)/2=i by omega]using h
theorem xop_memless{g:Bool}(h:memless o.op=true)(M:Mem)(nx:Nat):xop P fr ⟨st.vars,st.tmps,M,nx⟩ g id o=xop P fr st g id o:=by
 obtain⟨dst,op,ty,pos,after,guard⟩:=o;have ho:∀x,opnd fr (⟨st.vars,st.tmps,M,nx⟩:St) x=opnd fr st x:=fun x=>by cases x<;>rfl
 have hod:∀x,od fr (⟨st.vars,st.tmps,M,nx⟩:St) g x=od fr st g x:=fun x=>by unfold od;rw[ho]
 have hod':od fr (⟨st.vars,st.tmps,M,nx⟩:St) g=od fr st g:=funext hod;cases op<;>first
  | (simp[memless]at h;done)
  | (simp only[xop,hod,hod',ho];done)
  | rfl
  | (simp only[xop,hod,hod',ho])
theorem opIdsA_mem{x:Operand}{i:Nat}:∀{xs:List Operand},x∈xs→i∈(opnd fr st x).idsA→2*i+1∈opIdsA fr st xs
 | y::xs,h,hi=>by
   simp only[opIdsA,List.mem_append];rcases List.mem_cons.1 h with h|h
   ·subst h;exact .inl (odds_mem hi)
   ·exact .inr (opIdsA_mem h hi)
theorem idsA_unopt{g:Bool}{v:AV}{i:Nat}(hn:∀j off,unopt g v≠ .rf j off)(h:i∈(unopt g v).ids):i∈v.idsA:=by
 unfold unopt at hn h;split at h
 ·rename_i b u;split at h
  ·rename_i hb;simp only[hb,if_true]at hn;cases u<;>first|exact absurd rfl (hn _ _)|simpa[AV.idsA,AV.ids]using h
  ·simp[AV.ids]at h
 ·rename_i hno;cases v<;>first|exact absurd rfl (hn _ _)|exact absurd rfl (hno _ _)|simpa[AV.idsA,AV.ids]using h
theorem xop_adr{g:Bool}(ha:adrOp o.op=true)(h:∀x∈o.op.operands.toList,opnd fr st' x=opnd fr st x∧∀i∈(opnd fr st x).idsA,mlook st'.mem i=mlook st.mem i):xop P fr st' g id o=xop P fr st g id o:=by
 have hod:∀x∈o.op.operands.toList,od fr st' g x=od fr st g x∧((∀j off,od fr st g x≠ .rf j off)→∀i∈(od fr st g x).ids,mlook st'.mem i=mlook st.mem i):=fun x hx=>
  ⟨by unfold od;rw[(h x hx).1],fun hn i hi=>(h x hx).2 i (idsA_unopt hn hi)⟩
 obtain⟨dst,op,ty,pos,after,guard⟩:=o;cases op with
 | nilCheck x=>
   obtain⟨h1,h2⟩:=hod x (by simp[Op.operands]);simp only[xop];rw[h1];generalize od fr st g x=X at h2;cases X<;>try rfl
   (try simp only);rw[h2 (fun _ _=>nofun) _ (by simp[AV.ids])]
 | fieldAddr t x f=>
   obtain⟨h1,h2⟩:=hod x (by simp[Op.operands]);simp only[xop];rw[h1];generalize od fr st g x=X at h2;split
   ·cases X<;>try rfl
    (try simp only);rw[h2 (fun _ _=>nofun) _ (by simp[AV.ids])]
   ·rfl
 | indexAddr t x ix=>
   obtain⟨h1,h2⟩:=hod x (by simp[Op.operands]);simp only[xop];rw[h1,(hod ix (by simp[Op.operands])).1];generalize od fr st g x=X at h2;split
   ·split
    ·split
     ·rfl
     ·cases X<;>try rfl
      all_goals ((try simp only);rw[h2 (fun _ _=>nofun) _ (by simp[AV.ids])])
    ·split
     ·split
      ·rfl
      ·cases X<;>try rfl
       (try simp only);rw[h2 (fun _ _=>nofun) _ (by simp[AV.ids])]
     ·rfl
   ·rfl
 | _=>simp[adrOp]at ha
theorem xop_look{g:Bool}(h:∀x∈rdOf fr st gs o,look fr st' x=look fr st x):xop P fr st' g id o=xop P fr st g id o:=by
 have hop:∀x∈o.op.operands.toList,opnd fr st' x=opnd fr st x:=fun x hx=>by
  cases x with
  | tmp t=>exact look_slot (h _ (by unfold rdOf;exact List.mem_append_right _ (List.mem_append_left _ (opSlots_mem hx))))
  | _=>rfl
 by_cases hm:memless o.op=true
 ·rw[←xop_memless (st:=st) (id:=id) (g:=g) (P:=P) (fr:=fr) hm st'.mem st.nx];refine xop_congr fun x hx=>⟨?_,fun _ _=>rfl⟩;rw[hop x hx];cases x<;>rfl
 by_cases ha:adrOp o.op=true
 ·refine xop_adr ha fun x hx=>⟨hop x hx,fun i hi=>look_obj (h _ ?_)⟩;unfold rdOf;rw[if_neg hm,if_pos ha];exact List.mem_append_right _ (List.mem_append_right _ (opIdsA_mem hx hi))
 ·refine xop_congr fun x hx=>⟨hop x hx,fun i hi=>look_obj (h _ ?_)⟩;unfold rdOf;rw[if_neg hm,if_neg ha];exact List.mem_append_right _ (List.mem_append_right _ (opIds_mem hx hi))
theorem SimD.eval(s:SimD P fr ds G F st N a w)(x:Operand):RV G F st.mem w (a.eval x) (opnd fr st x):=by
 cases x with
 | tmp t=>exact s.slots t
 | const v=>exact .imm (Imm.ofVal v)
 | global g=>
   cases hg:laidAt g with
   | none=>
     have e:opnd fr st (.global g)=.sc (.pointer (some ⟨g,0,none⟩)):=by simp only[opnd,hg]
     rw[e];exact .imm (.sc _)
   | some vs=>
     have e:opnd fr st (.global g)=.ia (vs.map AV.sc):=by simp only[opnd,hg]
     rw[e];exact .imm (s.mem.gl.imm hg)
 | func f=>exact .fn f [] [] rfl (fun _ h=>absurd h (Nat.not_lt_zero _))
theorem SimD.put{u:Value}(s:SimD P fr ds G F st N a w)(hm:SimM P G' F' M' N w')(e:∀i,mlook (r.mem st.mem) i=mlook M' i)(S:Step All G F st.mem w G' F' M' w')(hd:dok fr d=true)(hr:RV G' F' M' w' u r.val):
  SimD P fr ds G' F' (run1 fr d r st) N (a.put d u) w'∧Step All G F st.mem w G' F' (run1 fr d r st).mem w':=by
 have hm':SimM P G' F' (r.mem st.mem) N w':=hm.ext e;have S':Step All G F st.mem w G' F' (r.mem st.mem) w':=S.ext e;refine⟨⟨by unfold run1;rw[St.put_mem];exact hm',fun k=>?_,?_,?_⟩,by unfold run1;rw[St.put_mem];exact S'⟩
 ·have hold:∀k,RV G' F' (r.mem st.mem) w' (a.tmps.getD k undef) (st.get fr k):=fun k=>(s.slots k).step S' (fun _ _=>trivial);unfold run1;rw[St.put_mem];cases d with
  | none=>exact hold k
  | some d=>
    rw[St.get_put,getD_put];by_cases hk:k=d
    ·subst hk;rw[if_pos rfl,if_pos ⟨rfl,by rw[s.size];exact dok_spec hd k rfl⟩];exact hr.ext e
    ·rw[if_neg hk,if_neg (fun h=>hk h.1)];exact hold k
 ·cases d with
  | none=>exact s.size
  | some d=>simp only[Act.put,Array.size_setIfInBounds];exact s.size
 ·cases d with
  | none=>exact s.defers.step s.mem S'
  | some d=>exact s.defers.step s.mem S'
theorem efRc_ok{ef:Ef}{run:Result Next}(h:EfOk P G F M N w id run ef)(he:efRc id ef=some (ok,r))(hok:ok=true):∃M',OpOk P G F M N w id run r.val M'∧∀i,mlook (r.mem M) i=mlook M' i:=by
 cases ef with
 | bad=>cases he
 | val b v=>simp only[efRc,Option.some.injEq,Prod.mk.injEq]at he;obtain⟨rfl,rfl⟩:=he;exact⟨_,h hok,fun _=>rfl⟩
 | new b v ob=>
   simp only[efRc,Option.some.injEq,Prod.mk.injEq]at he;obtain⟨rfl,rfl⟩:=he;exact⟨_,h hok,fun i=>by rw[mlook_rc];rfl⟩
 | upd b v i ob=>simp only[efRc,Option.some.injEq,Prod.mk.injEq]at he;obtain⟨rfl,rfl⟩:=he;exact⟨_,h hok,fun _=>rfl⟩
 | key b v old ob=>cases he
theorem efRc_defer{g:Bool}{b:Bool}(he:efRc id (xop P fr st g id o)=some (b,r)):∀c,o.op≠ .defer c:=by
 intro c hc;obtain⟨d,op,ty,pos,after,gu⟩:=o;simp only at hc;subst hc;simp[xop,efRc]at he
theorem SimD.wp{K:Act→World→Prop}{Q1:Exit→Act→World→Prop}(s:SimD P fr ds G F st' N a w)(hN:id<N)(hG:G id=none)(hd:dok fr o.dst=true)
  (hx:xop P fr st' true id o=xop P fr st true id o)(he:efRc id (xop P fr st true id o)=some (ok,r))(hok:ok=true)
  (h:∀G' F' a' w',SimD P fr ds G' F' (run1 fr o.dst r st') N a' w'→Step All G F st'.mem w G' F' (run1 fr o.dst r st').mem w'→(∀j,j≠id→G j=none→G' j=none)→K a' w'):
  o.wpIn (fc ro) 0 P a w K Q1:=by
 have hk:=xop_ok (id:=id) (fr:=fr) (st:=st') s.mem s.eval (fun _=>rfl) hG hN o;rw[hx]at hk;obtain⟨M',⟨u,w',G',F',hrun,hm',S',hr,hfr⟩,e⟩:=efRc_ok hk he hok;obtain⟨s1,S1⟩:=s.put (d:=o.dst) (u:=u) hm' e S' hd hr;refine⟨fun _ _=>trivial,?_⟩;rw[Oper.semAt_eq _ _ _ (efRc_defer he)];rcases hrun with hrun|⟨hrun,rfl⟩<;>rw[hrun]
 ·exact h _ _ _ _ s1 S1 hfr
 ·exact h _ _ _ _ s1 S1 hfr
theorem OpIs.op(hg:o.guard=none)(hd:dok fr o.dst=true)(he:efRc id (xop P fr st true id o)=some (ok,r))(hok:ok=true)(hrd:rdOf fr st [] o=rd):OpIs P fr ro ds ops id st ⟨o,r,rd⟩:=by
 intro st' G F a w N K Q1 s hN hG hl h;simp only[Region.wanted,hg,if_true];exact s.wp hN hG hd (xop_look (gs:=[]) (by rw[hrd];exact hl)) he hok h
theorem wantedD{j k:Nat}{want g:Bool}(s:SimD P fr ds G F st N a w)(hg:o.guard=some (j,want))(hj:gslot ops j=some k)(hk:gval want (st.get fr k)=some g):Region.wanted o (yielded ops a.tmps)=g:=by
 have:=gval_ok (s.slots k) hk;simp only[Region.wanted,hg,yielded];unfold gslot at hj;rw[hj,←this];simp only[Option.bind_some,Array.getD_eq_getD_getElem?];cases h:a.tmps[k]? with
 | none=>simp[undef,bov]
 | some v=>cases v<;>simp[bov]
theorem SimD.skip{K:Act→World→Prop}{v:AV}(s:SimD P fr ds G F st' N a w)(hd:dok fr o.dst=true)(hv:RV G F st'.mem w undef v)
  (h:∀G' F' a' w',SimD P fr ds G' F' (run1 fr o.dst ⟨v,none⟩ st') N a' w'→Step All G F st'.mem w G' F' (run1 fr o.dst ⟨v,none⟩ st').mem w'→(∀j,j≠id→G j=none→G' j=none)→K a' w'):K (a.put o.dst undef) w:=by
 obtain⟨s1,S1⟩:=s.put (d:=o.dst) (r:=⟨v,none⟩) (u:=undef) s.mem (fun _=>rfl) .refl hd hv;exact h _ _ _ _ s1 S1 (fun _ _ h=>h)
theorem run1_opt{g:Bool}{v:AV}(hgt:g=true)(s:SimD P fr ds G F (run1 fr d ⟨v,none⟩ st) N a w):SimD P fr ds G F (run1 fr d ⟨.opt g v,none⟩ st) N a w:=by
 subst hgt;have hm:(run1 fr d ⟨.opt true v,none⟩ st).mem=(run1 fr d ⟨v,none⟩ st).mem:=by unfold run1;rw[St.put_mem,St.put_mem];rfl
 refine⟨by rw[hm];exact s.mem,fun k=>?_,s.size,s.defers⟩;rw[hm];have hk:=s.slots k;unfold run1 at hk⊢;cases d with
 | none=>exact hk
 | some d=>
   rw[St.get_put]at hk⊢;by_cases hkd:k=d
   ·rw[if_pos hkd]at hk⊢;exact .opt true _ _ (fun _=>hk) (fun h=>by cases h)
   ·rw[if_neg hkd]at hk⊢;exact hk
theorem OpIs.guard{j k:Nat}{want g:Bool}(hg:o.guard=some (j,want))(hj:gslot ops j=some k)(hk:gval want (st.get fr k)=some g)(hd:dok fr o.dst=true)
  (he:efRcG g (xop P fr st g id o)=some (ok,r))(hok:ok=true)(hrd:rdOf fr st [2*k] o=rd):OpIs P fr ro ds ops id st ⟨o,r,rd⟩:=by
 intro st' G F a w N K Q1 s hN hG hl h;have hw:=wantedD s hg hj (by rw[look_slot (hl _ (by rw[←hrd];exact List.mem_cons_self))];exact hk);rw[hw];cases hx:xop P fr st g id o with
 | val b v=>
   rw[hx]at he;simp only[efRcG,Option.some.injEq,Prod.mk.injEq]at he;obtain⟨he1,rfl⟩:=he;cases g with
   | false=>
     simp only[Bool.false_eq_true,if_false];exact⟨fun _ _=>trivial,s.skip hd (.imm (.opt false _ _ (fun h=>by cases h) (fun _=>rfl))) h⟩
   | true=>
     simp only[if_true];have hb:b=true:=by rw[←he1]at hok;simpa using hok
     have he':efRc id (xop P fr st true id o)=some (b,⟨v,none⟩):=by rw[hx];rfl
     refine s.wp hN hG hd (xop_look (gs:=[2*k]) (by rw[hrd];exact hl)) he' hb fun G' F' a' w' s' S' hf=>h G' F' a' w' (run1_opt rfl s') ?_ hf;have hm:(run1 fr o.dst ⟨.opt true v,none⟩ st').mem=(run1 fr o.dst ⟨v,none⟩ st').mem:=by unfold run1;rw[St.put_mem,St.put_mem];rfl
     rw[hm];exact S'
 | _=>rw[hx]at he;cases he
end
section
variable {P:Program} {fr:Fr} {ro:Option Nat} {ds:DS} {st st':St} {Q:Exit→St→Prop} {G G':Nat→Option Value} {F F':Nat→Nat→Prop} {a:Act} {w w':World}
 {M M':Mem} {ops:Array Oper} {o:Oper} {id N:Nat} {d:Option Nat} {r:Rc} {x y:Nat} {rest:List Oper} {its:List It} {rd gs:List Nat} {ok:Bool}
theorem opSame_look(h:∀x∈rdOf fr st gs o,look fr st' x=look fr st x)(hm:memless o.op=false)(ha:adrOp o.op=false):OpSame fr st' st o.op.operands.toList:=fun x hx=>by
 refine⟨?_,fun i hi=>look_obj (h _ ?_)⟩
 ·cases x with
  | tmp t=>exact look_slot (h _ (by unfold rdOf;exact List.mem_append_right _ (List.mem_append_left _ (opSlots_mem hx))))
  | _=>rfl
 ·unfold rdOf;rw[if_neg (by simp[hm]),if_neg (by simp[ha])];exact List.mem_append_right _ (List.mem_append_right _ (opIds_mem hx hi))
theorem SimD.call{f:FuncId}{cs:List AV}{callee:Operand}{args:Array Operand}{tys:Array TypeId}{xs:List AV}{v:AV}{K:Act→World→Prop}{Q1:Exit→Act→World→Prop}
  (s:SimD P fr ds G F st N a w)(hop:o.op=.call ⟨.value callee,args,tys⟩)(hd:dok fr o.dst=true)(hcal:od fr st true callee=.fn f cs)
  (hxs:callArgs fr st args++cs=xs)(hn:AV.norefs xs=true)(hc:PureIs P f xs v)
  (h:∀G' F' a' w',SimD P fr ds G' F' (run1 fr o.dst ⟨v,none⟩ st) N a' w'→Step All G F st.mem w G' F' (run1 fr o.dst ⟨v,none⟩ st).mem w'→(∀j,j≠id→G j=none→G' j=none)→K a' w'):o.wpIn (fc ro) 0 P a w K Q1:=by
 refine⟨fun _ _=>trivial,?_⟩;rw[Oper.semAt_eq _ _ _ (by rw[hop];intro c h;cases h)];have hv:=(s.eval callee).unopt;have hv:RV G F st.mem w (a.eval callee) (.fn f cs):=by unfold od at hcal;rwa[hcal]at hv
 obtain⟨vs,hev,hl,hcs⟩:=hv.inv_fn;have hrun:(execOp a.eval o).run P w=.ok (.enter f ((args.toList.map a.eval++vs).toArray)) w:=by
  obtain⟨dst,op,ty,pos,after,guard⟩:=o;simp only at hop;subst hop;simp only[execOp,resolve,hev,Deferred.ofValue,Sem.run_bind,Sem.run_pure,Result.andThen_ok,invoke];rw[hc.1];congr 2;apply Array.ext';simp
 rw[hrun];have hi:Imms F w (args.toList.map a.eval++vs) xs:=by
  subst hxs;refine .of_rv (G:=G) (M:=st.mem) (by simp[callArgs,hl]) (fun i h1 h2=>?_) hn;by_cases hlt:i<args.toList.length
  ·rw[List.getElem_append_left (by simpa using hlt),List.getElem_append_left (by simpa[callArgs]using hlt)];simp only[callArgs,List.getElem_map];exact((s.eval _).unopt).snap s.mem
  ·rw[List.getElem_append_right (by simpa using hlt),List.getElem_append_right (by simpa[callArgs]using hlt)];simp only[List.length_map,callArgs];exact hcs _ _ _
 refine⟨fun h=>by simp[fc,Fence.wide]at h,callsIn_fc ((hc.2 F w _ s.mem.fok hi).mono ?_)⟩;rintro e w' ⟨u,F',rfl,hu,g⟩;obtain⟨hm',S'⟩:=simM_grown s.mem g;obtain⟨s1,S1⟩:=s.put (d:=o.dst) (r:=⟨v,none⟩) (u:=u) hm' (fun _=>rfl) S' hd (.imm hu);exact h G F' _ w' s1 S1 (fun _ _ h=>h)
theorem callArgs_look(h:∀x∈rdOf fr st gs o,look fr st' x=look fr st x){callee:Operand}{args:Array Operand}{tys:Array TypeId}(hop:o.op=.call ⟨.value callee,args,tys⟩):
  od fr st' true callee=od fr st true callee∧callArgs fr st' args=callArgs fr st args:=by
 have hs:=opSame_look h (by rw[hop];rfl) (by rw[hop];rfl);rw[hop]at hs;refine⟨(hs.od (x:=callee) (by simp[Op.operands,Call.operands]) true).1,?_⟩;unfold callArgs;refine List.map_congr_left fun x hx=>?_;obtain⟨h1,h2⟩:=hs.od (x:=x) (by simp only[Op.operands,Call.operands];simp;exact .inr (by simpa using hx)) true;rw[h1,snap_congr h2]
theorem OpIs.call{f:FuncId}{cs:List AV}{callee:Operand}{args:Array Operand}{tys:Array TypeId}{xs:List AV}{v:AV}(hg:o.guard=none)(hop:o.op=.call ⟨.value callee,args,tys⟩)(hd:dok fr o.dst=true)
  (hcal:od fr st true callee=.fn f cs)(hxs:callArgs fr st args++cs=xs)(hn:AV.norefs xs=true)(hrd:rdOf fr st [] o=rd)(hc:PureIs P f xs v):OpIs P fr ro ds ops id st ⟨o,⟨v,none⟩,rd⟩:=by
 intro st' G F a w N K Q1 s hN hG hl h;simp only[Region.wanted,hg,if_true];obtain⟨e1,e2⟩:=callArgs_look (gs:=[]) (by rw[hrd];exact hl) hop;exact s.call hop hd (by rw[e1];exact hcal) (by rw[e2];exact hxs) hn hc h
theorem OpIs.callG{j k:Nat}{want:Bool}{f:FuncId}{cs:List AV}{callee:Operand}{args:Array Operand}{tys:Array TypeId}{xs:List AV}{v:AV}(hg:o.guard=some (j,want))(hj:gslot ops j=some k)(hk:gval want (st.get fr k)=some true)
  (hop:o.op=.call ⟨.value callee,args,tys⟩)(hd:dok fr o.dst=true)
  (hcal:od fr st true callee=.fn f cs)(hxs:callArgs fr st args++cs=xs)(hn:AV.norefs xs=true)(hrd:rdOf fr st [2*k] o=rd)(hc:PureIs P f xs v):OpIs P fr ro ds ops id st ⟨o,⟨v,none⟩,rd⟩:=by
 intro st' G F a w N K Q1 s hN hG hl h;have hw:=wantedD s hg hj (by rw[look_slot (hl _ (by rw[←hrd];exact List.mem_cons_self))];exact hk);rw[hw];simp only[if_true];obtain⟨e1,e2⟩:=callArgs_look (gs:=[2*k]) (by rw[hrd];exact hl) hop;exact s.call hop hd (by rw[e1];exact hcal) (by rw[e2];exact hxs) hn hc h
inductive TRes where
 | done (ok:Bool) (its:List It) (st:St)
 | stop (ok:Bool) (its:List It) (st:St) (rest:List Oper) (id:Nat)
def TRes.cons(b:Bool)(t:It):TRes→TRes
 | .done ok its st=>.done (b&&ok) (t::its) st
 | .stop ok its st rest id=>.stop (b&&ok) (t::its) st rest id
noncomputable def trun(P:Program)(fr:Fr)(all:List Oper):List Oper→Nat→St→TRes
 | [],_,st=>.done true [] st
 | o::rest,id,st=>match dok fr o.dst with
   | false=>.stop true [] st (o::rest) id
   | true=>match o.guard with
     | none=>match efRc id (xop P fr st true id o)with
       | none=>.stop true [] st (o::rest) id
       | some (b,r)=>(trun P fr all rest (id+1) (run1 fr o.dst r st)).cons b ⟨o,r,rdOf fr st [] o⟩
     | some (j,want)=>match gslot all.toArray j with
       | none=>.stop true [] st (o::rest) id
       | some k=>match gval want (st.get fr k)with
         | none=>.stop true [] st (o::rest) id
         | some g=>match efRcG g (xop P fr st g id o)with
           | none=>.stop true [] st (o::rest) id
           | some (b,r)=>(trun P fr all rest (id+1) (run1 fr o.dst r st)).cons b ⟨o,r,rdOf fr st [2*k] o⟩
theorem Tr.append{id:Nat}{l1 l2:List Oper}{st1 st2 st3:St}{i1 i2:List It}(h1:Tr P fr ro ds ops id l1 st1 i1 st2):∀{id2:Nat},id2=id+i1.length→Tr P fr ro ds ops id2 l2 st2 i2 st3→Tr P fr ro ds ops id (l1++l2) st1 (i1++i2) st3:=by
 induction h1 with
 | nil id st=>intro id2 he h2;simp at he;subst he;exact h2
 | cons h t ih=>intro id2 he h2;exact .cons h (ih (by simp at he;omega) h2)
theorem trun_ok{all:List Oper}:∀{l:List Oper} {id:Nat} {st:St},
  (∀ok its st',trun P fr all l id st=.done ok its st'→ok=true→Tr P fr ro ds all.toArray id l st its st')∧
  (∀ok its st' rest id',trun P fr all l id st=.stop ok its st' rest id'→ok=true→∀its2 st2,Tr P fr ro ds all.toArray id' rest st' its2 st2→Tr P fr ro ds all.toArray id l st (its++its2) st2)
 | [],id,st=>by
   refine⟨fun ok its st' h _=>?_,fun ok its st' rest id' h=>?_⟩
   ·simp only[trun]at h;cases h;exact .nil _ _
   ·simp only[trun]at h;cases h
 | o::rest,id,st=>by
   have stopCase:∀{res:TRes},trun P fr all (o::rest) id st=res→res=.stop true [] st (o::rest) id→
     (∀ok its st',trun P fr all (o::rest) id st=.done ok its st'→ok=true→Tr P fr ro ds all.toArray id (o::rest) st its st')∧
     (∀ok its st' rest' id',trun P fr all (o::rest) id st=.stop ok its st' rest' id'→ok=true→∀its2 st2,Tr P fr ro ds all.toArray id' rest' st' its2 st2→Tr P fr ro ds all.toArray id (o::rest) st (its++its2) st2):=by
    intro res h1 h2;rw[h1,h2];refine⟨fun ok its st' h=>(by cases h),fun ok its st' rest' id' h _ its2 st2 t=>?_⟩;cases h;exact t
   have goCase:∀{b:Bool} {r:Rc} {rd:List Nat},trun P fr all (o::rest) id st=(trun P fr all rest (id+1) (run1 fr o.dst r st)).cons b ⟨o,r,rd⟩→
     (b=true→OpIs P fr ro ds all.toArray id st ⟨o,r,rd⟩)→
     (∀ok its st',trun P fr all (o::rest) id st=.done ok its st'→ok=true→Tr P fr ro ds all.toArray id (o::rest) st its st')∧
     (∀ok its st' rest' id',trun P fr all (o::rest) id st=.stop ok its st' rest' id'→ok=true→∀its2 st2,Tr P fr ro ds all.toArray id' rest' st' its2 st2→Tr P fr ro ds all.toArray id (o::rest) st (its++its2) st2):=by
    intro b r rd h1 h2;obtain⟨k1,k2⟩:=@trun_ok all rest (id+1) (run1 fr o.dst r st);rw[h1];cases hres:trun P fr all rest (id+1) (run1 fr o.dst r st)with
    | done ok its st1=>
      rw[hres]at k1;refine⟨fun ok' its' st' h hok=>?_,fun ok its st' rest' id' h=>(by cases h)⟩;simp only[TRes.cons]at h;cases h;simp only[Bool.and_eq_true]at hok;exact .cons (h2 hok.1) (k1 _ _ _ rfl hok.2)
    | stop ok its st1 rest1 id1=>
      rw[hres]at k2;refine⟨fun ok its st' h=>(by cases h),fun ok' its' st' rest' id' h hok its2 st2 t=>?_⟩;simp only[TRes.cons]at h;cases h;simp only[Bool.and_eq_true]at hok;exact .cons (h2 hok.1) (k2 _ _ _ _ _ rfl hok.2 its2 st2 t)
   cases hd:dok fr o.dst with
   | false=>exact stopCase rfl (by simp only[trun,hd])
   | true=>
     cases hg:o.guard with
     | none=>
       cases he:efRc id (xop P fr st true id o)with
       | none=>exact stopCase rfl (by simp only[trun,hd,hg,he])
       | some p=>
         obtain⟨b,r⟩:=p;exact goCase (by simp only[trun,hd,hg,he]) fun hb=>.op hg hd he hb rfl
     | some p=>
       obtain⟨j,want⟩:=p;cases hj:gslot all.toArray j with
       | none=>exact stopCase rfl (by simp only[trun,hd,hg,hj])
       | some k=>
         cases hk:gval want (st.get fr k)with
         | none=>exact stopCase rfl (by simp only[trun,hd,hg,hj,hk])
         | some g=>
           cases he:efRcG g (xop P fr st g id o)with
           | none=>exact stopCase rfl (by simp only[trun,hd,hg,hj,hk,he])
           | some p=>
             obtain⟨b,r⟩:=p;exact goCase (by simp only[trun,hd,hg,hj,hk,he]) fun hb=>.guard hg hj hk hd he hb rfl
theorem Tr.done{all l:List Oper}(h:trun P fr all l id st=.done ok its st')(hok:ok=true):Tr P fr ro ds all.toArray id l st its st':=trun_ok.1 _ _ _ h hok
theorem Tr.run{all l:List Oper}{id':Nat}{its2:List It}{st2:St}(h:trun P fr all l id st=.stop ok its st' rest id')(hok:ok=true)(t:Tr P fr ro ds all.toArray id' rest st' its2 st2):Tr P fr ro ds all.toArray id l st (its++its2) st2:=trun_ok.2 _ _ _ _ _ h hok _ _ t
theorem XR.tr:∀{l:List Oper} {st:St} {its:List It} {st':St} {id:Nat},id=st.nx→Tr P fr ro ds ops id l st its st'→Q .normal ⟨st'.vars,st'.tmps,st'.mem,st.nx+its.length⟩→XR P fr ro ds ops l st Q:=by
 intro l st its st' id he t;subst he;have key:∀{id:Nat} {l:List Oper} {st:St} {its:List It} {st':St},Tr P fr ro ds ops id l st its st'→∀(n:Nat),n=id+its.length→Q .normal ⟨st'.vars,st'.tmps,st'.mem,n⟩→XR P fr ro ds ops l ⟨st.vars,st.tmps,st.mem,id⟩ Q:=by
  intro id l st its st' t
  induction t with
  | nil id st=>intro n hn hq;simp at hn;subst hn;exact .nil hq
  | cons h t ih=>
    rename_i id o rest st st' r rd l;intro n hn hq;have ih:=ih n (by simp at hn;omega) hq;intro G0 F0 M0 w0 G F a w S s;have sd:SimD P fr ds G F st (id+1) a w:=⟨s.sim.mem.more (Nat.le_succ _),s.sim.slots,s.sim.size,s.defers⟩;have hr:(⟨(run1 fr o.dst r st).vars,(run1 fr o.dst r st).tmps,(run1 fr o.dst r st).mem,id+1⟩:St)=(⟨(run1 fr o.dst r st).vars,(run1 fr o.dst r st).tmps,(run1 fr o.dst r st).mem,id+1⟩:St):=rfl;have:=h st G F a w (id+1) (wpListIn (fc ro) 0 P ops (Post P fr ds G0 F0 M0 w0 Q) rest) (Post P fr ds G0 F0 M0 w0 Q) sd (Nat.lt_succ_self _) (s.fresh _ (Nat.le_refl _)) (fun _ _=>rfl) fun G' F' a' w' s' S' hf=>by
     refine ih _ _ _ _ _ _ _ _ (S.trans (S'.mono fun _ _=>trivial)) ⟨⟨s'.mem,s'.slots,s'.size⟩,fun j hj=>hf j (by show j≠id;have:id+1≤j:=hj;omega) (s.fresh j (by have:id+1≤j:=hj;exact(by show id≤j;omega))),s'.defers⟩
    simp only[wpListIn];exact this
 exact fun hq=>key t _ rfl hq
end
section
variable {P:Program} {fr:Fr} {ro:Option Nat} {ds:DS} {st st':St} {Q:Exit→St→Prop} {l rest:List Oper} {its:List It} {ok:Bool} {id:Nat}
def St.fin(st:St)(n:Nat):St:=⟨st.vars,[],st.mem,n⟩
theorem EvC.tr(ht:Tr P fr ro ds l.toArray st.nx l st.clr its st')(hq:Q .normal (st'.fin (st.nx+its.length))):EvC P fr ro ds (.region id l.toArray false) st Q:=
 .clrQ (.region (.tr rfl ht hq))
theorem EvC.trd(h:trun P fr l l st.nx st.clr=.done ok its st')(hok:ok=true)(hq:Q .normal (st'.fin (st.nx+its.length))):EvC P fr ro ds (.region id l.toArray false) st Q:=
 .tr (.done h hok) hq
theorem EvC.drw(hm:P.follows .mixedOrders=true)(ht:Tr P fr ro ds l.toArray st.nx l st.clr its st')(hc:confAll its 0 its=true)(hq:Q .normal (st'.fin (st.nx+its.length))):EvC P fr ro ds (.region id l.toArray true) st Q:=
 .clrQ (.draw hm ht hc hq)
theorem EvC.drd(hm:P.follows .mixedOrders=true)(h:trun P fr l l st.nx st.clr=.done ok its st')(hok:ok=true)(hc:confAll its 0 its=true)(hq:Q .normal (st'.fin (st.nx+its.length))):EvC P fr ro ds (.region id l.toArray true) st Q:=
 .drw hm (.done h hok) hc hq
end
theorem inI64_of{x:Int}(h1: -9223372036854775808≤x)(h2:x≤9223372036854775807):inI64 x=true:=by
 rw[inI64_eq];simp only[Bool.and_eq_true,decide_eq_true_eq];exact⟨h1,h2⟩
theorem imp_and1(x y:Bool):(!(x&&y)||x)=true:=by cases x<;>cases y<;>rfl
theorem imp_and2(x y z:Bool):(!(x&&y&&z)||x)=true:=by cases x<;>cases y<;>cases z<;>rfl
theorem imp_and3(x y z u:Bool):(!(x&&y&&z&&u)||x)=true:=by cases x<;>cases y<;>cases z<;>cases u<;>rfl
theorem imp_and4(x y z u v:Bool):(!(x&&y&&z&&u&&v)||x)=true:=by cases x<;>cases y<;>cases z<;>cases u<;>cases v<;>rfl
attribute [go_sem] St.fin gb imp_and1 imp_and2 imp_and3 imp_and4 Bool.not_not Bool.or_not_self Bool.not_or_self trun TRes.cons efRc efRcG rdOf memless adrOp AV.idsA opIdsA opSlots odds opIds AV.ids AV.idss run1 Rc.mem Op.operands Call.operands wl depsOf confOne confAll
 Array.toList_append Array.append_assoc List.append_toArray List.getElem?_toArray Option.getD_none Option.getD_some Int.toNat_natCast List.take_length Int.le_refl Nat.le_refl Int.natCast_nonneg List.length_map List.getElem?_map Int.natCast_zero Int.natCast_add
def toIa(i:Nat)(cs:List AV):AV→AV
 | .rf j off=>if j=i then .ia (cs.drop off)else .rf j off
 | v=>v
def St.frzB(i:Nat)(st:St):Option St:=
 match mlook st.mem i with
 | some (.cells cs)=>if AV.norefs cs=true then some ((⟨st.vars,st.tmps,mdel st.mem i,st.nx⟩:St).map (AV.deep (toIa i cs)))else none
 | _=>none
section
variable {P:Program} {fr:Fr} {ro:Option Nat} {ds:DS} {st st':St} {Q Q':Exit→St→Prop} {G G':Nat→Option Value} {F F':Nat→Nat→Prop} {a:Act} {w w':World} {x y c:Code}
 {M:Mem} {ops:Array Oper} {l rest:List Oper} {o:Oper}
theorem simM_frzB{nx i:Nat}{cs:List AV}(hm:SimM P G F M nx w)(ho:mlook M i=some (.cells cs)):
  ∃b,G i=some (.pointer (some ⟨b,0,none⟩))∧SimM P G (frzF F b cs.length) (mdel M i) nx w∧Step All G F M w G (frzF F b cs.length) (mdel M i) w:=by
 obtain⟨b,cc,e,h1,h2,h3,h4,h5⟩:=(hm.obj i _ ho).2;have S:Step All G F M w G (frzF F b cs.length) (mdel M i) w:=
  { kept:=.refl
    size:=Nat.le_refl _
    out:=fun _ _ _=>rfl
    F1:=fun _ _ h=>.inl h
    F2:=fun _ _ _=>rfl
    F3:=fun b' o h=>by
     rcases h with h|⟨rfl,_⟩
     ·exact .inl h
     ·exact .inr (.inr ⟨i,_,_,ho,h1,rfl⟩)
    own:=fun b ⟨id,o,v,h3,h4,h5⟩=>by
     rw[mlook_mdel]at h3;by_cases hi:id=i
     ·rw[if_pos hi]at h3;cases h3
     ·rw[if_neg hi]at h3;exact .inr ⟨id,o,v,h3,h4,h5⟩
    some':=fun _ _ h=>h
    same:=fun _ _ _ h _=>h
    keep:=fun id o' _ hG h3=>by
     obtain⟨v,hv⟩:=Option.ne_none_iff_exists'.1 hG;rw[mlook_mdel]at h3;by_cases hi:id=i
     ·rw[if_pos hi]at h3;cases h3
     ·rw[if_neg hi]at h3;exact⟨o',v,v,h3,hv,hv,objKeep.refl v o'⟩ }
 have ne:∀{id},mlook (mdel M i) id≠none→id≠i∧mlook M id≠none:=fun{id} h=>by
  rw[mlook_mdel]at h;by_cases hi:id=i
  ·rw[if_pos hi]at h;exact absurd rfl h
  ·rw[if_neg hi]at h;exact⟨hi,h⟩
 refine⟨b,h1,simM_gen hm S (fun id o' h=>?_) (fun id id' v v' b' k1 k2=>hm.inj id id' v v' b' (ne k1).2 (ne k2).2) (fun b' o h=>?_),S⟩
 ·have hne:=ne (id:=id) (by rw[h];simp);have h':mlook M id=some o':=by
   rw[mlook_mdel,if_neg hne.1]at h;exact h
  refine⟨(hm.obj id _ h').1,.inr ⟨h',rfl,fun b' v hG hb=>⟨rfl,fun o hF=>?_⟩⟩⟩;rcases hF with hF|⟨rfl,_⟩
  ·exact hF
  ·exact absurd (hm.inj id i _ _ _ (by rw[h'];simp) (by rw[ho];simp) hG h1 hb rfl) hne.1
 ·rcases h with h|⟨rfl,_⟩
  ·exact hm.inF _ _ h
  ·exact(Array.getElem?_eq_some_iff.1 h2).1
theorem SimA.frzB{i:Nat}{st':St}(s:SimA P fr ds G F st a w)(h:st.frzB i=some st'):∃F',SimA P fr ds G F' st' a w∧Step (·<fr.base) G F st.mem w G F' st'.mem w:=by
 unfold St.frzB at h;split at h
 ·rename_i cs ho;split at h
  ·rename_i hn;cases h;obtain⟨b,hG,hm',S'⟩:=simM_frzB s.sim.mem ho;refine⟨_,?_,S'.mono fun _ _=>trivial⟩;have s1:SimA P fr ds G (frzF F b cs.length) ⟨st.vars,st.tmps,mdel st.mem i,st.nx⟩ a w:=⟨⟨hm',fun k=>(s.sim.slots k).step S' (fun _ _=>trivial),s.sim.size⟩,s.fresh,s.defers⟩;obtain⟨b',cc,e,h1,h2,h3,h4,h5⟩:=(s.sim.mem.obj i _ ho).2;rw[hG]at h1;cases h1;refine s1.map rfl fun v y h=>h.deep fun v y h=>?_;unfold toIa;split
   ·rename_i j off;split
    ·rename_i hj;subst hj;obtain⟨b',hG',rfl⟩:=h.inv_rf;rw[hG]at hG';cases hG';refine .imm (.ia b off (cs.drop off) (fun j=>(cc[off+j]?).getD undef) (fun k hk=>⟨.inr ⟨rfl,by simp at hk;omega⟩,?_⟩) (fun k hk=>?_))
     ·rw[cell?_block h2];simp only[List.length_drop]at hk;rw[Array.getElem?_eq_getElem (by omega)];rfl
     ·simp only[List.length_drop]at hk;rw[List.getElem_drop,Array.getElem?_eq_getElem (by omega)];exact((h4 (off+k) (by omega) (by omega)).step S' (fun _ _=>trivial)).imm_of (norefs_get cs hn _ _)
    ·exact h
   ·exact h
  ·cases h
 ·cases h
theorem EvC.frzB(i:Nat){st':St}(h:st.frzB i=some st')(hc:EvC P fr ro ds c st' Q):EvC P fr ro ds c st Q:=
 EvC.conv (fun _ _ _ _ s=>let⟨F',s',S'⟩:=s.frzB h;⟨_,F',s',S'⟩) hc
theorem OpIs.skipv{id j k:Nat}{want:Bool}(v:AV)(hg:o.guard=some (j,want))(hj:gslot ops j=some k)(hk:gval want (st.get fr k)=some false)(hd:dok fr o.dst=true):OpIs P fr ro ds ops id st ⟨o,⟨.opt false v,none⟩,[2*k]⟩:=by
 intro st' G F a w N K Q1 s hN hG hl h;have hw:=wantedD s hg hj (by rw[look_slot (hl _ List.mem_cons_self)];exact hk);rw[hw];simp only[Bool.false_eq_true,if_false];exact⟨fun _ _=>trivial,s.skip hd (.imm (.opt false _ _ (fun h=>by cases h) (fun _=>rfl))) h⟩
end
attribute [go_sem] St.frzB toIa
theorem cell?_put{w:World}{l:Nat}{ob:Obj}{b o:Nat}(h:b≠l):(w.putObj l ob).cell? ⟨b,o,none⟩=w.cell? ⟨b,o,none⟩:=cell?_same (World.putObj_heap_other h) o
theorem unfroz_nd{o:Obj}(h:isData o=false):unfroz o=true:=by cases o<;>simp_all[isData,unfroz]
theorem Step.putAbove{G:Nat→Option Value}{F:Nat→Nat→Prop}{M:Mem}{w:World}{B:Nat→Prop}{G0:Nat→Option Value}{F0:Nat→Nat→Prop}{M0:Mem}{w0:World}{l:Nat}{o1:Obj}(S:Step B G0 F0 M0 w0 G F M w)(hl:w0.heap.size≤l)(h:w.heap[l]?=some o1)(h1:isData o1=false){o2:Obj}(h2:isData o2=false):Step B G0 F0 M0 w0 G F M (w.putObj l o2):=
 { kept:=S.kept.trans (.set h (unfroz_nd h1) (unfroz_nd h2) (fun _ _ h=>by subst h;cases h1))
   size:=by rw[World.putObj_size];exact S.size
   out:=fun b hb ho=>by rw[World.putObj_heap_other (by omega)];exact S.out b hb ho
   F1:=S.F1
   F2:=fun b o hF=>by
    by_cases e:b=l
    ·subst e;have k:=S.F2 b o hF;rw[←k];simp only[World.cell?,h,World.putObj_heap_same (Array.getElem?_eq_some_iff.1 h).1];cases o1<;>cases o2<;>simp_all[isData]
    ·rw[cell?_put e];exact S.F2 b o hF
   F3:=S.F3,own:=S.own,some':=S.some',same:=S.same,keep:=S.keep }
structure EnvStep (O:Nat→Prop) (F:Nat→Nat→Prop) (w:World) (F':Nat→Nat→Prop) (w':World):Prop where
 size:w.heap.size≤w'.heap.size
 own:∀b,O b→w'.heap[b]?=w.heap[b]?
 F1:∀b o,F b o→F' b o
 F2:∀b o,F b o→w'.cell? ⟨b,o,none⟩=w.cell? ⟨b,o,none⟩
 F3:∀b o,F' b o→O b→F b o
 inF:∀b o,F' b o→b<w'.heap.size
 kept:Kept w w'
structure ItStep (O:Nat→Prop) (F:Nat→Nat→Prop) (w:World) (O':Nat→Prop) (F':Nat→Nat→Prop) (w':World):Prop where
 size:w.heap.size≤w'.heap.size
 out:∀b,b<w.heap.size→¬O b→w'.heap[b]?=w.heap[b]?
 F1:∀b o,F b o→F' b o
 F2:∀b o,F b o→w'.cell? ⟨b,o,none⟩=w.cell? ⟨b,o,none⟩
 F3:∀b o,F' b o→F b o∨w.heap.size≤b∨O b
 own:∀b,O' b→w.heap.size≤b∨O b
 inF:∀b o,F' b o→b<w'.heap.size
 low:∀b,O' b→b<w'.heap.size
 kept:Kept w w'
abbrev Env:=Option Nat→(Nat→Nat→Prop)→(Nat→Prop)→World→Prop
structure GS (B:Nat→Prop) (G:Nat→Option Value) (F:Nat→Nat→Prop) (M:Mem) (w:World) (G':Nat→Option Value) (F':Nat→Nat→Prop) (M':Mem) (w':World):Prop where
 F1:∀b o,F b o→F' b o
 F2:∀b o,F b o→w'.cell? ⟨b,o,none⟩=w.cell? ⟨b,o,none⟩
 some':∀id,B id→G id≠none→G' id≠none
 same:∀id v,B id→G id=some v→(∀a n c,v≠ .slice a n c)→G' id=some v
 keep:∀id o',B id→G id≠none→mlook M' id=some o'→∃o v v',mlook M id=some o∧G id=some v∧G' id=some v'∧objKeep v v' o o'
structure YRef where
 X:Nat→Prop
 G:Nat→Option Value
 F:Nat→Nat→Prop
 M:Mem
 w:World
structure OkX (B:Nat→Prop) (R:YRef) (X:Nat→Prop) (G:Nat→Option Value) (F:Nat→Nat→Prop) (M:Mem) (w:World):Prop where
 env:EnvStep R.X R.F R.w F w
 gs:GS B R.G R.F R.M R.w G F M w
 low:∀b,X b→b<w.heap.size
 disj:∀b,X b→¬Owned G M b
 sub:∀b,R.X b→X b
section
variable {P:Program} {fr:Fr} {ro:Option Nat} {ds:DS} {st st':St} {G G':Nat→Option Value} {F F':Nat→Nat→Prop} {a:Act} {w w':World} {x y c:Code}
 {M M':Mem} {ops:Array Oper} {l rest:List Oper} {o:Oper} {h0:Nat} {X:Nat→Prop} {R:YRef} {J:Env} {k:Option Nat} {Q Q':Exit→St→Option Nat→Prop} {O:Nat→Prop}
def bindP(fr:Fr):List Nat→List AV→St→St
 | p::ps,v::vs,st=>bindP fr ps vs (st.put fr (some p) v)
 | _,_,st=>st
theorem SimA.keepData{a:Act}(s:SimA P fr ds G F st a w)(hk:∀(b:Nat) (o:Obj),w.heap[b]?=some o→isData o=true→w'.heap[b]?=some o)(hs:w.heap.size≤w'.heap.size)(hm:Marks ds a.defers w'):SimA P fr ds G F st a w':=
 ⟨⟨s.sim.mem.keepData hk hs,fun k=>(s.sim.slots k).keepData hk,s.sim.size⟩,s.fresh,hm⟩
theorem keep_put{l:Nat}{o1:Obj}(h:w.heap[l]?=some o1)(h1:isData o1=false)(o2:Obj):∀(b:Nat) (o:Obj),w.heap[b]?=some o→isData o=true→(w.putObj l o2).heap[b]?=some o:=fun b o hb ho=>by
 rw[World.putObj_heap_other (by rintro rfl;rw[h]at hb;cases hb;rw[h1]at ho;cases ho)];exact hb
end
section
variable {P:Program} {fr:Fr} {ro:Option Nat} {ds:DS} {st st':St} {G G':Nat→Option Value} {F F':Nat→Nat→Prop} {a:Act} {w w':World} {x y c:Code}
 {M:Mem} {Q:Exit→St→Prop}
theorem Step.allocs{B:Nat→Prop}{G0:Nat→Option Value}{F0:Nat→Nat→Prop}{M0:Mem}{w0:World}(S:Step B G0 F0 M0 w0 G F M w)(hs:w.heap.size≤w'.heap.size)(hk:∀b,b<w.heap.size→w'.heap[b]?=w.heap[b]?)(hF:∀b o,F b o→b<w.heap.size)(hkp:Kept w w'):Step B G0 F0 M0 w0 G F M w':=
 { kept:=S.kept.trans hkp
   size:=Nat.le_trans S.size hs
   out:=fun b hb ho=>(hk b (Nat.lt_of_lt_of_le hb S.size)).trans (S.out b hb ho)
   F1:=S.F1
   F2:=fun b o h=>(cell?_same (hk b (hF b o (S.F1 b o h))) o).trans (S.F2 b o h)
   F3:=S.F3,own:=S.own,some':=S.some',same:=S.same,keep:=S.keep }
structure Core (P:Program) (fr:Fr) (ds:DS) (a:Act) (N:Nat) (mk:List Deferred) (G0:Nat→Option Value) (F0:Nat→Nat→Prop) (M0:Mem) (w0:World) (st:St) (G:Nat→Option Value) (F:Nat→Nat→Prop) (O:Nat→Prop) (W:World):Prop where
 mem:SimM P G F st.mem st.nx W
 slots:∀i,RV G F st.mem W (a.tmps.getD i undef) (st.get fr i)
 fresh:∀j,st.nx≤j→G j=none
 step:Step (·<fr.base) G0 F0 M0 w0 G F st.mem W
 marks:Marks ds (mk++a.defers) W
 disj:∀b,Owned G st.mem b→¬O b
 lo:∀b,O b→N≤b
 wN:w0.heap.size≤N
 NW:N≤W.heap.size
 mlt:(∀D,dmark D∈mk++a.defers→D<N)∧∀l0,ds.ro=some l0→l0<N
end
attribute [go_sem] bindP
def RObj.snapC(f:AV→AV):RObj→RObj
 | .cells cs=>.cells (cs.map f)
 | o=>o
def memMap(f:AV→AV):List (Nat×RObj)→List (Nat×RObj)
 | []=>[]
 | (i,o)::r=>(i,o.snapC f)::memMap f r
def St.frzD(i:Nat)(st:St):Option St:=
 match st.frz i with
 | some st'=>match mlook st.mem i with
   | some (.arr esz es _)=>some ⟨st'.vars,st'.tmps,memMap (AV.deep (snap [(i,.arr esz es true)])) st'.mem,st'.nx⟩
   | _=>none
 | none=>none
section
variable {P:Program} {fr:Fr} {ro:Option Nat} {ds:DS} {st st':St} {G G':Nat→Option Value} {F F':Nat→Nat→Prop} {a:Act} {w w':World} {x y c:Code}
 {M:Mem} {Q:Exit→St→Prop} {f:AV→AV}
theorem mlook_memMap:∀(M:Mem) (i:Nat),mlook (memMap f M) i=(mlook M i).map (RObj.snapC f)
 | [],_=>rfl
 | (j,o)::r,i=>by
   simp only[memMap,mlook];split
   ·rfl
   ·exact mlook_memMap r i
theorem memMap_arr{i esz:Nat}{es:List (List AV)}{fz:Bool}(h:mlook (memMap f M) i=some (.arr esz es fz)):mlook M i=some (.arr esz es fz):=by
 rw[mlook_memMap]at h;cases ho:mlook M i with
 | none=>rw[ho]at h;cases h
 | some o=>rw[ho]at h;cases o<;>simp[RObj.snapC]at h⊢;exact h
theorem RV.memMap{v:Value}{x:AV}(h:RV G F M w v x):RV G F (memMap f M) w v x:=by
 induction h with
 | imm h=>exact .imm h
 | ag vs cs hl _ ih=>exact .ag vs cs hl ih
 | tu vs cs hl _ ih=>exact .tu vs cs hl ih
 | ifc t v x _ ih=>exact .ifc t v x ih
 | fn f vs cs hl _ ih=>exact .fn f vs cs hl ih
 | opt b v x _ h' ih=>exact .opt b v x ih h'
 | rf id off b h=>exact .rf id off b h
 | tl id len nl v hG h=>exact .tl id len nl v hG fun esz es fz ho=>h esz es fz (memMap_arr ho)
 | tv id n off len cap v hG h=>exact .tv id n off len cap v hG fun esz es fz ho=>h esz es fz (memMap_arr ho)
 | ea id n i off v hG h=>exact .ea id n i off v hG fun esz es fz ho=>h esz es fz (memMap_arr ho)
 | mp id b h=>exact .mp id b h
theorem SimA.memMap(hf:∀v y,RV G F st.mem w v y→RV G F st.mem w v (f y))(s:SimA P fr ds G F st a w):
  SimA P fr ds G F ⟨st.vars,st.tmps,Avl.memMap f st.mem,st.nx⟩ a w∧Step (·<fr.base) G F st.mem w G F (Avl.memMap f st.mem) w:=by
 have hsome:∀i,mlook (Avl.memMap f st.mem) i≠none→mlook st.mem i≠none:=fun i h he=>by rw[mlook_memMap,he]at h;exact h rfl
 refine⟨⟨⟨⟨fun id o ho=>?_,fun id id' v v' b h1 h2=>s.sim.mem.inj id id' v v' b (hsome _ h1) (hsome _ h2),s.sim.mem.inF,s.sim.mem.gl⟩,fun k=>(s.sim.slots k).memMap,s.sim.size⟩,s.fresh,s.defers⟩,?_⟩
 ·rw[mlook_memMap]at ho;obtain⟨o',ho',rfl⟩:=Option.map_eq_some_iff.1 ho;obtain⟨h1,h2⟩:=s.sim.mem.obj id o' ho';refine⟨h1,?_⟩;cases o' with
  | cells cs=>
    obtain⟨b,c,e,k1,k2,k3,k4,k5⟩:=h2;exact⟨b,c,e,k1,k2,by rw[List.length_map];exact k3,fun i a b=>by rw[List.getElem_map];exact(hf _ _ (k4 i a (by simpa using b))).memMap,k5⟩
  | arr esz es fz=>
    rcases h2 with h|⟨b,c,cc,e,k1,k2,k3,k4,k5,k6,k7,k8⟩
    ·exact .inl h
    ·exact .inr ⟨b,c,cc,e,k1,k2,k3,k4,k5,k6,fun i j a b=>let⟨v,x,y,z⟩:=k7 i j a b;⟨v,x,y,z.memMap⟩,k8⟩
  | map kt es=>obtain⟨b,ents,clock,k1,k2,k3,k4,k5⟩:=h2;exact⟨b,ents,clock,k1,k2,k3,fun i a b=>let⟨x,y,z⟩:=k4 i a b;⟨x,y.memMap,z⟩,k5⟩
 ·exact
  { kept:=.refl
    size:=Nat.le_refl _
    out:=fun _ _ _=>rfl
    F1:=fun _ _ h=>h
    F2:=fun _ _ _=>rfl
    F3:=fun _ _ h=>.inl h
    own:=fun b ⟨id,o,v,h1,h2,h3⟩=>by
     rw[mlook_memMap]at h1;obtain⟨o',ho',rfl⟩:=Option.map_eq_some_iff.1 h1;exact .inr ⟨id,o',v,ho',h2,h3⟩
    some':=fun _ _ h=>h
    same:=fun _ _ _ h _=>h
    keep:=fun id o _ hG h1=>by
     rw[mlook_memMap]at h1;obtain⟨o',ho',rfl⟩:=Option.map_eq_some_iff.1 h1;obtain⟨v,hv⟩:=Option.ne_none_iff_exists'.1 hG;refine⟨o',v,v,ho',hv,hv,?_⟩;cases o' with
     | cells cs=>exact rfl
     | arr esz es fz=>exact objKeep.refl _ _
     | map kt es=>exact objKeep.refl _ _ }
theorem snap_one{i esz:Nat}{es:List (List AV)}{fz:Bool}(ho:mlook M i=some (.arr esz es true))(hm:∀v y,RV G F M w v y→RV G F M w v (snap M y)){v:Value}{y:AV}(h:RV G F M w v y):RV G F M w v (snap [(i,.arr esz es true)] y):=by
 cases y with
 | tl j n b=>
   by_cases hj:j=i
   ·subst hj;have:=hm _ _ h;simp only[snap,ho]at this;simp only[snap,mlook,if_true];exact this
   ·simp only[snap,mlook,if_neg hj];exact h
 | tv j n off len cap=>
   by_cases hj:j=i
   ·subst hj;have:=hm _ _ h;simp only[snap,ho]at this;simp only[snap,mlook,if_true];exact this
   ·simp only[snap,mlook,if_neg hj];exact h
 | _=>exact h
theorem SimA.frzD{i:Nat}{st':St}(s:SimA P fr ds G F st a w)(h:st.frzD i=some st'):∃F',SimA P fr ds G F' st' a w∧Step (·<fr.base) G F st.mem w G F' st'.mem w:=by
 unfold St.frzD at h;split at h
 ·rename_i st1 h1;obtain⟨F',s1,S1⟩:=s.frz h1;split at h
  ·rename_i esz es fz ho;cases h;have hm1:mlook st1.mem i=some (.arr esz es true):=by
    unfold St.frz at h1;rw[ho]at h1;simp only at h1;split at h1
    ·cases h1;simp only[St.map,mlook_mset,if_true]
    ·cases h1
   obtain⟨s2,S2⟩:=s1.memMap (f:=AV.deep (snap [(i,.arr esz es true)])) fun v y h=>h.deep fun v y h=>snap_one (fz:=true) hm1 (fun v y h=>h.snap s1.sim.mem) h;exact⟨F',s2,S1.trans S2⟩
  ·cases h
 ·cases h
theorem EvC.frzD(i:Nat){st':St}(h:st.frzD i=some st')(hc:EvC P fr ro ds c st' Q):EvC P fr ro ds c st Q:=
 EvC.conv (fun _ _ _ _ s=>let⟨F',s',S'⟩:=s.frzD h;⟨_,F',s',S'⟩) hc
end
attribute [go_sem] St.frzD memMap RObj.snapC
def St.ownV(fr:Fr)(k esz:Nat)(st:St):Option St:=
 match st.get fr k with
 | .sl nl [] .zer=>some ((⟨st.vars,st.tmps,(st.nx,.arr esz [] true)::st.mem,st.nx+1⟩:St).put fr (some k) (.tl st.nx 0 nl))
 | _=>none
def St.ownC(i j esz:Nat)(st:St):Option St:=
 match mlook st.mem i with
 | some (.cells cs)=>match cs[j]? with
   | some (.sl nl [] .zer)=>some ⟨st.vars,st.tmps,mset ((st.nx,.arr esz [] true)::st.mem) i (.cells (cs.set j (.tl st.nx 0 nl))),st.nx+1⟩
   | _=>none
 | _=>none
section
variable {P:Program} {fr:Fr} {ro:Option Nat} {ds:DS} {st st':St} {G G':Nat→Option Value} {F F':Nat→Nat→Prop} {a:Act} {w w':World} {x y c:Code}
 {M:Mem} {Q:Exit→St→Prop} {f:AV→AV}
theorem Imm.zer_inv{v:Value}{nl:Bool}(h:Imm F w v (.sl nl [] .zer)):∃va,v=.slice va 0 0∧nl=isNilSlice v∧∀a,va=some a→a=a:=by
 cases h with
 | nil _ _=>exact⟨none,rfl,rfl,fun a h=>by cases h⟩
 | sz a _ _=>exact⟨some a,rfl,rfl,fun _ _=>rfl⟩
 | sl b off c esz _ _ vs hc hcap hes hF hi=>
   rcases hcap with h|⟨_,h⟩|⟨h,_⟩|h
   ·cases h
   ·subst h;exact⟨some ⟨b,off,none⟩,rfl,rfl,fun a h=>by cases h;rfl⟩
   ·cases h
   ·cases h
theorem simM_own{nx esz:Nat}{va:Option Addr}(hm:SimM P G F M nx w)(hf:∀j,nx≤j→G j=none)(hv:∀a,va=some a→a=a):
  SimM P (upG G nx (.slice va 0 0)) F ((nx,.arr esz [] true)::M) (nx+1) w∧Step All G F M w (upG G nx (.slice va 0 0)) F ((nx,.arr esz [] true)::M) w:=by
 have hid:=hf nx (Nat.le_refl _);have hne:∀j,G j≠none→j≠nx:=fun j hj e=>hj (e▸hid);have hno:mlook M nx=none:=hm.noM hid;have hbl:blkOf (.slice va 0 0)=none:=by cases va<;>simp[blkOf]
 have S:Step All G F M w (upG G nx (.slice va 0 0)) F ((nx,.arr esz [] true)::M) w:=
  { kept:=.refl,size:=Nat.le_refl _
    out:=fun _ _ _=>rfl
    F1:=fun _ _ h=>h
    F2:=fun _ _ _=>rfl
    F3:=fun _ _ h=>.inl h
    own:=fun b ⟨j,o',v,ho,hv,hbv⟩=>by
     by_cases e:j=nx
     ·subst e;rw[upG_self]at hv;cases hv;rw[hbl]at hbv;cases hbv
     ·rw[mlook_cons,if_neg e]at ho;rw[upG_other G _ e]at hv;exact .inr ⟨j,o',v,ho,hv,hbv⟩
    some':=fun j _ hj=>by rw[upG_other G _ (hne j hj)];exact hj
    same:=fun j v _ hj _=>by rw[upG_other G _ (hne j (by simp[hj]))];exact hj
    keep:=fun j o' _ hj ho=>by
     have e:=hne j hj;rw[mlook_cons,if_neg e]at ho;obtain⟨v,hv⟩:=Option.ne_none_iff_exists'.1 hj;exact⟨o',v,v,ho,hv,by rw[upG_other G _ e];exact hv,objKeep.refl v o'⟩ }
 refine⟨simM_gen hm S (fun id o' ho=>?_) (fun id id' v v' b h1 h2 h3 h4 h5 h6=>?_) hm.inF,S⟩
 ·by_cases e:id=nx
  ·subst e;rw[mlook_cons,if_pos rfl]at ho;cases ho;exact⟨Nat.lt_succ_self _,.inl (.inl ⟨rfl,va,upG_self _ _ _,hv⟩)⟩
  ·rw[mlook_cons,if_neg e]at ho;exact⟨Nat.lt_succ_of_lt (hm.obj id o' ho).1,.inr ⟨ho,upG_other G _ e,fun b v _ _=>⟨rfl,fun _ h=>h⟩⟩⟩
 ·have nn:∀{j v b},upG G nx (.slice va 0 0) j=some v→blkOf v=some b→j≠nx:=fun{j v b} hg hb e=>by
    subst e;rw[upG_self]at hg;cases hg;rw[hbl]at hb;cases hb
  have e1:=nn h3 h5;have e2:=nn h4 h6;rw[mlook_cons,if_neg e1]at h1;rw[mlook_cons,if_neg e2]at h2;rw[upG_other G _ e1]at h3;rw[upG_other G _ e2]at h4;exact hm.inj id id' v v' b h1 h2 h3 h4 h5 h6
theorem SimA.ownC{i j esz:Nat}(s:SimA P fr ds G F st a w)(h:st.ownC i j esz=some st'):∃G',SimA P fr ds G' F st' a w∧Step (·<fr.base) G F st.mem w G' F st'.mem w:=by
 unfold St.ownC at h;split at h
 ·rename_i cs ho;split at h
  ·rename_i nl hj;cases h;obtain⟨hin,b,cc,el,k1,k2,k3,k4,k5⟩:=s.sim.mem.obj i _ ho;obtain⟨hjl,hjv⟩:=List.getElem?_eq_some_iff.1 hj;have hv:=k4 j (by omega) hjl;rw[hjv]at hv;obtain⟨va,e,hnl,hsp⟩:=hv.inv_sl.zer_inv;obtain⟨hm',S'⟩:=simM_own (esz:=esz) s.sim.mem s.fresh hsp;have hne:i≠st.nx:=Nat.ne_of_lt hin;obtain⟨M1,hM1⟩:∃M1,M1=((st.nx,RObj.arr esz [] true)::st.mem):=⟨_,rfl⟩;obtain⟨G1,hG1⟩:∃G1,G1=upG G st.nx (.slice va 0 0):=⟨_,rfl⟩;rw[←hM1,←hG1]at hm' S';have ho1:mlook M1 i=some (.cells cs):=by rw[hM1,mlook_cons,if_neg hne];exact ho
   have hgi:G1 i=some (.pointer (some ⟨b,0,none⟩)):=by rw[hG1,upG_other G _ hne];exact k1
   have harr:∀{id esz' es fz},mlook (mset M1 i (.cells (cs.set j (.tl st.nx 0 nl)))) id=some (.arr esz' es fz)→mlook M1 id=some (.arr esz' es fz):=fun{id esz' es fz} h=>by
    rw[mlook_mset]at h;split at h
    ·cases h
    ·exact h
   have hrv:∀{v:Value} {x:AV},RV G1 F M1 w v x→RV G1 F (mset M1 i (.cells (cs.set j (.tl st.nx 0 nl)))) w v x:=fun h=>by
    induction h with
    | imm h=>exact .imm h
    | ag vs cs hl _ ih=>exact .ag vs cs hl ih
    | tu vs cs hl _ ih=>exact .tu vs cs hl ih
    | ifc t v x _ ih=>exact .ifc t v x ih
    | fn f vs cs hl _ ih=>exact .fn f vs cs hl ih
    | opt b v x _ h' ih=>exact .opt b v x ih h'
    | rf id off b h=>exact .rf id off b h
    | tl id len nl v hG h=>exact .tl id len nl v hG fun esz es fz ho=>h esz es fz (harr ho)
    | tv id n off len cap v hG h=>exact .tv id n off len cap v hG fun esz es fz ho=>h esz es fz (harr ho)
    | ea id n i off v hG h=>exact .ea id n i off v hG fun esz es fz ho=>h esz es fz (harr ho)
    | mp id b h=>exact .mp id b h
   have hsome:∀id,mlook (mset M1 i (.cells (cs.set j (.tl st.nx 0 nl)))) id≠none→mlook M1 id≠none:=fun id h he=>by
    rw[mlook_mset]at h;split at h
    ·rename_i e;subst e;rw[ho1]at he;cases he
    ·exact h he
   have hobj:∀{id o},ObjOk P G1 F M1 w id o→ObjOk P G1 F (mset M1 i (.cells (cs.set j (.tl st.nx 0 nl)))) w id o:=fun{id o} h=>by
    cases o with
    | cells cs=>obtain⟨b,c,e,k1,k2,k3,k4,k5⟩:=h;exact⟨b,c,e,k1,k2,k3,fun i a b=>hrv (k4 i a b),k5⟩
    | arr esz es fz=>
      rcases h with h|⟨b,c,cc,e,k1,k2,k3,k4,k5,k6,k7,k8⟩
      ·exact .inl h
      ·exact .inr ⟨b,c,cc,e,k1,k2,k3,k4,k5,k6,fun i j a b=>let⟨v,x,y,z⟩:=k7 i j a b;⟨v,x,y,hrv z⟩,k8⟩
    | map kt es=>obtain⟨b,ents,clock,k1,k2,k3,k4,k5⟩:=h;exact⟨b,ents,clock,k1,k2,k3,fun i a b=>let⟨x,y,z⟩:=k4 i a b;⟨x,hrv y,z⟩,k5⟩
   have S2:Step All G1 F M1 w G1 F (mset M1 i (.cells (cs.set j (.tl st.nx 0 nl)))) w:=
    { kept:=.refl,size:=Nat.le_refl _
      out:=fun _ _ _=>rfl
      F1:=fun _ _ h=>h
      F2:=fun _ _ _=>rfl
      F3:=fun _ _ h=>.inl h
      own:=fun b ⟨id,o,v,h1,h2,h3⟩=>.inr (by
       obtain⟨o',ho'⟩:=Option.ne_none_iff_exists'.1 (hsome id (by rw[h1];simp));exact⟨id,o',v,ho',h2,h3⟩)
      some':=fun _ _ h=>h
      same:=fun _ _ _ h _=>h
      keep:=fun id o _ hG h1=>by
       obtain⟨v,hvG⟩:=Option.ne_none_iff_exists'.1 hG;rw[mlook_mset]at h1;by_cases e:id=i
       ·rw[if_pos e]at h1;cases h1;subst e;exact⟨_,v,v,ho1,hvG,hvG,rfl⟩
       ·rw[if_neg e]at h1;exact⟨o,v,v,h1,hvG,hvG,objKeep.refl v o⟩ }
   rw[←hM1];refine⟨G1,⟨⟨⟨fun id o h=>?_,fun id id' v v' b h1 h2=>hm'.inj id id' v v' b (hsome _ h1) (hsome _ h2),hm'.inF,hm'.gl⟩,fun k=>hrv ((s.sim.slots k).step S' fun _ _=>trivial),s.sim.size⟩,fun k hk=>?_,s.defers⟩,(S'.trans S2).mono fun _ _=>trivial⟩
   ·rw[mlook_mset]at h;by_cases e:id=i
    ·rw[if_pos e]at h;cases h;subst e;refine⟨Nat.lt_succ_of_lt hin,b,cc,el,hgi,k2,by rw[List.length_set];exact k3,fun q q1 q2=>?_,k5⟩;by_cases hq:q=j
     ·subst hq;rw[List.getElem_set_self,e];refine .tl st.nx 0 nl _ (by rw[hG1,upG_self];simp) fun esz' es fz hx=>?_;rw[mlook_mset,if_neg (Ne.symm hne),hM1,mlook_cons,if_pos rfl]at hx;cases hx;exact⟨Nat.le_refl _,fun _=>⟨by rw[hG1];exact upG_self _ _ _,by rw[hnl,e]⟩⟩
     ·rw[List.getElem_set_ne (Ne.symm hq)];exact hrv ((k4 q q1 (by simpa using q2)).step S' fun _ _=>trivial)
    ·rw[if_neg e]at h;exact⟨(hm'.obj id o h).1,hobj (hm'.obj id o h).2⟩
   ·have hk:st.nx+1≤k:=hk;rw[hG1,upG_other G _ (by omega)];exact s.fresh k (by omega)
  ·cases h
 ·cases h
theorem EvC.ownC(i j esz:Nat){st':St}(h:st.ownC i j esz=some st')(hc:EvC P fr ro ds c st' Q):EvC P fr ro ds c st Q:=
 EvC.conv (fun _ F _ _ s=>let⟨G',s',S'⟩:=s.ownC h;⟨G',F,s',S'⟩) hc
mutual
def AV.unk:AV→AV
 | .sl nl es _=>.sl nl (AV.unkss es) .unk
 | .ag cs=>.ag (AV.unks cs)
 | .tu cs=>.tu (AV.unks cs)
 | .ia cs=>.ia (AV.unks cs)
 | .ifc t v=>.ifc t v.unk
 | .fn f cs=>.fn f (AV.unks cs)
 | v=>v
def AV.unks:List AV→List AV
 | []=>[]
 | c::cs=>c.unk::AV.unks cs
def AV.unkss:List (List AV)→List (List AV)
 | []=>[]
 | c::cs=>AV.unks c::AV.unkss cs
end
theorem unks_eq:∀cs:List AV,AV.unks cs=cs.map AV.unk
 | []=>rfl
 | c::cs=>by simp only[AV.unks,List.map_cons,unks_eq cs]
theorem unkss_eq:∀cs:List (List AV),AV.unkss cs=cs.map AV.unks
 | []=>rfl
 | c::cs=>by simp only[AV.unkss,List.map_cons,unkss_eq cs]
theorem unks_len(c:List AV):(AV.unks c).length=c.length:=by rw[unks_eq];simp
theorem unkss_map{α:Type}(f:α→List AV)(h:∀x,AV.unks (f x)=f x)(l:List α):AV.unkss (l.map f)=l.map f:=by
 rw[unkss_eq,List.map_map];exact List.map_congr_left fun x _=>h x
theorem Imm.unk{v:Value}{x:AV}(h:Imm F w v x):Imm F w v x.unk:=by
 induction h with
 | sc v=>exact .sc v
 | ag vs cs hl _ ih=>exact .ag vs _ (by rw[unks_eq];simpa using hl) fun i a b=>by simp only[unks_eq,List.getElem_map];exact ih i a _
 | tu vs cs hl _ ih=>exact .tu vs _ (by rw[unks_eq];simpa using hl) fun i a b=>by simp only[unks_eq,List.getElem_map];exact ih i a _
 | nil cap hc=>exact .nil _ (.inl rfl)
 | sz a cap hc=>exact .sz a _ (.inl rfl)
 | sl b off c esz es cap vs hc' hcap hes hF hi ih=>
   have hl:(AV.unkss es).length=es.length:=by rw[unkss_eq];simp
   have:=Imm.sl (F:=F) (w:=w) b off c esz (AV.unkss es) .unk vs (by rw[hl];exact hc') (.inl rfl) (fun i h=>by simp only[unkss_eq,List.getElem_map,unks_len];exact hes i _) (fun i j h1 h2=>hF i j (by rw[hl]at h1;exact h1) h2)
    (fun i j h1 h2=>by
     simp only[unkss_eq,List.getElem_map,unks_eq];exact ih i j (by rw[hl]at h1;exact h1) (by simpa only[unkss_eq,List.getElem_map,unks_len]using h2))
   rw[hl]at this;exact this
 | ia b off cs vs hF hi ih=>exact .ia b off _ vs (fun j h=>hF j (by rw[unks_len]at h;exact h)) fun j h=>by simp only[unks_eq,List.getElem_map];exact ih j (by rw[unks_len]at h;exact h)
 | ifc t v x h ih=>exact .ifc t v _ ih
 | fn f vs cs hl h ih=>exact .fn f vs _ (by rw[unks_len];exact hl) fun i a b=>by simp only[unks_eq,List.getElem_map];exact ih i a (by rw[unks_len]at b;exact b)
 | opt b v x h h' _=>exact .opt b v x h h'
 | junk v=>exact .junk v
theorem PureIs.weak{f:FuncId}{args:List AV}{r:AV}(h:PureIs P f (args.map AV.unk) r):PureIs P f args r:=
 ⟨h.1,fun F w vals hF hi=>h.2 F w vals hF ⟨by simpa using hi.1,fun i a b=>by rw[List.getElem_map];exact(hi.2 i a (by simpa using b)).unk⟩⟩
theorem PureIs.weakR{f:FuncId}{args:List AV}{r:AV}(h:PureIs P f args r):PureIs P f args r.unk:=
 ⟨h.1,fun F w vals hF hi=>(h.2 F w vals hF hi).mono fun _ _ ⟨v,F',h1,h2,h3⟩=>⟨v,F',h1,h2.unk,h3⟩⟩
end
attribute [go_sem] St.ownV St.ownC AV.unk AV.unks AV.unkss
def resOneR(P:Program)(fr:Fr)(st:St):ResultVar→Option AV
 | .tmp t=>some (st.get fr t)
 | .cell a t=>resOne P fr st (.cell a t)
def resAllR(P:Program)(fr:Fr)(st:St):List ResultVar→Option (List AV)
 | []=>some []
 | x::xs=>match resOneR P fr st x,resAllR P fr st xs with
   | some v,some vs=>some (v::vs)
   | _,_=>none
section
variable {P:Program} {fr:Fr} {ro:Option Nat} {ds:DS} {st st':St} {Q Q':Exit→St→Prop} {G G':Nat→Option Value} {F F':Nat→Nat→Prop} {a:Act} {w w':World} {x y c:Code}
 {M:Mem} {ops:Array Oper} {l rest:List Oper} {o:Oper}
theorem Step.all{nx:Nat}{M':Mem}(hf:∀j,nx≤j→G j=none)(S:Step (·<nx) G F M w G' F' M' w'):Step All G F M w G' F' M' w':=
 have lt:∀id,G id≠none→id<nx:=fun id h=>Nat.lt_of_not_le fun hle=>h (hf id hle)
 { size:=S.size,out:=S.out,F1:=S.F1,F2:=S.F2,F3:=S.F3,own:=S.own,kept:=S.kept
   some':=fun id _ h=>S.some' id (lt id h) h
   same:=fun id v _ h hn=>S.same id v (lt id (by rw[h];simp)) h hn
   keep:=fun id o' _ h ho=>S.keep id o' (lt id h) h ho }
theorem resAllR_ok(s:SimA P fr ds G F st a w):∀{xs:List ResultVar} {rs:List AV},resAllR P fr st xs=some rs→
  ∃us:List Value,(xs.mapM (resVar a.tmps)).run P w=.ok us w∧us.length=rs.length∧∀i (h1:i<us.length) (h2:i<rs.length),RV G F st.mem w us[i] rs[i]
 | [],rs,h=>by
   cases h;exact⟨[],by simp,rfl,fun _ h=>absurd h (Nat.not_lt_zero _)⟩
 | x::xs,rs,h=>by
   simp only[resAllR]at h;split at h
   ·rename_i v vs hv hvs;cases h;have h1:∃u,(resVar a.tmps x).run P w=.ok u w∧RV G F st.mem w u v:=by
     cases x with
     | cell p t=>exact resOne_ok s hv
     | tmp t=>cases hv;exact⟨_,rfl,s.sim.slots t⟩
    obtain⟨u,h1,h2⟩:=h1;obtain⟨us,h3,h4,h5⟩:=resAllR_ok s hvs;refine⟨u::us,by simp[List.mapM_cons,h1,h3],by simp[h4],fun i hi hj=>?_⟩;cases i with
    | zero=>exact h2
    | succ i=>exact h5 i (by simpa using hi) (by simpa using hj)
   ·cases h
theorem resultsR_ok(s:SimA P fr ds G F st a w){fn:Func}{rs:List AV}(h:resAllR P fr st fn.results.toList=some rs):∃u,(results fn a.tmps).run P w=.ok u w∧RV G F st.mem w u (mkRes rs):=by
 obtain⟨us,h1,h2,h3⟩:=resAllR_ok s h;refine⟨if h:us.toArray.size=1 then us.toArray[0]else .tuple us.toArray,?_,?_⟩
 ·rw[results_eq,Array.mapM_eq_mapM_toList];simp[h1]
 ·match us,rs,h2 with
  | [],[],_=>exact .tu [] [] rfl (fun _ h=>absurd h (Nat.not_lt_zero _))
  | [u],[r],_=>exact h3 0 (by simp) (by simp)
  | u::u'::us,r::r'::rs,h2=>
    simp only[List.size_toArray,List.length_cons,mkRes];rw[dif_neg (by omega)];exact .tu _ _ h2 h3
def bodyArgs(fr:Fr)(st:St)(args:Array Operand):List AV:=args.toList.map fun x=>od fr st true x
theorem SimA.callB{f:FuncId}{fn:Func}{cs:List AV}{callee:Operand}{args:Array Operand}{tys:Array TypeId}{xs:List AV}{nv:Nat}{hid:List Nat}{R:AV→Mem→Nat→Prop}{K:Act→World→Prop}{Q1:Exit→Act→World→Prop}
  (s:SimA P fr ds G F st a w)(hop:o.op=.call ⟨.value callee,args,tys⟩)(hd:∀k,o.dst=some k→k<fr.sz)(hcal:od fr st true callee=.fn f cs)
  (hxs:bodyArgs fr st args++cs=xs)(hf:P.funcs[f]?=some fn)(hb:fn.body=some c)(hnm:(fn.name== "runtime.NumGoroutine")=false)(hsz:xs.length≤fn.ntmps)
  (hbody:∀h0:Nat,EvC P ⟨st.nx,nv,hid,fn.ntmps⟩ none ⟨h0,none,false⟩ c ⟨vars0 0 xs,[],st.mem,st.nx⟩ fun e st'=>(e=.ret∨e=.normal)∧∃rs,resAllR P ⟨st.nx,nv,hid,fn.ntmps⟩ st' fn.results.toList=some rs∧R (mkRes rs) st'.mem st'.nx)
  (h:∀G' F' a' w' r M' nx',R r M' nx'→SimA P fr ds G' F' ((⟨st.vars,st.tmps,M',nx'⟩:St).put fr o.dst r) a' w'→Step All G F st.mem w G' F' M' w'→K a' w'):o.wpIn (fc ro) 0 P a w K Q1:=by
 refine⟨fun _ _=>trivial,?_⟩;rw[Oper.semAt_eq _ _ _ (by rw[hop];intro c h;cases h)];have hv:=(s.eval callee).unopt;have hv:RV G F st.mem w (a.eval callee) (.fn f cs):=by unfold od at hcal;rwa[hcal]at hv
 obtain⟨vs,hev,hl,hcs⟩:=hv.inv_fn;have hca:callable P f:=callable_of hf hnm (by rw[hb];rfl);have hrun:(execOp a.eval o).run P w=.ok (.enter f ((args.toList.map a.eval++vs).toArray)) w:=by
  obtain⟨dst,op,ty,pos,after,guard⟩:=o;simp only at hop;subst hop;simp only[execOp,resolve,hev,Deferred.ofValue,Sem.run_bind,Sem.run_pure,Result.andThen_ok,invoke];rw[hca];congr 2;apply Array.ext';simp
 rw[hrun];obtain⟨vals,hvals⟩:∃vals,vals=args.toList.map a.eval++vs:=⟨_,rfl⟩;have hi:vals.length=xs.length∧∀i (h1:i<vals.length) (h2:i<xs.length),RV G F st.mem w vals[i] xs[i]:=by
  subst hxs;subst hvals;refine⟨by simp[bodyArgs,hl],fun i h1 h2=>?_⟩;by_cases hlt:i<args.toList.length
  ·rw[List.getElem_append_left (by simpa using hlt),List.getElem_append_left (by simpa[bodyArgs]using hlt)];simp only[bodyArgs,List.getElem_map];exact(s.eval _).unopt
  ·rw[List.getElem_append_right (by simpa using hlt),List.getElem_append_right (by simpa[bodyArgs]using hlt)];simp only[List.length_map,bodyArgs];exact hcs _ _ _
 rw[←hvals];have s0:SimA P ⟨st.nx,nv,hid,fn.ntmps⟩ ⟨w.heap.size,none,false⟩ G F ⟨vars0 0 xs,[],st.mem,st.nx⟩ { tmps:=vals.toArray++Array.replicate (fn.ntmps-vals.toArray.size) undef,defers:=[] } w:=by
  refine⟨⟨s.sim.mem,fun k=>?_,by simp;omega⟩,s.fresh,Marks.none _ _ _ (Nat.le_refl _)⟩;have key:∀x,(x=.junk∨∃h:k<xs.length,x=xs[k])→RV G F st.mem w ((vals.toArray++Array.replicate (fn.ntmps-vals.toArray.size) undef).getD k undef) x:=by
   rintro x (rfl|⟨hk,rfl⟩)
   ·exact .imm (.junk _)
   ·have:(vals.toArray++Array.replicate (fn.ntmps-vals.toArray.size) undef).getD k undef=vals[k]'(by omega):=by
      rw[Array.getD_eq_getD_getElem?,Array.getElem?_append_left (by simp;omega)];simp[List.getElem?_eq_getElem (show k<vals.length by omega)]
    rw[this];exact hi.2 k (by omega) hk
  refine key _ ?_;unfold St.get;split
  ·rcases alook_vars0 xs 0 k with h|⟨h1,h2,h3⟩
   ·exact .inl h
   ·exact .inr ⟨by simpa using h1,by simpa using h3⟩
  ·exact .inl rfl
 have hcall:CallsIn Fence.wide 0 P f vals.toArray w fun e w2=>∃u G' F' r M' nx',e=.returned u∧R r M' nx'∧RV G' F' M' w2 u r∧SimM P G' F' M' nx' w2∧(∀j,nx'≤j→G' j=none)∧Step All G F st.mem w G' F' M' w2:=by
  refine callsIn_of_wp_marks (F:=Fence.wide) hf hb trivial (wpIn_mono (hbody _ _ _ _ _ _ _ _ _ .refl s0) ?_);rintro e a' w' ⟨G',F',st',s',S',he,rs,hrs,hR⟩;have SA:=S'.all s.fresh;have hfin:∀(Ds:List Nat) (w2:World),Ds.Nodup→(∀D∈Ds,w.heap.size≤D∧w2.heap[D]?=some (.deferred (some [])))→SimA P ⟨st.nx,nv,hid,fn.ntmps⟩ ⟨w.heap.size,none,false⟩ G' F' st' { a' with defers:=[] } w2→Step All G F st.mem w G' F' st'.mem w2→
    LeavesInM Fence.wide 0 P fn a'.tmps (fun e w2=>∃u G' F' r M' nx',e=.returned u∧R r M' nx'∧RV G' F' M' w2 u r∧SimM P G' F' M' nx' w2∧(∀j,nx'≤j→G' j=none)∧Step All G F st.mem w G' F' M' w2) (Ds.map dmark) .returning w2:=by
   intro Ds
   induction Ds with
   | nil=>
     intro w2 _ _ s2 S2;obtain⟨u,hu,hru⟩:=resultsR_ok s2 hrs;exact⟨u,hu,u,G',F',mkRes rs,st'.mem,st'.nx,rfl,hR,hru,s2.sim.mem,s'.fresh,S2⟩
   | cons D Ds ih=>
     intro w2 hnd hD s2 S2;obtain⟨h1,h2⟩:=hD D List.mem_cons_self;have hnd:=List.nodup_cons.1 hnd;have hk:∀(b:Nat) (o:Obj),w2.heap[b]?=some o→isData o=true→(w2.putObj D (.deferred none)).heap[b]?=some o:=fun b o hb ho=>by
      rw[World.putObj_heap_other (by rintro rfl;rw[h2]at hb;cases hb;cases ho)];exact hb
     refine⟨(by intro h;cases h),.inl ⟨D,_,rfl,run_takeDeferred h2,ih _ hnd.2 (fun D' hD'=>?_) ⟨⟨s2.sim.mem.keepData hk (by rw[World.putObj_size];exact Nat.le_refl _),fun k=>(s2.sim.slots k).keepData hk,s2.sim.size⟩,s2.fresh,Marks.none _ _ _ (by rw[World.putObj_size];exact S2.size)⟩ ?_⟩⟩
     ·refine⟨(hD D' (List.mem_cons_of_mem _ hD')).1,?_⟩;rw[World.putObj_heap_other (by rintro rfl;exact hnd.1 hD')];exact(hD D' (List.mem_cons_of_mem _ hD')).2
     ·exact S2.putAbove h1 h2 rfl rfl
  obtain⟨⟨Ds,hDs,hnd,hD⟩,_⟩:=s'.defers;have:=hfin Ds w' hnd hD ⟨⟨s'.sim.mem,s'.sim.slots,s'.sim.size⟩,s'.fresh,Marks.none _ _ _ SA.size⟩ SA;rw[←hDs]at this;rcases he with rfl|rfl
  ·exact this
  ·exact this
 refine⟨fun h=>by simp[fc,Fence.wide]at h,callsIn_fc (hcall.mono ?_)⟩;rintro e w2 ⟨u,G',F',r,M',nx',rfl,hR,hru,hm,hfr,S2⟩;exact h G' F' _ w2 r M' nx' hR (s.step_put (st1:=⟨st.vars,st.tmps,M',nx'⟩) S2 hm rfl rfl hfr hd hru) S2
theorem XR.callB{f:FuncId}{fn:Func}{cs:List AV}{callee:Operand}{args:Array Operand}{tys:Array TypeId}{xs:List AV}(nv:Nat)(hid:List Nat)(hg:o.guard=none)(hop:o.op=.call ⟨.value callee,args,tys⟩)(hd:dok fr o.dst=true)
  (hcal:od fr st true callee=.fn f cs)(hxs:bodyArgs fr st args++cs=xs)(hf:P.funcs[f]?=some fn)(hb:fn.body=some c)(hnm:(fn.name== "runtime.NumGoroutine")=false)(hsz:xs.length≤fn.ntmps)
  (hbody:∀h0:Nat,EvC P ⟨st.nx,nv,hid,fn.ntmps⟩ none ⟨h0,none,false⟩ c ⟨vars0 0 xs,[],st.mem,st.nx⟩ fun e st'=>(e=.ret∨e=.normal)∧∃rs,resAllR P ⟨st.nx,nv,hid,fn.ntmps⟩ st' fn.results.toList=some rs∧
   XR P fr ro ds ops rest ((⟨st.vars,st.tmps,st'.mem,st'.nx⟩:St).put fr o.dst (mkRes rs)) Q):XR P fr ro ds ops (o::rest) st Q:=
 fun _ _ _ _ _ _ _ _ S s=>wpListIn_plain hg fun K hK=>s.callB (R:=fun r M' nx'=>XR P fr ro ds ops rest ((⟨st.vars,st.tmps,M',nx'⟩:St).put fr o.dst r) Q) hop (dok_spec hd) hcal hxs hf hb hnm hsz hbody
  fun _ _ _ _ _ _ _ hR s' S'=>hK _ _ (hR _ _ _ _ _ _ _ _ (S.trans (by rw[St.put_mem];exact S'.mono fun _ _=>trivial)) s')
end
def PureFr(P:Program)(f:FuncId)(args:List AV)(r:AV):Prop:=
 callable P f∧∀F w vals,FOk F w→Imms F w vals args→
  CallsIn Fence.wide 0 P f vals.toArray w fun e w'=>∃v Fr,e=.returned v∧Imm Fr w' v r∧(∀b o,Fr b o→w.heap.size≤b∧b<w'.heap.size)∧Grown F w (fun b o=>F b o∨Fr b o) w'
def lend(G:Nat→Option Value)(F:Nat→Nat→Prop)(M:Mem):Nat→Nat→Prop:=fun b o=>F b o∨Owned G M b
section
variable {P:Program} {fr:Fr} {ro:Option Nat} {ds:DS} {st st':St} {Q Q':Exit→St→Prop} {G G':Nat→Option Value} {F F':Nat→Nat→Prop} {a:Act} {w w':World} {x y c:Code}
 {M:Mem} {ops:Array Oper} {l rest:List Oper} {o:Oper}
theorem Imm.lend{v:Value}{x:AV}(h:Imm F w v x):Imm (Avl.lend G F M) w v x:=h.mono (fun _ _ h=>.inl h) fun _ _ _=>rfl
theorem SimM.frGrown{nx:Nat}{Fr:Nat→Nat→Prop}(hm:SimM P G F M nx w)(g:Grown (Avl.lend G F M) w (fun b o=>Avl.lend G F M b o∨Fr b o) w')(hFr:∀b o,Fr b o→w.heap.size≤b∧b<w'.heap.size):Grown F w (fun b o=>F b o∨Fr b o) w':=
 ⟨g.size,g.old,fun _ _ h=>.inl h,fun b o h=>h.imp id fun h=>(hFr b o h).1,fun b o h=>by
  rcases h with h|h
  ·exact Nat.lt_of_lt_of_le (hm.inF b o h) g.size
  ·exact(hFr b o h).2,g.kept⟩
end
section
variable {P:Program} {G:Nat→Option Value} {F:Nat→Nat→Prop} {M:Mem} {w:World} {nx B:Nat}
end
section
variable {F:Fence} {n:Nat} {P:Program} {a:Act} {w:World} {c:Code}
theorem stepR_scope{b:Frame}{k:List Item}{cs:List Frame}:step P (lone (b.atR a (.code (.scope c)::k)) cs w)=.next (lone (b.atR a (.code c:: .inScope c::k)) cs w):=
 step_lone_go (by simp[stepG,stepG.exec,Frame.atR])
theorem stepR_inScope{b:Frame}{k:List Item}{cs:List Frame}:step P (lone (b.atR a (.inScope c::k)) cs w)=.next (lone (b.atR a k) cs w):=
 step_lone_go (by simp[stepG,stepG.exec,Frame.atR])
theorem wpIn_scope{Q:Exit→Act→World→Prop}(h:c.wpIn F n P (Exit.noGoto Q) a w):(Code.scope c).wpIn F n P Q a w:=by
 intro b k cs hro hb hr;have h0:(lone (b.atR a (.code (.scope c)::k)) cs w).fenced P F:=fenced_calm hb hr rfl;obtain⟨e,a₁,w₁,hq,harr⟩:=h b (.inScope c::k) cs hro hb hr;cases e with
 | normal=>exact⟨.normal,a₁,w₁,hq,.head h0 stepR_scope (StepsIn.trans harr (.one (fenced_calm hb hr rfl) stepR_inScope))⟩
 | exit id=>
   have hx:exitTo id (.inScope c::k)=exitTo id k:=by simp[exitTo]
   exact⟨.exit id,a₁,w₁,hq,fun k' hk=>.head h0 stepR_scope (harr.1 k' (by rw[hx];exact hk)),
    fun hr' hk=>let⟨k₁,h1,h2⟩:=harr.2 hr' (by rw[hx];exact hk);⟨k₁,h1,.head h0 stepR_scope h2⟩⟩
 | goto l=>exact hq.elim
 | ret=>exact⟨_,a₁,w₁,hq,.of_steps (.one h0 stepR_scope) harr⟩
 | panic ch=>exact⟨_,a₁,w₁,hq,.of_steps (.one h0 stepR_scope) harr⟩
 | outgrown=>exact⟨_,a₁,w₁,hq,.of_steps (.one h0 stepR_scope) harr⟩
end
section
variable {P:Program} {fr:Fr} {ro:Option Nat} {ds:DS} {st st':St} {Q Q':Exit→St→Prop} {x y c:Code}
def noGotoE(Q:Exit→St→Prop):Exit→St→Prop
 | .goto _,_=>False
 | e,st=>Q e st
theorem EvC.scope(h:EvC P fr ro ds c st (noGotoE Q)):EvC P fr ro ds (.scope c) st Q:=
 fun _ _ _ _ _ _ _ _ S s=>wpIn_scope (wpIn_mono (h _ _ _ _ _ _ _ _ S s) fun e _ _ ⟨G',F',st',h1,h2,h3⟩=>by
  cases e<;>first|exact h3.elim|exact⟨G',F',st',h1,h2,h3⟩)
theorem EvC.label{l:Nat}(h:Q .normal st):EvC P fr ro ds (.label l) st Q:=
 fun _ _ _ _ G F _ _ S s=>wpIn_label ⟨G,F,st,s,S,h⟩
end
def St.shrink(fr:Fr)(k:Nat)(st:St):Option St:=
 match st.get fr k with
 | .tv i n 0 0 .rest=>match mlook st.mem i with
   | some (.arr esz es false)=>if n=es.length then some ((⟨st.vars,st.tmps,(st.nx,.arr esz [] false)::mdel st.mem i,st.nx+1⟩:St).put fr (some k) (.tl st.nx 0 false))else none
   | _=>none
 | _=>none
section
variable {P:Program} {fr:Fr} {ro:Option Nat} {ds:DS} {st st':St} {Q Q':Exit→St→Prop} {G G':Nat→Option Value} {F F':Nat→Nat→Prop} {a:Act} {w w':World} {x y c:Code} {M:Mem}
 {ops:Array Oper} {l rest:List Oper}
theorem XR.gcTo(st2:St)(L:List Nat)(K:List (Nat×Nat))(hk:gcOk fr.base st2.nx K=true)(he:st.gc L K st2.nx=st2)(h:XR P fr ro ds ops l st2 Q):XR P fr ro ds ops l st Q:=
 fun _ _ _ _ _ _ _ _ S s=>by
  have s1:=s.gc (L:=L) hk;rw[he]at s1;obtain⟨s',S'⟩:=s1;exact h _ _ _ _ _ _ _ _ (S.trans S') s'
end
attribute [go_sem] St.shrink mdel resAllR resOneR bodyArgs cutHead cutTail
end Go.Avl
