/-
  Lemmas.
  From a law's row to its contract: arguments opened, and read again behind the call.
-/
import Derived.ProofKit
import Derived.OpenShut
import Derived.Test.YthfacnlkecjodaaGreatPart7
set_option linter.unusedSimpArgs false
set_option linter.unusedVariables false
set_option linter.unnecessarySimpa false
set_option linter.deprecated false
namespace Go.Avl
open Go Go.Proofs.Tryz
set_option maxRecDepth 10000
inductive LR
 | done (c:List Nat) (k fuel:Nat)
 | spent
 | limit
def leastL(t:Mach):Nat→Nat→Nat→LR
 | 0,_,_=>.limit
 | n+1,k,fuel=>match srch t k t.rows.length [] 0 fuel with
   | .found c f=>.done c k f
   | .spent=>.spent
   | .fail f=>leastL t n (k+1) f
def leastRes(t:Mach)(fuel:Int):AV:=
 if nodesE t []≠0 then .tu [zeroM,.sc (.int .i64 0),.sc (.int .i64 (nodesE t []))]
 else if fuel<1 then .tu [zeroM,.sc (.int .i64 0),.sc (.int .i64 17)]
 else match leastL t 64 1 fuel.toNat with
  | .done c k f=>.tu [colRes t c k,.sc (.int .i64 f),.sc (.int .i64 0)]
  | .spent=>.tu [zeroM,.sc (.int .i64 0),.sc (.int .i64 17)]
  | .limit=>.tu [zeroM,.sc (.int .i64 0),.sc (.int .i64 3)]
def frW(t:Mach)(n i:Nat)(k:Nat):Nat×Nat:=if(parT t k).1<n∨((parT t k).1=n∧(parT t k).2<i)then parT t k else(0,0)
def frP(t:Mach)(n i:Nat):List (Nat×Nat):=(List.range t.rows.length).map (frW t n i)
theorem srch_spec(t:Mach)(k:Nat):∀(d:Nat) (c:List Nat) (used fuel:Nat) (c':List Nat) (f':Nat),srch t k d c used fuel=.found c' f'→c'.length=c.length+d∧((∀x∈c,x<k)→∀x∈c',x<k)
 | 0,c,used,fuel,c',f',h=>by
   rw[srch]at h;cases h;exact⟨rfl,id⟩
 | d+1,c,used,fuel,c',f',h=>by
   rw[srch]at h;have key:∀(l:List Nat) (r:SR),(∀x∈l,x<k)→(∀c' f',r=.found c' f'→c'.length=c.length+(d+1)∧((∀x∈c,x<k)→∀x∈c',x<k))→∀c' f',l.foldl (stepS t (srch t k d) c used) r=.found c' f'→c'.length=c.length+(d+1)∧((∀x∈c,x<k)→∀x∈c',x<k):=fun l=>by
    induction l with
    | nil=>intro r _ h;exact h
    | cons x l ih=>
      intro r hl h;rw[List.foldl_cons];refine ih _ (fun y hy=>hl y (List.mem_cons_of_mem _ hy)) fun c' f' he=>?_;unfold stepS at he;cases r with
      | found c2 f2=>exact h c' f' he
      | spent=>cases he
      | fail f=>
        simp only at he;split at he
        ·cases he
        ·split at he
         ·obtain⟨h1,h2⟩:=srch_spec t k d _ _ _ _ _ he;refine⟨by rw[h1];simp;omega,fun h3=>h2 fun y hy=>?_⟩;rcases List.mem_append.1 hy with hy|hy
          ·exact h3 y hy
          ·rw[List.mem_singleton.1 hy];exact hl x (by simp)
         ·cases he
   exact key _ _ (fun x hx=>by have:=List.mem_range.1 hx;omega) (fun c' f' he=>by cases he) c' f' h
theorem ColOk.ren2{cv:AV}{E c:List Nat}(h:ColOk cv E c):AV.deep (renLeaf [(0,0),(1,1),(2,2)]) cv=cv:=by
 rcases h with⟨_,_,rfl⟩|⟨rfl,_⟩<;>rfl
theorem ColOk.framed{t:Mach}{cv:AV}{E c:List Nat}(h:ColOk cv E c)(fuel:Int)(sp b:Bool)(o:RObj):Framed [(2,o)] (.sc (.bool b)) (coM t cv E fuel sp) 3:=by
 have hren:=h.ren;have hnr:=h.noref;exact⟨[(0,0),(1,1)],rfl,by simp only[go_sem,coM,coO,norefs_natC,hnr,hren]<;>rfl,rfl,rfl⟩
theorem parT_edge{t:Mach}(tp:TP t){k:Nat}(h1:1≤k)(h2:k<t.rows.length):(eT t (parT t k).1 (parT t k).2).1=(k:Int):=by
 obtain⟨p,i,k1,k2,k3⟩:=tp.has k h1 h2;rw[parT_eq tp k1 k2 k3];exact k3
theorem frP_len(t:Mach)(n i:Nat):(frP t n i).length=t.rows.length:=by simp[frP]
theorem frP_get{t:Mach}{n i k:Nat}(h:k<t.rows.length):(frP t n i)[k]?=some (frW t n i k):=by rw[frP,List.getElem?_map,List.getElem?_range h];rfl
theorem frP_zero(t:Mach):(frP t 0 0).map prC=List.replicate t.rows.length [.sc (.int .i64 0),.sc (.int .i64 0)]:=by
 rw[List.eq_replicate_iff];refine⟨by simp[frP],fun b hb=>?_⟩;obtain⟨x,hx,rfl⟩:=List.mem_map.1 hb;obtain⟨k,_,rfl⟩:=List.mem_map.1 hx;unfold frW;rw[if_neg (by omega)];rfl
theorem frP_keep{t:Mach}(tp:TP t){n i:Nat}(he:(eT t n i).1=-1):frP t n (i+1)=frP t n i:=by
 unfold frP;refine List.map_congr_left fun k hk=>?_;have hk:=List.mem_range.1 hk;unfold frW;by_cases h0:k=0
 ·subst h0;rw[parT_zero];split<;>split<;>rfl
 ·have h:=parT_edge tp (by omega) hk;by_cases h1:(parT t k).1<n∨(parT t k).1=n∧(parT t k).2<i
  ·rw[if_pos h1,if_pos (by omega)]
  ·rw[if_neg h1,if_neg];intro h2;have h3:(parT t k).1=n∧(parT t k).2=i:=by omega
   rw[h3.1,h3.2,he]at h;omega
theorem frP_set{t:Mach}(v:TV t)(tp:TP t){n i q:Nat}(hn:n<t.rows.length)(hi:(i:Int)<t.ins)(he:(eT t n i).1=(q:Int)):(frP t n i).set q (n,i)=frP t n (i+1):=by
 have hq:n<q∧q<t.rows.length:=by have:=v.edge hn hi;omega
 refine List.ext_getElem? fun k=>?_;rw[List.getElem?_set];by_cases hkq:q=k
 ·subst hkq;rw[if_pos rfl,if_pos (by rw[frP_len];exact hq.2),frP_get hq.2,frW,parT_eq tp hq.1 hi he,if_pos (by simp)]
 ·rw[if_neg hkq];by_cases hk:k<t.rows.length
  ·rw[frP_get hk,frP_get hk];congr 1;unfold frW;by_cases h0:k=0
   ·subst h0;rw[parT_zero];split<;>split<;>rfl
   ·have h:=parT_edge tp (by omega) hk;by_cases h1:(parT t k).1<n∨(parT t k).1=n∧(parT t k).2<i
    ·rw[if_pos h1,if_pos (by omega)]
    ·rw[if_neg h1,if_neg];intro h2;have h3:(parT t k).1=n∧(parT t k).2=i:=by omega
     rw[h3.1,h3.2,he]at h;omega
  ·rw[List.getElem?_eq_none (by rw[frP_len];omega),List.getElem?_eq_none (by rw[frP_len];omega)]
theorem frP_next{t:Mach}(v:TV t)(tp:TP t){n i:Nat}(hi:(i:Int)=t.ins):frP t n i=frP t (n+1) 0:=by
 unfold frP;refine List.map_congr_left fun k hk=>?_;have hk:=List.mem_range.1 hk;have:=parT_in v tp hk;unfold frW;by_cases h1:(parT t k).1<n∨(parT t k).1=n∧(parT t k).2<i
 ·rw[if_pos h1,if_pos (by omega)]
 ·rw[if_neg h1,if_neg (by omega)]
theorem frP_all{t:Mach}(v:TV t)(tp:TP t):frP t t.rows.length 0=frT t:=by
 unfold frP frT;refine List.map_congr_left fun k hk=>?_;have hk:=List.mem_range.1 hk;have:=parT_in v tp hk;unfold frW;rw[if_pos (by omega)]
set_option maxHeartbeats 8000000 in
theorem least31_is(t:Mach)(hr:∀r∈t.rows,r.2.length<1000000)(fuel:Int)(hfu:fuel≤1000000):PureIs prog 44 [.ag t.cells,.sc (.int .i64 fuel)] (leastRes t fuel):=by
 have hN:=nodes37_is t hr true [] .zer (by simp);rw[show([]:List Int).map intC=[]from rfl]at hN;unfold leastRes zeroM;generalize hne:nodesE t []=e at hN;refine PureIs.of1 3 [4,5,6,7,8,9,10,11,12,13,17,21,27,32,33,34,35,39,40,41,42,48,62,65,66,67,78] func44 ntmps44 results44 fun _=>?_;refine EvC.a ?_ (by simp only[go_sem,Mach.cells]<;>rfl);refine EvC.z 0 ?_;rw[Mach.cells]at hN;refine EvC.seq ?_;refine EvC.k1 ?_ (c1:=.ca hN);refine EvC.a ?_;by_cases he:e=0;rotate_left
 ·rw[if_pos he];refine EvC.ct ?_ (by simp only[go_sem,decide_eq_false he]<;>rfl);refine EvC.a ?_;refine EvC.rz ?_;simp only[go_sem]
 first|rw[if_neg Bool.false_ne_true,if_neg (fun h=>h he)]|rw[if_neg (fun h=>h he)]
 subst he;obtain⟨v,_⟩:=nodesE_ok hne;have hck:checkT t=0:=by
  unfold nodesE at hne;by_cases h:checkT t=0
  ·exact h
  ·rw[if_pos h]at hne;exact absurd hne h
 have tp:=TP.of hck;have hin:=v.ins;have hrw:=v.rows;refine EvC.cs ?_;refine EvC.seq ?_;refine EvC.a ?_;by_cases hf1:fuel<1
 ·rw[if_pos hf1];refine EvC.ct ?_ (by simp only[go_sem,decide_eq_true hf1]<;>rfl);refine EvC.a ?_;refine EvC.rz ?_;simp only[go_sem]
 rw[if_neg hf1];refine EvC.cs ?_ (by simp only[go_sem,decide_eq_false hf1]<;>rfl);obtain⟨fu,rfl⟩:∃f:Nat,fuel=f:=⟨fuel.toNat,by omega⟩;rw[Int.toNat_natCast];obtain⟨N,hNd⟩:∃N,N=t.rows.length:=⟨_,rfl⟩;have hNi:((N:Int)).toNat=N:=Int.toNat_natCast N;have hrz:(List.replicate N [AV.sc (.int .i64 0),.sc (.int .i64 0)]).length=N:=List.length_replicate;apply EvC.seq;apply EvC.drwA mixed
 ·apply Tr.done
  ·simp only[go_sem,List.length_map,hNd.symm,hNi,hrz]<;>rfl
  ·simp[room_eq];omega
 ·kernel_rfl
 refine EvC.seq ?_;refine EvC.a ?_ (by simp only[go_sem,List.length_map,hNd.symm]<;>rfl);refine EvC.block ?_;refine EvC.loopS (σ:=Nat) (fun n=>⟨[(2,.ia [.sc (.int .i64 t.ins),.sc (.int .i64 t.outs),.sl t.nl (t.rows.map rowC) .unk]),(4,.rf 2 0),(8,.rf 0 0),(32,.sl t.nl (t.rows.map rowC) .unk),(33,.sc (.int .i64 N)),(34,.sc (.int .i64 n))],[],[(0,.cells [.sc (.int .i64 t.ins),.sc (.int .i64 t.outs),.sl t.nl (t.rows.map rowC) .unk,.tv 1 N 0 N (.val N),.sl true [] .zer,.sc (.int .i64 fu),.sc (.bool false)]),(1,.arr 2 ((frP t n 0).map prC) false),(2,.cells [.sc (.int .i64 0),.sc (.int .i64 0),.sl true [] .zer])],3⟩) (fun n=>N-n) (fun n=>n≤N) [2,4,8,32,33,34] 3 ?_ ?_
 ·have hz:=frP_zero t;rw[←hNd]at hz;have hzn:=prC_norefs (frP t 0 0);rw[hz]at hzn;exact⟨[(18,0),(15,1),(1,2)],0,rfl,(by simp only[go_sem,hz,hzn,Int.natCast_zero]<;>rfl),Nat.zero_le _⟩
 intro n hn;have hnin:(n:Int).toNat=n:=Int.toNat_natCast n;refine EvC.a ?_;refine EvC.seq ?_;refine EvC.cd (fun hc=>?_) (fun hc=>?_);rotate_left
 ·
  obtain rfl:n=N:=by have:¬n<N:=by simpa using hc
                     omega
  refine EvC.exit ?_;rw[show frP t n 0=frT t by rw[hNd];exact frP_all v tp];have hfrl:((frT t).map prC).length=n:=by simp[frT,hNd]
  refine EvC.frzD 1 (by simp only[go_sem,prC_norefs,hfrl]<;>rfl) ?_;refine EvC.ownC 0 4 1 (by simp only[go_sem]<;>rfl) ?_;refine EvC.thaw 4 (by simp only[go_sem]<;>rfl) ?_;refine EvC.seq ?_;refine EvC.a ?_;refine EvC.block ?_;obtain⟨res,hres⟩:∃r,r=leastL t 64 1 fu:=⟨_,rfl⟩;rw[←hres];refine EvC.loopS (σ:=Nat×AV×List Nat×Nat) (fun g=>⟨[(4,.rf 2 0),(8,.rf 0 0),(13,.sc (.int .i64 g.1))],[],coM t g.2.1 g.2.2.1 g.2.2.2 false++[(2,.cells [.sc (.int .i64 0),.sc (.int .i64 0),.sl true [] .zer])],3⟩) (fun g=>65-g.1)
   (fun g=>1≤g.1∧g.1≤65∧ColOk g.2.1 g.2.2.1 []∧g.2.2.1.length≤t.rows.length∧g.2.2.2≤1000000∧leastL t (65-g.1) g.1 g.2.2.2=res) [4,8,13] 3 ?_ ?_
  ·exact⟨[(0,0),(4,1),(2,2)],(1,.tl 1 0 true,[],fu),rfl,(by simp only[go_sem,coM,coO,List.map_nil,List.cons_append,List.nil_append,Int.natCast_one]<;>rfl),by simp,by simp,.inl ⟨rfl,rfl,rfl⟩,by simp,by simp only;omega,hres.symm⟩
  rintro⟨k,cv,E,f⟩ ⟨g1,g2,hv,hE,g4,g5⟩;simp only at g1 g2 hv hE g4 g5⊢;have hren:=hv.ren2;have hnr:=hv.noref;refine EvC.seq ?_;refine EvC.a ?_;refine EvC.cd (fun hc=>?_) (fun hc=>?_);rotate_left
  ·
   obtain rfl:k=65:=by have:¬(k:Int)≤64:=by simpa using hc
                       omega
   rw[show res=.limit from g5.symm];refine EvC.exit ?_;refine EvC.a ?_ (by simp only[go_sem,coM,coO,List.cons_append,List.nil_append]<;>rfl);refine EvC.rz ?_;simp only[go_sem]
  have hk:k≤64:=by have:(k:Int)≤64:=by simpa using hc
                   omega
  clear hc;refine EvC.skip ?_;refine EvC.seq ?_;refine EvC.block ?_;obtain⟨m,hm⟩:∃m,65-k=m+1:=⟨64-k,by omega⟩;rw[hm,leastL]at g5;refine EvC.seq ?_;apply EvC.seq;apply EvC.rs
  ·simp only[go_sem]<;>rfl
  ·simp
  refine XR.gcTo ⟨[(4,.rf 2 0),(8,.rf 0 0),(13,.sc (.int .i64 k)),(65,.rf 0 0),(66,.sc (.int .i64 k))],[],coM t cv E f false++[(2,.cells [.sc (.int .i64 0),.sc (.int .i64 0),.sl true [] .zer])],3⟩ [4,8,13,65,66] [(0,0),(1,1),(2,2)] rfl (by simp only[go_sem,coM,coO,norefs_natC,hnr,hren,List.cons_append,List.nil_append]<;>rfl) ?_;refine XR.callF (coM t cv E f false) [(2,.cells [.sc (.int .i64 0),.sc (.int .i64 0),.sl true [] .zer])] (xs:=[.rf 0 0,.sc (.int .i64 k),.sc (.int .i64 (0:Nat))]) rfl rfl (by simp only[go_sem]<;>rfl) (by simp only[go_sem]<;>rfl) (by simp only[go_sem,coM,coO,Int.natCast_zero]<;>rfl) (by simp only[go_sem]<;>rfl) rfl ?_;refine search64_body v tp k hk n [] E cv 0 f (by simp;omega) hv hE (by omega) g4 ?_;clear hv hE hren hnr;intro b cv E f' sp hok;obtain⟨hE,hok⟩:=hok;have hfl:=srch_fuel t k n [] 0 f;have hsp:=srch_spec t k n [] 0 f;cases hsr:srch t k n [] 0 f with
  | found c f2=>
    rw[show t.rows.length=n from hNd.symm,hsr]at g5;rw[hsr]at hok hfl;obtain⟨rfl,hv,rfl,rfl⟩:=hok;obtain⟨l1,l2⟩:=hsp c f' hsr;have l2:=l2 (fun x hx=>by cases hx);have hcn:c.length=n:=by rw[l1];simp
    refine⟨by simp,hv.framed _ _ _ _,?_⟩;rw[show res=.done c k f' from g5.symm];rcases hv with⟨h0,_⟩|⟨rfl,hE1,hE2,hE3⟩
    ·rw[h0]at hcn;simp at hcn;omega
    refine XR.nil ?_;refine EvC.ct ?_;have hMc:=machine65_is v (by omega) ⟨g1,hk⟩ l2 f' false;have hElen:(E.map natC).length=E.length:=List.length_map _;have hEt:(if c.length=E.length then E.map natC else List.take c.length (E.map natC))=c.map natC:=by
     split
     ·rename_i h;rw[←hE1,List.take_of_length_le (by omega)]
     ·rw[←List.map_take,hE1]
    refine EvC.frzD 1 (by simp only[go_sem,coM,coO,List.cons_append,List.nil_append,norefs_natC,hElen,hEt]<;>rfl) ?_;refine EvC.z 0 ?_;unfold colA at hMc;have hcl:∃A,colRes t c k=.ag [.sc (.int .i64 t.ins),.sc (.int .i64 t.outs),.sl false A .full]:=⟨_,rfl⟩;obtain⟨A,hcA⟩:=hcl;rw[hcA]at hMc;refine EvC.k1D mixed ?_ (c1:=.ca hMc);refine EvC.rz ?_;simp only[go_sem];rw[hcA]
  | spent=>
    rw[show t.rows.length=n from hNd.symm,hsr]at g5;rw[hsr]at hok;obtain⟨rfl,rfl,⟨c,hv⟩,rfl⟩:=hok;refine⟨by simp,hv.framed _ _ _ _,?_⟩;rw[show res=.spent from g5.symm];refine XR.nil ?_;refine EvC.cs ?_;refine EvC.a ?_ (by simp only[go_sem,coM,coO,List.cons_append,List.nil_append]<;>rfl);refine EvC.ct ?_;refine EvC.a ?_;refine EvC.rz ?_;simp only[go_sem]
  | fail f2=>
    rw[show t.rows.length=n from hNd.symm,hsr]at g5;rw[hsr]at hok hfl;obtain⟨rfl,hv,rfl,rfl⟩:=hok;have hfl:f'≤f:=hfl;have hren:=hv.ren2;have hnr:=hv.noref;refine⟨by simp,hv.framed _ _ _ _,?_⟩;refine XR.nil ?_;refine EvC.cs ?_;refine EvC.a ?_ (by simp only[go_sem,coM,coO,List.cons_append,List.nil_append]<;>rfl);refine EvC.cs ?_;refine EvC.bi ?_;exact⟨[(0,0),(1,1),(2,2)],(k+1,cv,E,f'),rfl,(by simp only[go_sem,coM,coO,norefs_natC,hnr,hren,List.cons_append,List.nil_append,Int.natCast_add,Int.natCast_one]<;>rfl),⟨by simp only;omega,by simp only;omega,hv,hE,by simp only;omega,by simp only;rw[show 65-(k+1)=m by omega];exact g5⟩,by simp only;omega⟩
 have hnN:n<N:=by simpa using hc
 clear hc;refine EvC.skip ?_;refine EvC.seq ?_;refine EvC.block ?_;obtain⟨A,hA⟩:∃A,t.rows[n]?=some A:=⟨_,List.getElem?_eq_getElem (by omega)⟩;have hAl:=(v.row n A hA).1;refine EvC.a ?_ (by simp only[go_sem,hA,hnin,rowC,List.length_map]<;>rfl);refine EvC.a ?_ (by simp only[go_sem,List.length_map]<;>rfl);refine EvC.block ?_;refine EvC.loopS (σ:=Nat) (fun i=>⟨[(2,.ia [.sc (.int .i64 t.ins),.sc (.int .i64 t.outs),.sl t.nl (t.rows.map rowC) .unk]),(4,.rf 2 0),(8,.rf 0 0),(9,.sc (.int .i64 n)),(32,.sl t.nl (t.rows.map rowC) .unk),(33,.sc (.int .i64 N)),(34,.sc (.int .i64 n)),(39,.sl A.1 (A.2.map edgeC) .unk),(40,.sc (.int .i64 A.2.length)),(41,.sc (.int .i64 i))],[],[(0,.cells [.sc (.int .i64 t.ins),.sc (.int .i64 t.outs),.sl t.nl (t.rows.map rowC) .unk,.tv 1 N 0 N (.val N),.sl true [] .zer,.sc (.int .i64 fu),.sc (.bool false)]),(1,.arr 2 ((frP t n i).map prC) false),(2,.cells [.sc (.int .i64 0),.sc (.int .i64 0),.sl true [] .zer])],3⟩) (fun i=>t.ins.toNat-i) (fun i=>(i:Int)≤t.ins) [2,4,8,9,32,33,34,39,40,41] 3 ?_ ?_
 ·exact⟨[(0,0),(1,1),(2,2)],0,rfl,(by simp only[go_sem,prC_norefs,Int.natCast_zero]<;>rfl),by omega⟩
 intro i hi;have hiin:(i:Int).toNat=i:=Int.toNat_natCast i;refine EvC.a ?_;refine EvC.seq ?_;refine EvC.cd (fun hc=>?_) (fun hc=>?_);rotate_left
 ·
  have hiI:¬i<A.2.length:=by simpa using hc
  refine EvC.exit ?_;rw[frP_next v tp (show(i:Int)=t.ins by omega)];refine EvC.bi ?_;exact⟨[(0,0),(1,1),(2,2)],n+1,rfl,(by simp only[go_sem,prC_norefs,Int.natCast_add,Int.natCast_one]<;>rfl),hnN,by omega⟩
 have hi:(i:Int)<t.ins:=by have:i<A.2.length:=by simpa using hc
                           omega
 clear hc;refine EvC.skip ?_;refine EvC.seq ?_;refine EvC.block ?_;have hAi:A.2[i]?=some (eT t n i):=by
  obtain⟨A',h1,_,h2⟩:=row_get v (n:=n) (i:=i) (by omega) hi;rw[hA]at h1;cases h1;exact h2
 have eA:=v.edge (n:=n) (i:=i) (by omega) hi;have hkeep:=fun h=>frP_keep tp (n:=n) (i:=i) h;have hset:=fun q h=>frP_set v tp (n:=n) (i:=i) (q:=q) (by omega) hi h;generalize eT t n i=e at hAi eA hkeep hset;obtain⟨e1,e2⟩:=e;simp only at eA hkeep hset;have hnr:=prC_norefs (frP t n i);refine EvC.a ?_ (by simp only[go_sem,hAi,hiin,edgeC,List.length_map]<;>rfl) (by simp;try omega);refine EvC.z 7 ?_ (by simp only[go_sem,hnr]<;>rfl);refine EvC.a ?_;by_cases he:e1=-1
 ·refine EvC.cs ?_ (by simp only[go_sem,decide_eq_true he]<;>rfl);rw[←hkeep he];refine EvC.bi ?_;exact⟨[(0,0),(1,1),(2,2)],i+1,rfl,(by simp only[go_sem,prC_norefs,Int.natCast_add,Int.natCast_one]<;>rfl),by omega,by omega⟩
 refine EvC.ct ?_ (by simp only[go_sem,decide_eq_false he]<;>rfl);obtain⟨q,rfl⟩:∃q:Nat,e1=q:=⟨e1.toNat,by omega⟩;have hqin:(q:Int).toNat=q:=Int.toNat_natCast q;have hset:=hset q rfl;have hgq:=frP_get (t:=t) (n:=n) (i:=i) (k:=q) (by omega);have hfl:((frP t n i).map prC).length=N:=by rw[List.length_map,frP_len,hNd]
 have hm3:((frP t n i).map prC).set q [.sc (.int .i64 n),.sc (.int .i64 i)]=(frP t n (i+1)).map prC:=by rw[←hset,List.map_set];rfl
 apply EvC.drwA mixed
 ·apply Tr.done
  ·simp only[go_sem,hqin,hgq,hfl,hm3,prC,List.drop_succ_cons,List.drop_zero]<;>rfl
  ·simp[hfl];try omega
 ·kernel_rfl
 refine EvC.bi ?_;exact⟨[(0,0),(1,1),(2,2)],i+1,rfl,(by simp only[go_sem,prC_norefs,Int.natCast_add,Int.natCast_one]<;>rfl),by omega,by omega⟩
def exT:Mach:=⟨1,2,false,[(false,[(1,0)]),(false,[(2,1)]),(false,[(3,0)]),(false,[(4,1)]),(false,[(-1,-1)])]⟩
def exO:Mach:=⟨1,2,false,[(false,[(1,0)]),(false,[(2,0)]),(false,[(-1,-1)])]⟩
def oneM:Mach:=⟨1,2,false,[(false,[(0,0)])]⟩
theorem exT_eq:treeM 1 2 (okLog [⟨List.replicate 4 0,[0,1,0,1]⟩])=exT:=by kernel_rfl
theorem exO_eq:treeM 1 2 (okLog [⟨List.replicate 2 0,[0,0]⟩])=exO:=by kernel_rfl
theorem exT_nodes(l:List Int)(h:l.all (inT 5)=true):nodesE exT l=0:=by
 have h1:checkT exT=0:=by kernel_rfl
 unfold nodesE;rw[h1];have:exT.rows.length=5:=rfl;rw[this,h];rfl
theorem exT_c01:compAns exT 0 1=.tu [.sc (.bool false),.sc (.int .i64 0)]:=by kernel_rfl
theorem exT_c02:compAns exT 0 2=.tu [.sc (.bool true),.sc (.int .i64 0)]:=by kernel_rfl
theorem exT_c34:compAns exT 3 4=.tu [.sc (.bool true),.sc (.int .i64 0)]:=by kernel_rfl
theorem exT_f02:foldC exT (List.range 5) 0 2=some [0,1,0,1,0]:=by kernel_rfl
theorem exT_f04:foldC exT (List.range 5) 0 4=some [0,1,2,3,0]:=by kernel_rfl
theorem exT_f14:foldC exT (List.range 5) 1 4=some [0,1,2,3,1]:=by kernel_rfl
theorem exT_merge:mergeT exT=some [[(1,0)],[(0,1)]]:=by kernel_rfl
theorem exO_merge:mergeT exO=some [[(0,0)]]:=by kernel_rfl
theorem exT_least:leastL exT 64 1 100=.done [0,1,0,1,0] 2 91:=by kernel_rfl
theorem ex_chain:PureIs prog 40 [.sc (.int .i64 2),.sl false [[.sc (.int .i64 0)],[.sc (.int .i64 1)],[.sc (.int .i64 0)],[.sc (.int .i64 1)]] .full] (.ag exT.cells):=by
 have:=chain36_is 2 [0,1,0,1] .full (by simp);rw[show [(0:Int),1,0,1].length=4 from rfl,exT_eq]at this;exact this
theorem ex_chain2:PureIs prog 40 [.sc (.int .i64 2),.sl false [[.sc (.int .i64 0)],[.sc (.int .i64 0)]] .full] (.ag exO.cells):=by
 have:=chain36_is 2 [0,0] .full (by simp);rw[show [(0:Int),0].length=2 from rfl,exO_eq]at this;exact this
theorem exT_rows:∀r∈exT.rows,r.2.length<1000000:=by decide
theorem exO_rows:∀r∈exO.rows,r.2.length<1000000:=by decide
theorem exT_rowsF:RowsF exT:=by
 intro r hr _;simp[exT]at hr;rcases hr with rfl|rfl|rfl|rfl|rfl<;>rfl
theorem exO_rowsF:RowsF exO:=by
 intro r hr _;simp[exO]at hr;rcases hr with rfl|rfl|rfl<;>rfl
theorem ex_comp(a b:Int)(x:Bool)(h:compAns exT a b=.tu [.sc (.bool x),.sc (.int .i64 0)]):PureIs prog 41 [.ag exT.cells,.sc (.int .i64 a),.sc (.int .i64 b)] (.tu [.sc (.bool x),.sc (.int .i64 0)]):=by
 rw[←h];exact comp13_is exT exT_rows a b
theorem ex_fold(a b:Nat)(l:List Int)(c:List Nat)(hl:c.map natC=l.map intC)(hn:nodesE exT [(a:Int),(b:Int)]=0)(h:foldC exT (List.range 5) a b=some c):PureIs prog 42 [.ag exT.cells,.sc (.int .i64 a),.sc (.int .i64 b)] (.tu [.sl false (l.map intC) .full,.sc (.bool true),.sc (.int .i64 0)]):=by
 have:=fold16_is exT exT_rows exT_rowsF a b;unfold foldRes at this;rw[hn,if_neg (by simp),Int.toNat_natCast,Int.toNat_natCast,show exT.rows.length=5 from rfl,h]at this;simp only at this;rw[hl]at this;exact this
def twoA:AV:=.ag [.sc (.int .i64 1),.sc (.int .i64 2),.sl false [[.sl false [[.sc (.int .i64 1),.sc (.int .i64 0)]] .full],[.sl false [[.sc (.int .i64 0),.sc (.int .i64 1)]] .full]] .full]
def oneA:AV:=.ag [.sc (.int .i64 1),.sc (.int .i64 2),.sl false [[.sl false [[.sc (.int .i64 0),.sc (.int .i64 0)]] .full]] .full]
theorem ex_merge:PureIs prog 9 [.ag exT.cells] (.tu [twoA,.sc (.int .i64 0)]):=by
 have:=merge20_is exT exT_rows exT_rowsF;unfold mergeRes at this;rw[exT_nodes [] rfl,if_neg (by simp),exT_merge]at this;exact this
theorem exO_nodes:nodesE exO []=0:=by
 have h1:checkT exO=0:=by kernel_rfl
 unfold nodesE;rw[h1];rfl
theorem ex_one:PureIs prog 9 [.ag exO.cells] (.tu [oneA,.sc (.int .i64 0)]):=by
 have:=merge20_is exO exO_rows exO_rowsF;unfold mergeRes at this;rw[exO_nodes,if_neg (by simp),exO_merge]at this;exact this
def twoU:AV:=.ag [.sc (.int .i64 1),.sc (.int .i64 2),.sl false [[.sl false [[.sc (.int .i64 1),.sc (.int .i64 0)]] .unk],[.sl false [[.sc (.int .i64 0),.sc (.int .i64 1)]] .unk]] .full]
theorem ex_col:colRes exT [0,1,0,1,0] 2=twoU:=by kernel_rfl
theorem ex_least:PureIs prog 44 [.ag exT.cells,.sc (.int .i64 100)] (.tu [twoU,.sc (.int .i64 91),.sc (.int .i64 0)]):=by
 have:=least31_is exT exT_rows 100 (by omega);unfold leastRes at this;rw[exT_nodes [] rfl,if_neg (by simp),if_neg (by omega),show(100:Int).toNat=100 from rfl,exT_least]at this;simp only at this;rw[ex_col]at this;exact this
theorem ex_fitB:fitB exT oneM=false:=by
 classical
 unfold fitB;rw[decide_eq_false_iff_not];rintro⟨h,h0,hk⟩;have k0:=hk 0 0 (by decide) (by decide);have k1:=hk 1 0 (by decide) (by decide);rw[h0]at k0;have e1:=k0.2 (by decide);have e2:h 1=0:=by
  have:((0:Nat):Int)=(h 1:Nat):=e1;omega
 rw[e2]at k1;have:=k1.1;revert this;decide
theorem ex_fits:PureIs prog 45 [oneA,.ag exT.cells] (.tu [.sc (.bool false),.sc (.int .i64 0)]):=by
 have:=fits23_is exT oneM exT_rows (by decide);rw[ex_fitB]at this;have e:fitAns exT false oneM=.tu [.sc (.bool false),.sc (.int .i64 0)]:=by kernel_rfl
 rw[e]at this;refine PureIs.weak ?_;exact this
theorem ex_same1:PureIs prog 10 [twoA,.ag twoM.cells] (.sc (.bool true)):=by
 refine PureIs.weak ?_;exact sameM_is (a:=twoM) (b:=twoM) rfl rfl rfl (by decide) (by decide)
theorem ex_same2:PureIs prog 10 [twoU,.ag twoM.cells] (.sc (.bool true)):=by
 refine PureIs.weak ?_;exact sameM_is (a:=twoM) (b:=twoM) rfl rfl rfl (by decide) (by decide)
theorem ex_same3:PureIs prog 10 [oneA,oneA] (.sc (.bool true)):=by
 refine PureIs.weak ?_;exact sameM_is (a:=oneM) (b:=oneM) rfl rfl rfl (by decide) (by decide)
set_option maxHeartbeats 8000000 in
theorem lives15_is:PureIs prog 12 [] (.sc (.bool true)):=by
 have hc:=ex_chain;have c01:=ex_comp 0 1 false exT_c01;have c02:=ex_comp 0 2 true exT_c02;have c34:=ex_comp 3 4 true exT_c34;have f02:=ex_fold 0 2 [0,1,0,1,0] _ rfl (exT_nodes _ rfl) exT_f02;have f04:=ex_fold 0 4 [0,1,2,3,0] _ rfl (exT_nodes _ rfl) exT_f04;have f14:=ex_fold 1 4 [0,1,2,3,1] _ rfl (exT_nodes _ rfl) exT_f14;have hsm:=fun l:List Int=>fun h:l.length<1000000=>same_is false l .full false l .full h;have s1:=hsm [0,1,0,1,0] (by simp);have s2:=hsm [0,1,2,3,0] (by simp);have s3:=hsm [0,1,2,3,1] (by simp);have hm:=ex_merge;have hl:=ex_least;have hc2:=ex_chain2;have ho:=ex_one;have hf:=ex_fits;have m1:=ex_same1;have m2:=ex_same2;have m3:=ex_same3;have ht:=two41_is;rw[Mach.cells]at hc c01 c02 c34 f02 f04 f14 hm hl hc2 ho hf m1 m2 ht;simp only[List.map_cons,List.map_nil,intC,decide_true]at f02 f04 f14 s1 s2 s3;unfold twoA at hm m1;unfold twoU at hl m2;unfold oneA at ho hf m3;refine PureIs.of1 17 [11,12,14,54,112] func12 ntmps12 results12 fun _=>?_;refine EvC.a ?_;refine EvC.k1 ?_ (c1:=.ca hc);refine EvC.z 3 ?_;refine EvC.k1 ?_ (c1:=.ca c01);refine EvC.k1 ?_ (c1:=.ca c02);refine EvC.k1 ?_ (c1:=.ca c34);refine EvC.seq ?_;refine EvC.g ?_;refine EvC.cs ?_;refine EvC.k1 ?_ (c1:=.ca f02);refine EvC.k1 ?_ (c1:=.ca f04);refine EvC.k1 ?_ (c1:=.ca f14);refine EvC.seq ?_;refine EvC.k3 ?_ (c1:=.cg s1) (c2:=.cg s2) (c3:=.cg s3);refine EvC.cs ?_;refine EvC.gc [0,1] [] 0 rfl ?_;refine EvC.k1 ?_ (c1:=.ca hm);refine EvC.z 5 ?_;refine EvC.gc [0,1,3,11] [] 0 rfl ?_;refine EvC.k1 ?_ (c1:=.ca hl);refine EvC.z 6 ?_;refine EvC.gc [0,1,3,5,11,12,13] [] 0 rfl ?_;refine EvC.k2 ?_ (c1:=.ca hc2) (c2:=.ca ho);refine EvC.z 6 ?_;refine EvC.gc [0,1,3,5,7,11,12,13,14] [] 0 rfl ?_;refine EvC.k1 ?_ (c1:=.ca hf);apply EvC.seq;apply EvC.drw mixed
 ·apply Tr.run
  ·simp only[go_sem]<;>rfl
  ·simp
  apply Tr.cons
  ·exact .cg (ht)
  apply Tr.run
  ·simp only[go_sem]<;>rfl
  ·simp
  apply Tr.cons
  ·exact .cg (m1)
  apply Tr.run
  ·simp only[go_sem]<;>rfl
  ·simp
  apply Tr.cons
  ·exact .cg (ht)
  apply Tr.run
  ·simp only[go_sem]<;>rfl
  ·simp
  apply Tr.cons
  ·exact .cg (m2)
  apply Tr.run
  ·simp only[go_sem]<;>rfl
  ·simp
  apply Tr.cons
  ·exact .cg (m3)
  apply Tr.done
  ·simp only[go_sem]<;>rfl
  ·simp
 ·kernel_rfl
 refine EvC.rz ?_;simp only[go_sem]
theorem treeM_rowsF(i:Nat)(o:Int)(L:List TR):RowsF (treeM i o L):=fun r hr _=>by
 unfold treeM at hr;simp only[List.mem_map]at hr;obtain⟨x,_,rfl⟩:=hr;rfl
theorem TV.short{t:Mach}(v:TV t):∀r∈t.rows,r.2.length<1000000:=fun r hr=>by
 obtain⟨i,hi,rfl⟩:=List.mem_iff_getElem.1 hr;have:=(v.row i _ (List.getElem?_eq_getElem hi)).1;have:=v.ins;omega
theorem nodesE_zero{t:Mach}(h:checkT t=0){l:List Int}(hl:∀x∈l,0≤x∧x<t.rows.length):nodesE t l=0:=by
 unfold nodesE;rw[h,if_neg (by simp),if_pos];rw[List.all_eq_true];intro x hx;have:=hl x hx;unfold inT;simp;omega
structure TG (t:Mach):Prop where
 ins:1≤t.ins∧t.ins≤16
 rows:1≤t.rows.length∧t.rows.length≤65537
 row:∀(i:Nat) (r:Row),t.rows[i]?=some r→(r.2.length:Int)=t.ins∧∀e∈r.2,e.1=-1∨(1≤e.1∧e.1<t.rows.length)
structure WS where
 seen:List Bool
 out:List (List Nat)
 many:Nat
def WS.has(s:WS)(n:Nat):Bool:=(s.seen[n]?).getD false
def WS.wd(s:WS)(n:Nat):List Nat:=(s.out[n]?).getD []
def WS.put(s:WS)(to n i:Nat):WS:=⟨s.seen.set to true,s.out.set to (s.wd n++[i]),s.many+1⟩
def wE(t:Mach)(r n:Nat):Nat→Nat→WS→Option WS
 | 0,_,s=>some s
 | d+1,i,s=>if s.has n=true∧(s.wd n).length=r then
    if(eT t n i).1=-1 then wE t r n d (i+1) s
    else if s.has (eT t n i).1.toNat=true then none
    else wE t r n d (i+1) (s.put (eT t n i).1.toNat n i)
   else some s
def wN(t:Mach)(r:Nat):Nat→Nat→WS→Option WS
 | 0,_,s=>some s
 | d+1,n,s=>match wE t r n t.ins.toNat 0 s with
   | none=>none
   | some s'=>wN t r d (n+1) s'
structure WS.Ok (s:WS) (N:Nat):Prop where
 seen:s.seen.length=N
 out:s.out.length=N
 many:s.many=s.seen.countP (fun b=>b)
 le:∀w∈s.out,w.length≤N
def wCp(w:List Nat):Cp:=if w=[]then .zer else .unk
def wA(w:List Nat):List AV:=[.sl w.isEmpty (w.map natC) (wCp w)]
def wordsA:Option (List (List Nat))→AV
 | none=>.sl true [] .unk
 | some l=>.sl false (l.map wA) .full
attribute [go_sem] wordsA
def wT(t:Mach):Nat→Nat→List Nat
 | 0,_=>[]
 | d+1,n=>if n=0 then []else wT t d (parT t n).1++[(parT t n).2]
def wordN(t:Mach)(n:Nat):List Nat:=wT t n n
structure WI (t:Mach) (m0 r n i:Nat) (s:WS):Prop where
 ok:s.Ok t.rows.length
 has:∀m,m<t.rows.length→(s.has m=true↔(wordN t m).length≤r∨(wordN t m).length=r+1∧((parT t m).1<n∨(parT t m).1=n∧(parT t m).2<i))
 wd:∀m,m<t.rows.length→s.has m=true→s.wd m=wordN t m
 ge:m0≤s.many
 new:s.many=m0→∀m,m<t.rows.length→(wordN t m).length=r+1→¬((parT t m).1<n∨(parT t m).1=n∧(parT t m).2<i)
theorem treeM_edge{ins:Nat}{outs:Int}{L:List TR}{n i:Nat}{x:List Int}(hx:(nodesL L)[n]?=some x)(hi:i<ins):eT (treeM ins outs L) n i=edgeOf L (nodesL L) (x++[(i:Int)]):=by
 unfold eT treeM;simp only[List.getElem?_map,hx,Option.map_some,Option.getD_some,treeRow];rw[List.getElem?_range hi];rfl
theorem nodesL_get{L:List TR}{w:List Int}(h:w∈nodesL L):(nodesL L)[(nodesL L).idxOf w]?=some w:=by
 have hl:=List.idxOf_lt_length_of_mem h;rw[List.getElem?_eq_getElem hl,List.getElem_idxOf hl]
def traceD(t:TR):List AV:=[.sl t.w.isEmpty (t.w.map intC) .unk,.sl false (t.r.map intC) .unk]
@[go_sem] theorem norefs_traceD(l:List TR):(l.map traceD).all AV.norefs=true:=by simp[List.all_eq_true,traceD,AV.norefs,AV.noref]
def logD(i o:Int)(l:List TR):AV:=.ag [.sc (.int .i64 i),.sc (.int .i64 o),.sl l.isEmpty (l.map traceD) .unk]
theorem in95_is(x many:Int)(h:0≤x∧x<many):PureIs prog 59 [.sc (.int .i64 x),.ia [.sc (.int .i64 many)]] (.sc (.bool false)):=by
 refine PureIs.of1 4 [] func59 ntmps59 results59 fun _=>?_;refine EvC.a ?_;refine EvC.g ?_;refine EvC.rz ?_;simp only[go_sem,decide_eq_false (show ¬x<0 by omega),decide_eq_false (show ¬many≤x by omega)]
 all_goals rfl
theorem idx96_is(nl:Bool)(xs:List Int)(c:Cp)(f:FuncId)(cs:List AV)(hcs:AV.norefs cs=true)(hp:∀e∈xs,PureIs prog f (.sc (.int .i64 e)::cs) (.sc (.bool false)))(hl:xs.length<1000000):
  PureIs prog 87 [.sl nl (xs.map intC) c,.fn f cs] (.sc (.int .i64 (-1))):=by
 refine PureIs.of1 6 [6,7,8,9,16] func87 ntmps87 results87 fun _=>?_;refine EvC.a ?_;refine EvC.seq ?_;refine EvC.a ?_;refine EvC.block ?_;refine EvC.loopS (σ:=Nat) (fun i=>⟨[(0,.sl nl (xs.map intC) c),(1,.fn f cs),(7,.sc (.int .i64 xs.length)),(8,.sc (.int .i64 i))],[],[],0⟩) (fun i=>xs.length-i) (fun i=>i≤xs.length) [0,1,7,8] 0 ?_ ?_
 ·exact⟨[],0,rfl,(by simp only[go_sem,hcs,List.length_map,Int.natCast_zero]<;>rfl),Nat.zero_le _⟩
 intro i h1;have hiin:(i:Int).toNat=i:=Int.toNat_natCast i;refine EvC.a ?_;refine EvC.seq ?_;refine EvC.cd (fun hc=>?_) (fun hc=>?_);rotate_left
 ·refine EvC.exit ?_;refine EvC.a ?_;refine EvC.rz ?_;simp only[go_sem]
 have hi:i<xs.length:=by simpa using hc
 have he:xs[i]?=some xs[i]:=List.getElem?_eq_getElem hi;have hm:=List.getElem_mem hi;generalize xs[i]=e at he hm;have hpe:=hp e hm;refine EvC.skip ?_;refine EvC.seq ?_;refine EvC.block ?_;refine EvC.a ?_;apply EvC.s1
 ·apply Tr.run
  ·simp only[go_sem,he,intC,hiin,List.length_map]<;>rfl
  ·simp;try omega
  apply Tr.cons
  ·exact .call rfl rfl (by simp only[go_sem]<;>rfl) (by simp only[go_sem]<;>rfl) (by simp only[go_sem]<;>rfl) (by simp only[go_sem,hcs]<;>rfl) (by simp only[go_sem]<;>rfl) (hpe)
  apply Tr.done
  ·simp only[go_sem]<;>rfl
  ·simp
 refine EvC.cs ?_;refine EvC.bi ?_;exact⟨[],i+1,rfl,(by simp only[go_sem,hcs,Int.natCast_add,Int.natCast_one]<;>rfl),by omega,by omega⟩
theorem cont94_is(nl:Bool)(xs:List Int)(c:Cp)(f:FuncId)(cs:List AV)(hcs:AV.norefs cs=true)(hp:∀e∈xs,PureIs prog f (.sc (.int .i64 e)::cs) (.sc (.bool false)))(hl:xs.length<1000000):
  PureIs prog 58 [.sl nl (xs.map intC) c,.fn f cs] (.sc (.bool false)):=by
 have h:=idx96_is nl xs c f cs hcs hp hl;refine PureIs.of1 5 [] func58 ntmps58 results58 fun _=>?_;refine EvC.a ?_;apply EvC.s1
 ·apply Tr.run
  ·simp only[go_sem]<;>rfl
  ·simp
  apply Tr.cons
  ·exact .call rfl rfl (by simp only[go_sem]<;>rfl) (by simp only[go_sem]<;>rfl) (by simp only[go_sem]<;>rfl) (by simp only[go_sem,hcs]<;>rfl) (by simp only[go_sem]<;>rfl) h
  apply Tr.done
  ·simp only[go_sem]<;>rfl
  ·simp
 refine EvC.rz ?_;simp only[go_sem]
 all_goals rfl
theorem inputs93_is(nl:Bool)(xs:List Int)(c:Cp)(many:Int)(hx:∀x∈xs,0≤x∧x<many)(hl:xs.length<1000000):PureIs prog 23 [.sl nl (xs.map intC) c,.sc (.int .i64 many)] (.sc (.bool true)):=by
 have h:=cont94_is nl xs c 59 [.ia [.sc (.int .i64 many)]] rfl (fun e he=>in95_is e many (hx e he)) hl;refine PureIs.of1 5 [] func23 ntmps23 results23 fun _=>?_;refine EvC.a ?_;refine EvC.z 0 ?_;refine EvC.k1 ?_ (c1:=.ca h);refine EvC.rz ?_;simp only[go_sem]
 all_goals rfl
theorem valid92_is{ins:Nat}{outs:Int}{t:TR}(h:TrVal ins outs t)(ho:0≤outs)(hl:t.w.length<1000000):PureIs prog 89 [.ag (traceD t),.sc (.int .i64 ins),.sc (.int .i64 outs)] (.sc (.bool true)):=by
 have hI:=inputs93_is t.w.isEmpty t.w .unk ins h.sym hl;have hlen:=h.len;refine PureIs.of1 7 [7,9,23,25,26,27,28,44] func89 ntmps89 results89 fun _=>?_;refine EvC.a ?_ (by simp only[go_sem,traceD]<;>rfl);refine EvC.z 0 ?_;refine EvC.seq ?_;have d0:decide ((t.r.length:Int)=(t.w.length:Int))=true:=decide_eq_true (by omega);refine EvC.k1 ?_ (h1:=by simp only[go_sem,List.length_map,d0]<;>rfl) (c1:=.cg hI) (h2:=by simp only[go_sem,List.length_map,d0]<;>rfl);refine EvC.cs ?_;refine EvC.a ?_;refine EvC.seq ?_;refine EvC.a ?_;refine EvC.block ?_;refine EvC.loopS (σ:=Nat) (fun i=>⟨[(2,.sc (.int .i64 outs)),(7,.sc (.bool (decide (preN t.r<i)))),(25,.sl false (t.r.map intC) .unk),(26,.sc (.int .i64 t.r.length)),(27,.sc (.int .i64 i))],[],[],0⟩) (fun i=>t.r.length-i) (fun i=>i≤t.r.length) [2,7,25,26,27] 0 ?_ ?_
 ·exact⟨[],0,rfl,(by simp only[go_sem,List.length_map,Int.natCast_zero,Nat.not_lt_zero,decide_false]<;>rfl),Nat.zero_le _⟩
 intro i hi;have hiin:(i:Int).toNat=i:=Int.toNat_natCast i;refine EvC.a ?_;refine EvC.seq ?_;refine EvC.cd (fun hc=>?_) (fun hc=>?_);rotate_left
 ·refine EvC.exit ?_;refine EvC.a ?_;refine EvC.rz ?_;simp only[go_sem]
 have hir:i<t.r.length:=by simpa using hc
 have he:t.r[i]?=some ((t.r[i]?).getD 0):=by rw[List.getElem?_eq_getElem hir];rfl
 have hg:=h.get hir;generalize (t.r[i]?).getD 0=o at he hg;refine EvC.skip ?_;refine EvC.seq ?_;refine EvC.block ?_;refine EvC.a ?_ (by simp only[go_sem,he,intC,hiin,List.length_map]<;>rfl) (by simp;try omega);refine EvC.seq ?_;have q1:decide (o < -1)=false:=decide_eq_false (by omega);have q2:decide (outs≤o)=false:=by
  refine decide_eq_false fun hh=>?_;rcases hg with hg|hg<;>omega
 rcases hg with⟨g1,g2,g3⟩|⟨g1,g2⟩
 ·have q3:decide (preN t.r<i)=false:=decide_eq_false (by omega);have q4:decide (preN t.r<i+1)=false:=decide_eq_false (by omega);have q5:decide (o=-1)=false:=decide_eq_false (by omega);refine EvC.g ?_ (h:=by simp only[go_sem,q1,q2,q3]<;>rfl);refine EvC.cs ?_;refine EvC.b ?_ (by simp only[go_sem,q5]<;>rfl);refine EvC.bi ?_;exact⟨[],i+1,rfl,(by simp only[go_sem,q4,Int.natCast_add,Int.natCast_one]<;>rfl),by omega,by omega⟩
 ·have q4:decide (preN t.r<i+1)=true:=decide_eq_true (by omega);have q5:decide (o=-1)=true:=decide_eq_true g2;refine EvC.g ?_ (h:=by simp only[go_sem,q1,q2,q5]<;>rfl);have q6:(if decide (preN t.r<i)=true then false else false)=false:=by cases decide (preN t.r<i)<;>rfl
  refine EvC.cs ?_ (by simp only[go_sem,q6]<;>rfl);refine EvC.b ?_ (by simp only[go_sem,q5]<;>rfl);refine EvC.bi ?_;exact⟨[],i+1,rfl,(by simp only[go_sem,q4,Int.natCast_add,Int.natCast_one]<;>rfl),by omega,by omega⟩
def sumW(L:List TR):Nat:=(L.map fun t=>t.w.length).sum
theorem sumW_take(L:List TR)(i:Nat):sumW (L.take i)≤sumW L:=by
 have h:sumW L=sumW (L.take i)+sumW (L.drop i):=by
  unfold sumW;rw[←List.sum_append,←List.map_append,List.take_append_drop]
 omega
theorem sumW_next{L:List TR}{i:Nat}{t:TR}(h:L[i]?=some t):sumW (L.take (i+1))=sumW (L.take i)+t.w.length:=by
 unfold sumW;rw[List.take_succ,h,List.map_append,List.sum_append];simp
structure LogOk (ins:Nat) (outs:Int) (L:List TR):Prop where
 inb:1≤ins∧ins≤16
 outb:1≤outs∧outs≤16
 val:∀t∈L,TrVal ins outs t
 short:∀t∈L,t.w.length≤256
 len:L.length≤1024
 sum:sumW L≤65536
theorem within91_gen{ins:Nat}{outs:Int}{L:List TR}(h:LogOk ins outs L)(es:List (List AV))(hl:es.length=L.length)(hC:∀(i:Nat) (t:TR),L[i]?=some t→∃(nw:Bool) (c:Cp) (n2:Bool) (e2:List (List AV)) (c2:Cp),es[i]?=some [AV.sl nw (t.w.map intC) c,AV.sl n2 e2 c2])(hCn:es.all AV.norefs=true)(nl:Bool)(cp:Cp):PureIs prog 22 [.ag [.sc (.int .i64 ins),.sc (.int .i64 outs),.sl nl es cp]] (.sc (.bool true)):=by
 have h1:=h.len;have h2:=h.sum;have h3:=h.inb;have h4:=h.outb;refine PureIs.of1 3 [3,4,5,7,8,9,10,30] func22 ntmps22 results22 fun _=>?_;refine EvC.a ?_;refine EvC.z 0 ?_;refine EvC.a ?_;refine EvC.seq ?_;refine EvC.a ?_;refine EvC.block ?_;refine EvC.loopS (σ:=Nat) (fun i=>⟨[(1,.ia [.sc (.int .i64 ins),.sc (.int .i64 outs),.sl nl es cp]),(3,.sc (.int .i64 (sumW (L.take i)))),(7,.sl nl es cp),(8,.sc (.int .i64 L.length)),(9,.sc (.int .i64 i))],[],[],0⟩) (fun i=>L.length-i) (fun i=>i≤L.length) [1,3,7,8,9] 0 ?_ ?_
 ·exact⟨[],0,rfl,(by simp only[go_sem,hl,List.take_zero,sumW,List.map_nil,List.sum_nil,Int.natCast_zero]<;>rfl),Nat.zero_le _⟩
 intro i hi;have hiin:(i:Int).toNat=i:=Int.toNat_natCast i;refine EvC.a ?_;refine EvC.seq ?_;refine EvC.cd (fun hc=>?_) (fun hc=>?_);rotate_left
 ·
  refine EvC.exit ?_;refine EvC.g ?_;refine EvC.rz ?_;simp only[go_sem,decide_eq_true (show(ins:Int)≤16 by omega),decide_eq_true h4.2]
  all_goals rfl
 have hil:i<L.length:=by simpa using hc
 clear hc;have he:L[i]?=some (L[i]'hil):=List.getElem?_eq_getElem hil;have hsh:=h.short _ (List.getElem_mem hil);generalize L[i]'hil=t at he hsh;have hs:=sumW_next he;have hle:=sumW_take L (i+1);refine EvC.skip ?_;refine EvC.seq ?_;refine EvC.block ?_;obtain⟨nw,c,n2,es2,c2,hCt⟩:=hC i t he;refine EvC.a ?_ (by simp only[go_sem,hCt,hiin,hl]<;>rfl) (by simp[hl];try omega);refine EvC.z 4 ?_;have hsi:((sumW (L.take i):Nat):Int)+(t.w.length:Int)=((sumW (L.take (i+1)):Nat):Int):=by omega
 refine EvC.a ?_ (by simp only[go_sem,List.length_map,hsi]<;>rfl) (by simp;exact inI64_of (by omega) (by omega));refine EvC.g ?_ (h:=by simp only[go_sem,List.length_map]<;>rfl);refine EvC.cs ?_ (by simp only[go_sem,decide_eq_false (show ¬(1024:Int)≤i by omega),decide_eq_false (show ¬(256:Int)<(t.w.length:Int) by omega),decide_eq_false (show ¬(65536:Int)<((sumW (L.take (i+1)):Nat):Int) by omega)]<;>rfl);refine EvC.bi ?_;exact⟨[],i+1,rfl,(by simp only[go_sem,Int.natCast_add,Int.natCast_one]<;>rfl),by omega,by omega⟩
theorem within91_is{ins:Nat}{outs:Int}{L:List TR}(h:LogOk ins outs L):PureIs prog 22 [logD ins outs L] (.sc (.bool true)):=
 within91_gen h (L.map traceD) (List.length_map _) (fun i t ht=>⟨_,_,_,_,_,by rw[List.getElem?_map,ht];rfl⟩) (norefs_traceD L) L.isEmpty .unk
theorem check88_is{ins:Nat}{outs:Int}{L:List TR}(h:LogOk ins outs L):PureIs prog 63 [logD ins outs L] (.sc (.int .i64 0)):=by
 have h1:=h.len;have h3:=h.inb;have h4:=h.outb;have hW:=within91_is h;unfold logD at hW⊢;refine PureIs.of1 3 [4,7,15,17,18,19,20,29] func63 ntmps63 results63 fun _=>?_;refine EvC.a ?_;refine EvC.z 0 ?_;refine EvC.seq ?_;refine EvC.k1 ?_ (c1:=.ca hW);refine EvC.cs ?_;refine EvC.seq ?_;refine EvC.g ?_;refine EvC.cs ?_ (by simp only[go_sem,decide_eq_false (show ¬(ins:Int)<1 by omega),decide_eq_false (show ¬outs<1 by omega)]<;>rfl);refine EvC.seq ?_;refine EvC.a ?_;refine EvC.block ?_;refine EvC.loopS (σ:=Nat) (fun i=>⟨[(1,.ia [.sc (.int .i64 ins),.sc (.int .i64 outs),.sl L.isEmpty (L.map traceD) .unk]),(17,.sl L.isEmpty (L.map traceD) .unk),(18,.sc (.int .i64 L.length)),(19,.sc (.int .i64 i))],[],[],0⟩) (fun i=>L.length-i) (fun i=>i≤L.length) [1,17,18,19] 0 ?_ ?_
 ·exact⟨[],0,rfl,(by simp only[go_sem,List.length_map,Int.natCast_zero]<;>rfl),Nat.zero_le _⟩
 intro i hi;have hiin:(i:Int).toNat=i:=Int.toNat_natCast i;refine EvC.a ?_;refine EvC.seq ?_;refine EvC.cd (fun hc=>?_) (fun hc=>?_);rotate_left
 ·
  refine EvC.exit ?_;refine EvC.a ?_;refine EvC.rz ?_;simp only[go_sem]
 have hil:i<L.length:=by simpa using hc
 clear hc;have he:L[i]?=some (L[i]'hil):=List.getElem?_eq_getElem hil;have hV:=valid92_is (h.val _ (List.getElem_mem hil)) (by omega) (by have:=h.short _ (List.getElem_mem hil);omega);generalize L[i]'hil=t at he hV;unfold traceD at hV;refine EvC.skip ?_;refine EvC.seq ?_;refine EvC.block ?_;refine EvC.a ?_ (by simp only[go_sem,he,hiin,traceD,List.length_map]<;>rfl) (by simp;try omega);refine EvC.z 3 ?_;refine EvC.k1 ?_ (c1:=.ca hV);refine EvC.cs ?_;refine EvC.bi ?_;exact⟨[],i+1,rfl,(by simp only[go_sem,Int.natCast_add,Int.natCast_one]<;>rfl),by omega,by omega⟩
theorem step89_is{a b:TR}(ha:a.r.length=a.w.length)(hb:b.r.length=b.w.length)(hl:a.w.length<1000000∧b.w.length<1000000)(hs:∀k,k<a.w.length→k<b.w.length→a.w.take (k+1)=b.w.take (k+1)→a.r[k]?=b.r[k]?):PureIs prog 64 [.ag (traceD a),.ag (traceD b)] (.sc (.int .i64 (-1))):=by
 refine PureIs.of1 5 [5,27,40] func64 ntmps64 results64 fun _=>?_;refine EvC.a ?_ (by simp only[go_sem,traceD]<;>rfl);refine EvC.z 0 ?_;refine EvC.z 1 ?_;refine EvC.seq ?_;refine EvC.a ?_;refine EvC.block ?_;refine EvC.loopS (σ:=Nat) (fun i=>⟨[(2,.ia (traceD a)),(3,.ia (traceD b)),(5,.sc (.int .i64 i))],[],[],0⟩) (fun i=>a.w.length-i) (fun i=>i≤a.w.length∧i≤b.w.length∧a.w.take i=b.w.take i) [2,3,5] 0 ?_ ?_
 ·exact⟨[],0,rfl,(by simp only[go_sem,traceD,Int.natCast_zero]<;>rfl),Nat.zero_le _,Nat.zero_le _,by simp⟩
 rintro i ⟨h1,h2,h3⟩;have hiin:(i:Int).toNat=i:=Int.toNat_natCast i;refine EvC.seq ?_;by_cases hi:i<a.w.length∧i<b.w.length;rotate_left
 ·have dm:decide ((i:Int)<(if(a.w.length:Int)≤(b.w.length:Int)then(a.w.length:Int)else(b.w.length:Int)))=false:=decide_eq_false (by split<;>omega);by_cases e1:i<a.w.length
  ·have hx:a.w[i]?=some (a.w[i]'e1):=List.getElem?_eq_getElem e1;have hy:b.w[i]?=none:=List.getElem?_eq_none (by omega);apply EvC.seq;apply EvC.drw mixed
   ·apply Tr.run
    ·simp only[go_sem,traceD,List.length_map,dm,List.getElem?_map,hx,hy,hiin,intC]<;>rfl
    ·simp
    apply Tr.cons
    ·exact .skipv (.ia [.sc (.int .i64 0)]) rfl rfl (by simp only[go_sem]<;>rfl) (by simp only[go_sem]<;>rfl)
    apply Tr.done
    ·simp only[go_sem,traceD,List.length_map,dm,List.getElem?_map,hx,hy,hiin,intC]<;>rfl
    ·simp
   ·kernel_rfl
   refine EvC.cf ?_;refine EvC.exit ?_;refine EvC.a ?_;refine EvC.rz ?_;simp only[go_sem]
  ·have hx:a.w[i]?=none:=List.getElem?_eq_none (by omega);by_cases e2:i<b.w.length
   ·have hy:b.w[i]?=some (b.w[i]'e2):=List.getElem?_eq_getElem e2;apply EvC.seq;apply EvC.drw mixed
    ·apply Tr.run
     ·simp only[go_sem,traceD,List.length_map,dm,List.getElem?_map,hx,hy,hiin,intC]<;>rfl
     ·simp
     apply Tr.cons
     ·exact .skipv (.ia [.sc (.int .i64 0)]) rfl rfl (by simp only[go_sem]<;>rfl) (by simp only[go_sem]<;>rfl)
     apply Tr.done
     ·simp only[go_sem,traceD,List.length_map,dm,List.getElem?_map,hx,hy,hiin,intC]<;>rfl
     ·simp
    ·kernel_rfl
    refine EvC.cf ?_;refine EvC.exit ?_;refine EvC.a ?_;refine EvC.rz ?_;simp only[go_sem]
   ·have hy:b.w[i]?=none:=List.getElem?_eq_none (by omega);apply EvC.seq;apply EvC.drw mixed
    ·apply Tr.run
     ·simp only[go_sem,traceD,List.length_map,dm,List.getElem?_map,hx,hy,hiin,intC]<;>rfl
     ·simp
     apply Tr.cons
     ·exact .skipv (.ia [.sc (.int .i64 0)]) rfl rfl (by simp only[go_sem]<;>rfl) (by simp only[go_sem]<;>rfl)
     apply Tr.run
     ·simp only[go_sem,traceD,List.length_map,dm,List.getElem?_map,hx,hy,hiin,intC]<;>rfl
     ·simp
     apply Tr.cons
     ·exact .skipv (.ia [.sc (.int .i64 0)]) rfl rfl (by simp only[go_sem]<;>rfl) (by simp only[go_sem]<;>rfl)
     apply Tr.done
     ·simp only[go_sem,traceD,List.length_map,dm,List.getElem?_map,hx,hy,hiin,intC]<;>rfl
     ·simp
    ·kernel_rfl
    refine EvC.cf ?_;refine EvC.exit ?_;refine EvC.a ?_;refine EvC.rz ?_;simp only[go_sem]
 have dm:decide ((i:Int)<(if(a.w.length:Int)≤(b.w.length:Int)then(a.w.length:Int)else(b.w.length:Int)))=true:=decide_eq_true (by split<;>omega);have ga:a.w[i]?=some (a.w[i]'hi.1):=List.getElem?_eq_getElem hi.1;have gb:b.w[i]?=some (b.w[i]'hi.2):=List.getElem?_eq_getElem hi.2;have gra:a.r[i]?=some (a.r[i]'(by omega)):=List.getElem?_eq_getElem (by omega);have hs:=hs i hi.1 hi.2;rw[gra]at hs;have hta:a.w.take (i+1)=a.w.take i++[a.w[i]'hi.1]:=by rw[List.take_succ,ga];rfl
 have htb:b.w.take (i+1)=b.w.take i++[b.w[i]'hi.2]:=by rw[List.take_succ,gb];rfl
 generalize a.w[i]'hi.1=x at ga hta;generalize b.w[i]'hi.2=y at gb htb;generalize a.r[i]'(by omega)=z at gra hs;refine EvC.d mixed ?_ (h:=by simp only[go_sem,traceD,ga,gb,hiin,intC,List.length_map,dm]<;>rfl) (hok:=by simp;try omega);by_cases hxy:x=y;rotate_left
 ·refine EvC.cf ?_ (by simp only[go_sem,decide_eq_false hxy]<;>rfl);refine EvC.exit ?_;refine EvC.a ?_;refine EvC.rz ?_;simp only[go_sem]
 have hz:=hs (by rw[hta,htb,h3,hxy]);refine EvC.cr ?_ (by simp only[go_sem,decide_eq_true hxy]<;>rfl);refine EvC.seq ?_;refine EvC.block ?_;refine EvC.d mixed ?_ (h:=by simp only[go_sem,traceD,gra,hz.symm,hiin,intC,List.length_map]<;>rfl) (hok:=by simp;try omega);refine EvC.cs ?_;refine EvC.bi ?_;exact⟨[],i+1,rfl,(by simp only[go_sem,traceD,Int.natCast_add,Int.natCast_one]<;>rfl),⟨by omega,by omega,by rw[hta,htb,h3,hxy]⟩,by omega⟩
theorem contra79_is{ins:Nat}{outs:Int}{L:List TR}(h:LogOk ins outs L)(hc:Cons L):PureIs prog 27 [logD ins outs L] (.tu [.ag [.sc (.int .i64 0),.sc (.int .i64 0),.sc (.int .i64 0)],.sc (.bool false),.sc (.int .i64 0)]):=by
 have h1:=h.len;have hK:=check88_is h;unfold logD at hK⊢;refine PureIs.of1 3 [3,4,5,6,7,8,9,10,2,14,18,19,20,21,28,29,30,31,39] func27 ntmps27 results27 fun _=>?_;refine EvC.a ?_;refine EvC.z 0 ?_;refine EvC.seq ?_;refine EvC.k1 ?_ (c1:=.ca hK);refine EvC.a ?_;refine EvC.cs ?_;refine EvC.seq ?_;refine EvC.a ?_;refine EvC.block ?_;refine EvC.loopS (σ:=Nat) (fun i=>⟨[(1,.ia [.sc (.int .i64 ins),.sc (.int .i64 outs),.sl L.isEmpty (L.map traceD) .unk]),(2,.rf 0 0),(18,.sl L.isEmpty (L.map traceD) .unk),(19,.sc (.int .i64 L.length)),(20,.sc (.int .i64 i))],[],[(0,.cells [.sc (.int .i64 0),.sc (.int .i64 0),.sc (.int .i64 0)])],1⟩) (fun i=>L.length-i) (fun i=>i≤L.length) [1,2,18,19,20] 1 ?_ ?_
 ·exact⟨[(1,0)],0,rfl,(by simp only[go_sem,List.length_map,Int.natCast_zero]<;>rfl),Nat.zero_le _⟩
 intro i hi;have hiin:(i:Int).toNat=i:=Int.toNat_natCast i;refine EvC.a ?_;refine EvC.seq ?_;refine EvC.cd (fun hc=>?_) (fun hc=>?_);rotate_left
 ·
  refine EvC.exit ?_;refine EvC.a ?_;refine EvC.rz ?_;simp only[go_sem]
  all_goals rfl
 have hil:i<L.length:=by simpa using hc
 clear hc;have he:L[i]?=some (L[i]'hil):=List.getElem?_eq_getElem hil;have htm:=List.getElem_mem hil;generalize L[i]'hil=t at he htm;refine EvC.skip ?_;refine EvC.seq ?_;refine EvC.block ?_;refine EvC.a ?_ (by simp only[go_sem,he,hiin,traceD,List.length_map]<;>rfl) (by simp;try omega);refine EvC.z 5 ?_;have hmt:(L.map traceD).take i=(L.take i).map traceD:=(List.map_take ..).symm;have hml:((L.take i).map traceD).length=i:=by rw[List.length_map,List.length_take];omega
 refine EvC.a ?_ (by simp only[go_sem,hmt,hml,hiin,List.length_map]<;>rfl) (by simp;exact⟨fun _ _=>rfl,by omega⟩);refine EvC.block ?_;refine EvC.loopS (σ:=Nat) (fun j=>⟨[(1,.ia [.sc (.int .i64 ins),.sc (.int .i64 outs),.sl L.isEmpty (L.map traceD) .unk]),(2,.rf 0 0),(6,.sc (.int .i64 i)),(7,.ia (traceD t)),(18,.sl L.isEmpty (L.map traceD) .unk),(19,.sc (.int .i64 L.length)),(20,.sc (.int .i64 i)),(28,.sl L.isEmpty ((L.take i).map traceD) .unk),(29,.sc (.int .i64 i)),(30,.sc (.int .i64 j))],[],[(0,.cells [.sc (.int .i64 0),.sc (.int .i64 0),.sc (.int .i64 0)])],1⟩) (fun j=>i-j) (fun j=>j≤i) [1,2,6,7,18,19,20,28,29,30] 1 ?_ ?_
 ·exact⟨[(0,0)],0,rfl,(by simp only[go_sem,traceD,hml,Int.natCast_zero]<;>rfl),Nat.zero_le _⟩
 intro j hj;have hjin:(j:Int).toNat=j:=Int.toNat_natCast j;refine EvC.a ?_;refine EvC.seq ?_;refine EvC.cd (fun hc=>?_) (fun hc=>?_);rotate_left
 ·
  refine EvC.exit ?_;refine EvC.bi ?_;exact⟨[(0,0)],i+1,rfl,(by simp only[go_sem,Int.natCast_add,Int.natCast_one]<;>rfl),by omega,by omega⟩
 have hji:j<i:=by simpa using hc
 clear hc;have hg:L[j]?=some (L[j]'(by omega)):=List.getElem?_eq_getElem (by omega);have hum:=List.getElem_mem (l:=L) (show j<L.length by omega);generalize L[j]'(by omega)=u at hg hum;have hgt:((L.take i).map traceD)[j]?=some (traceD u):=by rw[List.getElem?_map,List.getElem?_take,if_pos hji,hg];rfl
 have v1:=h.val u hum;have v2:=h.val t htm;have hS:=step89_is (a:=u) (b:=t) v1.len v2.len ⟨by have:=h.short u hum;omega,by have:=h.short t htm;omega⟩ (fun k k1 k2 hk=>by
  have hw:(u.w.take (k+1))≠[]:=by intro hh;have:=congrArg List.length hh;rw[List.length_take,List.length_nil]at this;omega
  have:=hc u hum t htm (u.w.take (k+1)) hw (hasW_take u (k+1)) (by rw[hk];exact hasW_take t (k+1));rw[show(u.w.take (k+1)).length-1=k by rw[List.length_take];omega]at this;have g1:u.r[k]?=some (u.r[k]'(by rw[v1.len];exact k1)):=List.getElem?_eq_getElem (by rw[v1.len];exact k1);have g2:t.r[k]?=some (t.r[k]'(by rw[v2.len];exact k2)):=List.getElem?_eq_getElem (by rw[v2.len];exact k2);rw[g1,g2]at this⊢;simpa using this)
 unfold traceD at hS;refine EvC.skip ?_;refine EvC.seq ?_;refine EvC.block ?_;refine EvC.a ?_ (by simp only[go_sem,hgt,hjin,hml,traceD]<;>rfl) (by simp;try omega);refine EvC.z 5 ?_;refine EvC.k1 ?_ (h1:=by simp only[go_sem,traceD]<;>rfl) (c1:=.ca hS);refine EvC.a ?_;refine EvC.cs ?_;refine EvC.bi ?_;exact⟨[(0,0)],j+1,rfl,(by simp only[go_sem,traceD,Int.natCast_add,Int.natCast_one]<;>rfl),by omega,by omega⟩
def insN(N:List (List Int))(t:TR)(k:Nat):List (List Int):=(List.range k).foldl (fun N j=>if t.w.take (j+1)∈N then N else N++[t.w.take (j+1)]) N
def rawN(L:List TR):List (List Int):=L.foldl (fun N t=>insN N t (preN t.r)) [[]]
theorem insN_succ(N:List (List Int))(t:TR)(k:Nat):insN N t (k+1)=if t.w.take (k+1)∈insN N t k then insN N t k else insN N t k++[t.w.take (k+1)]:=by
 rw[insN,List.range_succ,List.foldl_append];rfl
theorem mem_insN{N:List (List Int)}{t:TR}{x:List Int}:∀{k:Nat},x∈insN N t k↔x∈N∨∃j,j<k∧x=t.w.take (j+1)
 | 0=>by simp[insN]
 | k+1=>by
   rw[insN_succ];split
   ·rename_i h;rw[mem_insN];constructor
    ·rintro(h1|⟨j,h1,h2⟩)
     ·exact .inl h1
     ·exact .inr ⟨j,by omega,h2⟩
    ·rintro(h1|⟨j,h1,h2⟩)
     ·exact .inl h1
     ·by_cases e:j=k
      ·subst e;rw[h2];rw[mem_insN]at h;exact h
      ·exact .inr ⟨j,by omega,h2⟩
   ·rw[List.mem_append,List.mem_singleton,mem_insN];constructor
    ·rintro((h1|⟨j,h1,h2⟩)|h1)
     ·exact .inl h1
     ·exact .inr ⟨j,by omega,h2⟩
     ·exact .inr ⟨k,by omega,h1⟩
    ·rintro(h1|⟨j,h1,h2⟩)
     ·exact .inl (.inl h1)
     ·by_cases e:j=k
      ·subst e;exact .inr h2
      ·exact .inl (.inr ⟨j,by omega,h2⟩)
theorem insN_nodup{N:List (List Int)}(h:N.Nodup)(t:TR):∀k,(insN N t k).Nodup
 | 0=>h
 | k+1=>by
   rw[insN_succ];split
   ·exact insN_nodup h t k
   ·rename_i hn;rw[List.nodup_append];refine⟨insN_nodup h t k,by simp,fun a ha b hb he=>?_⟩;rw[List.mem_singleton.1 hb]at he;exact hn (he▸ha)
theorem rawN_snoc(T:List TR)(t:TR):rawN (T++[t])=insN (rawN T) t (preN t.r):=by
 unfold rawN;rw[List.foldl_append];rfl
theorem rawN_props(L:List TR):(rawN L).Nodup∧∀x,x∈rawN L↔x∈nodesL L:=by
 have key:∀(L:List TR) (N:List (List Int)),N.Nodup→(L.foldl (fun N t=>insN N t (preN t.r)) N).Nodup∧∀x,x∈L.foldl (fun N t=>insN N t (preN t.r)) N↔x∈N∨∃t∈L,∃j,j<preN t.r∧x=t.w.take (j+1):=by
  intro L
  induction L with
  | nil=>intro N h;exact⟨h,fun x=>by simp⟩
  | cons t L ih=>
    intro N h;obtain⟨h1,h2⟩:=ih (insN N t (preN t.r)) (insN_nodup h t _);rw[List.foldl_cons];refine⟨h1,fun x=>?_⟩;rw[h2,mem_insN];constructor
    ·rintro((h3|⟨j,h3,h4⟩)|⟨u,hu,h3⟩)
     ·exact .inl h3
     ·exact .inr ⟨t,List.mem_cons_self,j,h3,h4⟩
     ·exact .inr ⟨u,List.mem_cons_of_mem _ hu,h3⟩
    ·rintro(h3|⟨u,hu,h3⟩)
     ·exact .inl (.inl h3)
     ·rcases List.mem_cons.1 hu with rfl|hu
      ·exact .inl (.inr h3)
      ·exact .inr ⟨u,hu,h3⟩
 obtain⟨h1,h2⟩:=key L [[]] (by simp);refine⟨h1,fun x=>?_⟩;unfold rawN;rw[h2,mem_nodesL,List.mem_singleton]
def cutK(t:TR)(k:Nat):TR:=⟨t.w.take k,t.r.take k⟩
theorem cutK_full{t:TR}{k:Nat}(h1:t.w.length≤k)(h2:t.r.length=t.w.length):cutK t k=t:=by
 unfold cutK;rw[List.take_of_length_le h1,List.take_of_length_le (by omega)]
theorem TrVal.cutK{ins:Nat}{outs:Int}{t:TR}(h:TrVal ins outs t)(k:Nat):TrVal ins outs (cutK t k):=
 ⟨by simp only[Avl.cutK,List.length_take,h.len],fun a ha=>h.sym a (List.mem_of_mem_take ha),FormR.take h.form k⟩
theorem hasW_cutK{t:TR}{k:Nat}{w:List Int}:hasW (cutK t k) w↔hasW t w∧w.length≤k:=by
 unfold hasW cutK;simp only[List.length_take,List.take_take];constructor
 ·rintro⟨h1,h2⟩;rw[Nat.min_eq_left (by omega)]at h2;exact⟨⟨by omega,h2⟩,by omega⟩
 ·rintro⟨⟨h1,h2⟩,h3⟩;exact⟨by omega,by rw[Nat.min_eq_left (by omega)];exact h2⟩
theorem Cons.cutK{T:List TR}{t:TR}(h:Cons (T++[t]))(k:Nat):Cons (T++[cutK t k]):=by
 have key:∀u∈T++[Avl.cutK t k],∃u'∈T++[t],∀w,w≠[]→hasW u w→hasW u' w∧(u.r[w.length-1]?).getD 0=(u'.r[w.length-1]?).getD 0:=fun u hu=>by
  rcases List.mem_append.1 hu with hu|hu
  ·exact⟨u,List.mem_append_left _ hu,fun w _ hw=>⟨hw,rfl⟩⟩
  ·rw[List.mem_singleton.1 hu];refine⟨t,by simp,fun w hne hw=>?_⟩;obtain⟨h1,h2⟩:=hasW_cutK.1 hw;have hwl:w.length≠0:=fun hh=>hne (List.length_eq_zero_iff.1 hh);refine⟨h1,?_⟩;simp only[Avl.cutK];rw[List.getElem?_take,if_pos (by omega)]
 intro u hu u2 hu2 w hw h1 h2;obtain⟨u',a1,a2⟩:=key u hu;obtain⟨u2',b1,b2⟩:=key u2 hu2;rw[(a2 w hw h1).2,(b2 w hw h2).2];exact h u' a1 u2' b1 w hw (a2 w hw h1).1 (b2 w hw h2).1
theorem edge_raw{ins:Nat}{outs:Int}{L:List TR}(hv:∀t∈L,TrVal ins outs t)(hc:Cons L){N:List (List Int)}(hN:∀x,x∈N↔x∈nodesL L){w:List Int}(hw:w≠[]):
  (w∉N∧((lastL L w=none∧edgeOf L N w=(-1,-1))∨(lastL L w=some (-1)∧edgeOf L N w=(-1,-2))))∨(w∈N∧∃n,lastL L w=some n∧0≤n∧n<outs∧edgeOf L N w=(((N.idxOf w:Nat):Int),n)):=by
 rcases edge_cases hv hc hw with⟨h1,h2⟩|⟨h1,n,h2,h3,h4,h5⟩
 ·refine .inl ⟨fun h=>h1 ((hN w).1 h),?_⟩;have he:edgeOf L (nodesL L) w=match lastL L w with|none=>(-1,-1)|some n=>if n=-1 then(-1,-2)else(posOf (nodesL L) w,n):=rfl
  have he2:edgeOf L N w=match lastL L w with|none=>(-1,-1)|some n=>if n=-1 then(-1,-2)else(posOf N w,n):=rfl
  cases hl:lastL L w with
  | none=>
    rw[hl]at he2;exact .inl ⟨rfl,he2⟩
  | some n=>
    rw[hl]at he he2;by_cases hn:n=-1
    ·subst hn;simp only[if_true]at he2;exact .inr ⟨rfl,he2⟩
    ·simp only[if_neg hn]at he;obtain⟨t,ht,hw',hr⟩:=lastL_mem hl;have hkl:w.length-1<t.r.length:=by
      have:=hw'.1;have:=(hv t ht).len;have hwl:w.length≠0:=fun hh=>hw (List.length_eq_zero_iff.1 hh);omega
     rcases(hv t ht).get hkl with h6|h6
     ·rcases h2 with h2|h2<;>(rw[he]at h2;have:=congrArg Prod.snd h2;simp only at this;omega)
     ·omega
 ·refine .inr ⟨(hN w).2 h1,n,h2,h3,h4,?_⟩;have he2:edgeOf L N w=match lastL L w with|none=>(-1,-1)|some n=>if n=-1 then(-1,-2)else(posOf N w,n):=rfl
  rw[h2]at he2;simp only at he2;rw[if_neg (by omega),posOf,if_pos (List.idxOf_lt_length_of_mem ((hN w).2 h1))]at he2;exact he2
theorem lastL_append(A B:List TR)(w:List Int):lastL (A++B) w=match lastL A w with|some n=>some n|none=>lastL B w:=by
 induction A with
 | nil=>rfl
 | cons t A ih=>
   rw[List.cons_append,lastL,lastL];by_cases h:hasW t w
   ·rw[if_pos h,if_pos h]
   ·rw[if_neg h,if_neg h,ih]
theorem lastL_one(t:TR)(w:List Int):lastL [t] w=if hasW t w then some ((t.r[w.length-1]?).getD 0)else none:=rfl
theorem lastL_cut{T:List TR}{t:TR}{k:Nat}(hk:k<t.w.length){w:List Int}(hw:w≠t.w.take (k+1)):lastL (T++[cutK t (k+1)]) w=lastL (T++[cutK t k]) w∨w=[]:=by
 by_cases h0:w=[]
 ·exact .inr h0
 left;rw[lastL_append,lastL_append];cases lastL T w with
 | some n=>rfl
 | none=>
   simp only;rw[lastL_one,lastL_one];have hwl:w.length≠0:=fun hh=>h0 (List.length_eq_zero_iff.1 hh);by_cases h1:hasW t w∧w.length≤k
   ·rw[if_pos (hasW_cutK.2 h1),if_pos (hasW_cutK.2 ⟨h1.1,by omega⟩)];simp only[cutK];rw[List.getElem?_take,List.getElem?_take,if_pos (by omega),if_pos (by omega)]
   ·rw[if_neg (fun h=>h1 (hasW_cutK.1 h)),if_neg];intro h;obtain⟨h2,h3⟩:=hasW_cutK.1 h;refine hw ?_;rw[←h2.2,show w.length=k+1 by
     have:¬w.length≤k:=fun hh=>h1 ⟨h2,hh⟩;omega]
def rawW(L:List TR)(N:List (List Int))(s i:Nat):Int×Int:=edgeOf L N ((N[s]?).getD []++[(i:Int)])
theorem preN_take:∀(r:List Int) (k:Nat),preN (r.take k)=min k (preN r)
 | [],k=>by simp[preN]
 | x::r,0=>by simp[preN]
 | x::r,k+1=>by
   have ih:=preN_take r k;unfold preN at ih⊢;rw[List.take_succ_cons,List.takeWhile_cons,List.takeWhile_cons];by_cases h:decide (x≠ -1)=true
   ·rw[if_pos h,if_pos h,List.length_cons,List.length_cons,ih];omega
   ·rw[if_neg h,if_neg h];simp
theorem insN_mem{T:List TR}{t:TR}{k:Nat}(hk:k≤preN t.r)(x:List Int):x∈insN (rawN T) t k↔x∈nodesL (T++[cutK t k]):=by
 rw[mem_insN,(rawN_props T).2,mem_nodesL,mem_nodesL];constructor
 ·rintro((h|⟨u,hu,j,hj,hx⟩)|⟨j,hj,hx⟩)
  ·exact .inl h
  ·exact .inr ⟨u,List.mem_append_left _ hu,j,hj,hx⟩
  ·refine .inr ⟨cutK t k,by simp,j,?_,?_⟩
   ·simp only[cutK];rw[preN_take];omega
   ·simp only[cutK];rw[List.take_take,Nat.min_eq_left (by omega)];exact hx
 ·rintro(h|⟨u,hu,j,hj,hx⟩)
  ·exact .inl (.inl h)
  ·rcases List.mem_append.1 hu with hu|hu
   ·exact .inl (.inr ⟨u,hu,j,hj,hx⟩)
   ·have e:=List.mem_singleton.1 hu;subst e;simp only[cutK]at hj hx;rw[preN_take]at hj;rw[List.take_take,Nat.min_eq_left (by omega)]at hx;exact .inr ⟨j,by omega,hx⟩
structure RawS (ins:Nat) (outs:Int) (T:List TR) (t:TR):Prop where
 val:∀u∈T++[t],TrVal ins outs u
 cons:Cons (T++[t])
theorem RawS.vt{ins:Nat}{outs:Int}{T:List TR}{t:TR}(h:RawS ins outs T t):TrVal ins outs t:=h.val t (by simp)
theorem RawS.cut{ins:Nat}{outs:Int}{T:List TR}{t:TR}(h:RawS ins outs T t)(k:Nat):(∀u∈T++[cutK t k],TrVal ins outs u)∧Cons (T++[cutK t k]):=
 ⟨fun u hu=>by
  rcases List.mem_append.1 hu with hu|hu
  ·exact h.val u (List.mem_append_left _ hu)
  ·rw[List.mem_singleton.1 hu];exact h.vt.cutK k,h.cons.cutK k⟩
theorem RawS.edge{ins:Nat}{outs:Int}{T:List TR}{t:TR}(h:RawS ins outs T t){k:Nat}(hk:k≤preN t.r){w:List Int}(hw:w≠[]):
  (w∉insN (rawN T) t k∧((lastL (T++[cutK t k]) w=none∧edgeOf (T++[cutK t k]) (insN (rawN T) t k) w=(-1,-1))∨(lastL (T++[cutK t k]) w=some (-1)∧edgeOf (T++[cutK t k]) (insN (rawN T) t k) w=(-1,-2))))∨
   (w∈insN (rawN T) t k∧∃n,lastL (T++[cutK t k]) w=some n∧0≤n∧n<outs∧edgeOf (T++[cutK t k]) (insN (rawN T) t k) w=((((insN (rawN T) t k).idxOf w:Nat):Int),n)):=
 edge_raw (h.cut k).1 (h.cut k).2 (insN_mem (T:=T) hk) hw
theorem RawS.at{ins:Nat}{outs:Int}{T:List TR}{t:TR}(h:RawS ins outs T t){k:Nat}(hk:k≤preN t.r):t.w.take k∈insN (rawN T) t k:=by
 by_cases h0:k=0
 ·subst h0;rw[List.take_zero,mem_insN];exact .inl (((rawN_props T).2 []).2 (mem_nodesL.2 (.inl rfl)))
 ·rw[mem_insN];exact .inr ⟨k-1,by omega,by rw[show k-1+1=k by omega]⟩
theorem take_snoc{w:List Int}{k:Nat}{a:Int}(h:w[k]?=some a):w.take (k+1)=w.take k++[a]:=by rw[List.take_succ,h];rfl
theorem idx_word{N:List (List Int)}(hn:N.Nodup){s:Nat}(hs:s<N.length){x:List Int}(hx:(N[s]?).getD []=x):N.idxOf x=s:=by
 have h1:N[s]?=some N[s]:=List.getElem?_eq_getElem hs;rw[h1]at hx;have hx:N[s]=x:=hx;subst hx;exact hn.idxOf_getElem s hs
theorem idx_get{N:List (List Int)}{x:List Int}(h:x∈N):N[N.idxOf x]?=some x:=by
 have hl:=List.idxOf_lt_length_of_mem h;rw[List.getElem?_eq_getElem hl,List.getElem_idxOf hl]
theorem word_eq{N:List (List Int)}(hn:N.Nodup){x:List Int}(hx:x∈N){i:Nat}{s j:Nat}(hs:s<N.length):(N[s]?).getD []++[(j:Int)]=x++[(i:Int)]↔s=N.idxOf x∧j=i:=by
 constructor
 ·intro h;have h1:=List.append_inj h (by have:=congrArg List.length h;simpa using this);refine⟨(idx_word hn hs h1.1).symm,?_⟩;have:=h1.2;simp at this;omega
 ·rintro⟨rfl,rfl⟩;rw[idx_get hx];rfl
theorem word_in{N:List (List Int)}{s:Nat}(hs:s<N.length):(N[s]?).getD []∈N:=by
 rw[List.getElem?_eq_getElem hs];exact List.getElem_mem hs
theorem snoc_ne(x:List Int)(a:Int):x++[a]≠[]:=by simp
theorem RawS.refuse{ins:Nat}{outs:Int}{T:List TR}{t:TR}(h:RawS ins outs T t){k i:Nat}(hk:k=preN t.r)(hkw:t.w[k]?=some (i:Int))(ho:(t.r[k]?).getD 0=-1){s j:Nat}(hs:s<(insN (rawN T) t k).length):
  rawW (T++[t]) (insN (rawN T) t k) s j=if s=(insN (rawN T) t k).idxOf (t.w.take k)∧j=i then(-1,-2)else rawW (T++[cutK t k]) (insN (rawN T) t k) s j:=by
 have hkl:=(List.getElem?_eq_some_iff.1 hkw).1;have hw1:=take_snoc hkw;have hin:=h.at (k:=k) (by omega);have hnd:=insN_nodup (rawN_props T).1 t k;have hwe:=word_eq hnd hin (i:=i) (j:=j) hs;rw[←hw1]at hwe;unfold rawW;by_cases he:s=(insN (rawN T) t k).idxOf (t.w.take k)∧j=i
 ·rw[if_pos he,hwe.2 he];have hl:lastL (T++[t]) (t.w.take (k+1))=some (-1):=by
   have:=h.cons.last (w:=t.w.take (k+1)) (show t∈T++[t] by simp) (by rw[hw1];exact snoc_ne _ _) (hasW_take t (k+1));rw[show(t.w.take (k+1)).length-1=k by rw[List.length_take];omega,ho]at this;exact this
  rw[edgeOf,hl];rfl
 ·rw[if_neg he];have hne:((insN (rawN T) t k)[s]?).getD []++[(j:Int)]≠t.w.take (k+1):=fun e=>he (hwe.1 e);have hmem:=word_in hs;generalize ((insN (rawN T) t k)[s]?).getD []=x at hne hmem;have hlast:lastL (T++[t]) (x++[(j:Int)])=lastL (T++[cutK t k]) (x++[(j:Int)]):=by
   rw[lastL_append,lastL_append];cases lastL T (x++[(j:Int)])with
   | some n=>rfl
   | none=>
     simp only;rw[lastL_one,lastL_one];by_cases h1:hasW t (x++[(j:Int)])∧(x++[(j:Int)]).length≤k
     ·rw[if_pos h1.1,if_pos (hasW_cutK.2 h1)];simp only[cutK];rw[List.getElem?_take,if_pos (by simp at h1⊢;omega)]
     ·rw[if_neg (fun hh=>h1 (hasW_cutK.1 hh)),if_neg];intro h2;have hlen:¬(x++[(j:Int)]).length≤k:=fun hh=>h1 ⟨h2,hh⟩;have h2t:=h2.2;have hx:t.w.take x.length=x:=by
       have:=congrArg (fun l=>l.take x.length) h2t;simp only[List.take_left',List.take_take]at this;rw[Nat.min_eq_left (by simp)]at this;exact this
      have hxl:k+1≤x.length:=by
       refine Nat.lt_of_not_le fun hh=>?_;have:x.length=k:=by simp at hlen;omega
       refine hne ?_;rw[←h2t,List.length_append,List.length_singleton,this]
      rw[mem_insN]at hmem;rcases hmem with hm|⟨m,hm,hxm⟩
      ·rw[(rawN_props T).2,mem_nodesL]at hm;rcases hm with hm|⟨u,hu,m,hm,hxm⟩
       ·rw[hm]at hxl;simp at hxl
       ·have huv:=h.val u (List.mem_append_left _ hu);have hul:u.r.length=u.w.length:=huv.len;have hpl:=preN_le u.r;have hxml:x.length=m+1:=by rw[hxm,List.length_take];omega
        have hutk:u.w.take (k+1)=t.w.take (k+1):=by
         have e1:=congrArg (fun l=>l.take (k+1)) (hxm.symm.trans hx.symm);simp only[List.take_take]at e1;rw[Nat.min_eq_left (by omega),Nat.min_eq_left (by omega)]at e1;exact e1
        have hcc:=h.cons u (List.mem_append_left _ hu) t (by simp) (t.w.take (k+1)) (by rw[hw1];exact snoc_ne _ _) (by
         rw[←hutk];exact hasW_take u (k+1)) (hasW_take t (k+1))
        rw[show(t.w.take (k+1)).length-1=k by rw[List.length_take];omega,ho]at hcc;rcases huv.get (k:=k) (by omega)with h5|h5<;>omega
      ·have:=congrArg List.length hxm;rw[List.length_take]at this;omega
  rw[edgeOf,edgeOf,hlast]
theorem RawS.old{ins:Nat}{outs:Int}{T:List TR}{t:TR}(h:RawS ins outs T t){k i:Nat}(hk:k<preN t.r)(hkw:t.w[k]?=some (i:Int))(hin:t.w.take (k+1)∈insN (rawN T) t k):
  insN (rawN T) t (k+1)=insN (rawN T) t k∧∀s j,rawW (T++[cutK t (k+1)]) (insN (rawN T) t k) s j=rawW (T++[cutK t k]) (insN (rawN T) t k) s j:=by
 have hkl:=(List.getElem?_eq_some_iff.1 hkw).1;refine⟨by rw[insN_succ,if_pos hin],fun s j=>?_⟩;unfold rawW;by_cases he:((insN (rawN T) t k)[s]?).getD []++[(j:Int)]=t.w.take (k+1)
 ·rw[he];have hT:∃n,lastL T (t.w.take (k+1))=some n:=by
   rcases h.edge (k:=k) (by omega) (w:=t.w.take (k+1)) (by rw[take_snoc hkw];exact snoc_ne _ _)with⟨h1,_⟩|⟨_,n,h1,_⟩
   ·exact absurd hin h1
   ·rw[lastL_append]at h1;cases hl:lastL T (t.w.take (k+1))with
    | some n=>exact⟨n,rfl⟩
    | none=>
      rw[hl]at h1;simp only at h1;rw[lastL_one,if_neg]at h1
      ·cases h1
      ·intro hh;have:=(hasW_cutK.1 hh).2;rw[List.length_take]at this;omega
  obtain⟨n,hT⟩:=hT;rw[edgeOf,edgeOf,lastL_append,lastL_append,hT]
 ·rcases lastL_cut (T:=T) hkl he with h1|h1
  ·rw[edgeOf,edgeOf,h1]
  ·exact absurd h1 (snoc_ne _ _)
theorem RawS.new{ins:Nat}{outs:Int}{T:List TR}{t:TR}(h:RawS ins outs T t){k i:Nat}(hk:k<preN t.r)(hkw:t.w[k]?=some (i:Int))(hin:t.w.take (k+1)∉insN (rawN T) t k):
  insN (rawN T) t (k+1)=insN (rawN T) t k++[t.w.take (k+1)]∧∀s j,s<(insN (rawN T) t k).length+1→rawW (T++[cutK t (k+1)]) (insN (rawN T) t (k+1)) s j=
   if s=(insN (rawN T) t k).idxOf (t.w.take k)∧j=i then((((insN (rawN T) t k).length:Nat):Int),(t.r[k]?).getD 0)else if s<(insN (rawN T) t k).length then rawW (T++[cutK t k]) (insN (rawN T) t k) s j else(-1,-1):=by
 have hkl:=(List.getElem?_eq_some_iff.1 hkw).1;have hw1:=take_snoc hkw;have hN:insN (rawN T) t (k+1)=insN (rawN T) t k++[t.w.take (k+1)]:=by rw[insN_succ,if_neg hin]
 have hat:=h.at (k:=k) (by omega);have hatl:=List.idxOf_lt_length_of_mem hat;have hnd:=insN_nodup (rawN_props T).1 t k;have hlw:lastL (T++[cutK t (k+1)]) (t.w.take (k+1))=some ((t.r[k]?).getD 0):=by
  have:=(h.cut (k+1)).2.last (t:=cutK t (k+1)) (w:=t.w.take (k+1)) (by simp) (by rw[hw1];exact snoc_ne _ _) (hasW_cutK.2 ⟨hasW_take t (k+1),by rw[List.length_take];omega⟩);rw[show(t.w.take (k+1)).length-1=k by rw[List.length_take];omega]at this;simp only[cutK]at this;rw[List.getElem?_take,if_pos (by omega)]at this;exact this
 refine⟨hN,fun s j hs=>?_⟩;have hed:=fun(w:List Int) (hw:w≠[])=>h.edge (k:=k+1) (by omega) hw;have hed0:=fun(w:List Int) (hw:w≠[])=>h.edge (k:=k) (by omega) hw;rw[hN]at hed⊢;by_cases hsl:s<(insN (rawN T) t k).length
 ·have hwe:=word_eq hnd hat (i:=i) (j:=j) hsl;rw[←hw1]at hwe;unfold rawW;rw[List.getElem?_append_left hsl];by_cases he:s=(insN (rawN T) t k).idxOf (t.w.take k)∧j=i
  ·rw[if_pos he,hwe.2 he];rcases hed (t.w.take (k+1)) (by rw[hw1];exact snoc_ne _ _)with⟨h1,_⟩|⟨_,n,h1,_,_,h2⟩
   ·exact absurd (List.mem_append_right _ (by simp)) h1
   ·rw[h2];rw[hlw]at h1;rw[←Option.some.inj h1,List.idxOf_append,if_neg hin];simp
  ·rw[if_neg he,if_pos hsl];have hne:((insN (rawN T) t k)[s]?).getD []++[(j:Int)]≠t.w.take (k+1):=fun e=>he (hwe.1 e);have hv0:((insN (rawN T) t k)[s]?).getD []++[(j:Int)]≠[]:=snoc_ne _ _;generalize ((insN (rawN T) t k)[s]?).getD []++[(j:Int)]=v at hne hwe hv0
   ·have hl:lastL (T++[cutK t (k+1)]) v=lastL (T++[cutK t k]) v:=(lastL_cut (T:=T) hkl hne).resolve_right hv0;rcases hed v hv0 with⟨a1,a2⟩|⟨a1,n,a2,a3,a4,a5⟩
    ·rcases hed0 v hv0 with⟨b1,b2⟩|⟨b1,_⟩
     ·rcases a2 with⟨a2,a3⟩|⟨a2,a3⟩
      ·rcases b2 with⟨b2,b3⟩|⟨b2,b3⟩
       ·rw[a3,b3]
       ·rw[hl,b2]at a2;cases a2
      ·rcases b2 with⟨b2,b3⟩|⟨b2,b3⟩
       ·rw[hl,b2]at a2;cases a2
       ·rw[a3,b3]
     ·exact absurd (List.mem_append_left _ b1) a1
    ·have hvN:v∈insN (rawN T) t k:=by
       rcases List.mem_append.1 a1 with a1|a1
       ·exact a1
       ·exact absurd (List.mem_singleton.1 a1) hne
     rcases hed0 v hv0 with⟨b1,_⟩|⟨_,n',b2,_,_,b5⟩
     ·exact absurd hvN b1
     ·rw[hl,b2]at a2;rw[a5,b5,Option.some.inj a2,List.idxOf_append,if_pos hvN]
 ·obtain rfl:s=(insN (rawN T) t k).length:=by omega
  rw[if_neg (by omega),if_neg hsl];unfold rawW;rw[List.getElem?_append_right (Nat.le_refl _),Nat.sub_self];simp only[List.getElem?_cons_zero,Option.getD_some];have hno:∀m,lastL (T++[cutK t (k+1)]) (t.w.take (k+1)++[(j:Int)])≠some m:=fun m hm=>by
   obtain⟨u,hu,hw,_⟩:=lastL_mem hm;have hlen:(t.w.take (k+1)).length=k+1:=by rw[List.length_take];omega
   rcases List.mem_append.1 hu with hu|hu
   ·have huw:u.w.take (k+1)=t.w.take (k+1):=by
      have:=congrArg (fun l=>l.take (k+1)) hw.2;simp only[List.take_take]at this;rw[Nat.min_eq_left (by simp;omega),List.take_append_of_le_length (by omega),List.take_take,Nat.min_self]at this;exact this
    have hul:=hw.1;rw[List.length_append,List.length_singleton,hlen]at hul;have huv:=h.val u (List.mem_append_left _ hu);have hcc:=h.cons u (List.mem_append_left _ hu) t (by simp) (t.w.take (k+1)) (by rw[hw1];exact snoc_ne _ _) (by rw[←huw];exact hasW_take u (k+1)) (hasW_take t (k+1));rw[show(t.w.take (k+1)).length-1=k by omega]at hcc;have hpl:=preN_le t.r;have hur:k<u.r.length:=by rw[huv.len];omega
    rcases huv.get hur with h5|h5
    ·refine hin ?_;rw[mem_insN,(rawN_props T).2,mem_nodesL];exact .inl (.inr ⟨u,hu,k,h5.1,huw.symm⟩)
    ·rcases h.vt.get (k:=k) (by omega)with h6|h6<;>omega
   ·rw[List.mem_singleton.1 hu]at hw;have:=(hasW_cutK.1 hw).2;rw[List.length_append,List.length_singleton,hlen]at this;omega
  rcases hed (t.w.take (k+1)++[(j:Int)]) (snoc_ne _ _)with⟨h1,h2|h2⟩|⟨h1,n,h2,_⟩
  ·exact h2.2
  ·exact absurd h2.1 (hno _)
  ·exact absurd h2 (hno _)
def partR(I i:Nat):List (List AV):=List.replicate i (edgeC (-1,-1))++List.replicate (I-i) [.sc (.int .i64 0),.sc (.int .i64 0)]
theorem row81_new{I:Nat}(hI:1≤I∧I≤16):PureNew prog 29 [.sc (.int .i64 I)] 2 (List.replicate I (edgeC (-1,-1))):=by
 have hIin:(I:Int).toNat=I:=Int.toNat_natCast I;have hlen:∀i,i≤I→(partR I i).length=I:=fun i h=>by simp[partR];omega
 have hnr:∀i,(partR I i).all AV.norefs=true:=fun i=>by simp[partR,List.all_eq_true,edgeC,AV.norefs,AV.noref]
 refine PureNew.of (nv:=1) (hid:=[2,3,4,8,9,10]) func29 rfl (by kernel_rfl) (by simp[ntmps29]) fun _=>?_;rw[ntmps29,results29];refine EvC.a ?_;refine EvC.a ?_ (by simp only[go_sem,hIin]<;>rfl) (by simp[room_eq];omega);refine EvC.seq ?_;refine EvC.a ?_ (by simp only[go_sem,List.length_replicate]<;>rfl);refine EvC.block ?_;refine EvC.loopS (σ:=Nat) (fun i=>⟨[(3,.tl 0 I false),(8,.sc (.int .i64 I)),(9,.sc (.int .i64 i))],[],[(0,.arr 2 (partR I i) false)],1⟩) (fun i=>I-i) (fun i=>i≤I) [3,8,9] 1 ?_ ?_
 ·have h0:List.replicate I [AV.sc (.int .i64 0),.sc (.int .i64 0)]=partR I 0:=by simp[partR]
  have hn:=hnr 0;rw[←h0]at hn;refine⟨[(2,0)],0,rfl,?_,Nat.zero_le _⟩;rw[←h0];simp only[go_sem,hn,Int.natCast_zero]<;>rfl
 intro i hi;have hiin:(i:Int).toNat=i:=Int.toNat_natCast i;refine EvC.a ?_;refine EvC.seq ?_;refine EvC.cd (fun hc=>?_) (fun hc=>?_);rotate_left
 ·
  obtain rfl:i=I:=by have:¬i<I:=by simpa using hc
                     omega
  refine EvC.exit ?_;have hall:partR i i=List.replicate i (edgeC (-1,-1)):=by simp[partR]
  rw[hall];refine EvC.a ?_;refine EvC.ret ⟨.inl rfl,_,0,(by simp only[go_sem,List.length_replicate]<;>rfl),.inl ?_,?_,by simp;omega,by simp[List.all_eq_true,edgeC,AV.norefs,AV.noref]⟩
  ·simp only[List.length_replicate]
  ·rfl
 have hiI:i<I:=by simpa using hc
 clear hc;refine EvC.skip ?_;refine EvC.seq ?_;refine EvC.block ?_;refine EvC.a ?_;have hli:=hlen i (by omega);have hgi:(partR I i)[i]?=some [.sc (.int .i64 0),.sc (.int .i64 0)]:=by
  rw[partR,List.getElem?_append_right (by simp),List.length_replicate,Nat.sub_self,List.getElem?_replicate,if_pos (by omega)]
 have hset:(partR I i).set i [.sc (.int .i64 (-1)),.sc (.int .i64 (-1))]=partR I (i+1):=by
  unfold partR;rw[List.set_append_right _ _ (by simp),List.length_replicate,Nat.sub_self,show I-i=(I-(i+1))+1 by omega,List.replicate_succ,List.set_cons_zero,List.replicate_succ',List.append_assoc];rfl
 refine EvC.b ?_ (by simp only[go_sem,hli,hgi,hiin,hset]<;>rfl) (by simp;try omega);refine EvC.bi ?_;exact⟨[(0,0)],i+1,rfl,(by simp only[go_sem,hnr,Int.natCast_add,Int.natCast_one]<;>rfl),by omega,by omega⟩
def enterM(I n:Nat)(W:Nat→Nat→Int×Int):Mem:=
 (1000100,.cells [.sc (.int .i64 0),.sc (.int .i64 0),.sl true [] .zer])::(1000200,.cells [.tl 1000201 n false])::(1000201,.arr 1 (ocell I n) false)::otab 2 edgeC W n I
def enterA:List (Nat×Nat):=[(1000100,1000100),(1000200,1000200),(1000201,1000201)]
def enterK(n:Nat):List (Nat×Nat):=osegK enterA n []
theorem lastL_cut0(T:List TR)(t:TR){w:List Int}(hw:w≠[]):lastL (T++[cutK t 0]) w=lastL T w:=by
 rw[lastL_append];cases lastL T w with
 | some n=>rfl
 | none=>
   simp only;rw[lastL_one,if_neg];intro h;have:=(hasW_cutK.1 h).2;exact hw (List.length_eq_zero_iff.1 (by omega))
theorem rawW_cut0(T:List TR)(t:TR)(N:List (List Int))(s i:Nat):rawW (T++[cutK t 0]) N s i=rawW T N s i:=by
 unfold rawW;rw[edgeOf,edgeOf,lastL_cut0 T t (snoc_ne _ _)]
theorem osegK_okN{base nx n k:Nat}{A:List (Nat×Nat)}(hA:gcOk base nx A=true)(h1:(A.all fun p=>notO p.1)=true)(h2:(A.all fun p=>notO p.2)=true)(hk:notO k=true)(hkA:rlook A k=none)(hkb:base≤k)(hb2:base≤2000000+n)(hn:n<1000000)(hx:3000000≤nx):gcOk base nx (osegK A n [(k,2000000+n)])=true:=by
 have h0:=osegK_ok hA h1 h2 (Nat.le_of_lt hn) hx;have hb:=gcOk_base hA;have e:osegK A n [(k,2000000+n)]=osegK A n []++[(k,2000000+n)]:=by simp[osegK]
 rw[e];refine gcOk_append h0 ?_ fun p hp=>?_
 ·simp[gcOk,blook,rlook,hb,hkb];omega
 ·have hb:p.2≠2000000+n∧p.1≠k:=by
    rw[osegK,List.append_nil]at hp;rcases List.mem_append.1 hp with hp|hp
    ·rw[List.all_eq_true]at h2;refine⟨notO_ne (h2 p hp) hn,fun hk2=>?_⟩;have:=rlook_ne (show(p.1,p.2)∈A from hp);rw[hk2]at this;exact this hkA
    ·obtain⟨i,hi,rfl⟩:=mem_oK hp;exact⟨by simp only;omega,fun e=>notO_ne hk (show i<1000000 by omega) e.symm⟩
  simp only[blook,rlook];rw[if_neg hb.1,if_neg hb.2];exact⟨rfl,rfl⟩
set_option maxHeartbeats 8000000 in
theorem enter82_body{ins:Nat}{outs:Int}{T:List TR}{t:TR}(h:RawS ins outs T t)(hI:1≤ins∧ins≤16)(hN:(rawN (T++[t])).length≤70000)(hw:t.w.length≤256)(xs:List AV)(o2:Int)(W:Nat→Nat→Int×Int)(hW:∀s j,s<(rawN T).length→j<ins→W s j=rawW T (rawN T) s j){R:AV→Mem→Nat→Prop}
  (hR:∀W' nx',3000000≤nx'→(∀s j,s<(rawN (T++[t])).length→j<ins→W' s j=rawW (T++[t]) (rawN (T++[t])) s j)→R (mkRes []) (enterM ins (rawN (T++[t])).length W') nx'):
  BodyIs prog 30 [.ag (traceD t),.rf 1000200 0,.ia (.sc (.int .i64 ins)::xs)] (enterM ins (rawN T).length W) (2000000+(rawN T).length) R:=by
 have vt:=h.vt;have hpl:=preN_le t.r;have hrl:=vt.len;have hlenk:∀k,k≤preN t.r→(insN (rawN T) t k).length≤70000:=fun k hk=>by
  have hmono:∀d k,(insN (rawN T) t k).length≤(insN (rawN T) t (k+d)).length:=by
   intro d
   induction d with
   | zero=>intro k;exact Nat.le_refl _
   | succ d ih=>
     intro k;have:=ih k;rw[show k+(d+1)=(k+d)+1 by omega,insN_succ];split
     ·exact this
     ·rw[List.length_append];omega
  have:=hmono (preN t.r-k) k;rw[show k+(preN t.r-k)=preN t.r by omega,←rawN_snoc]at this;omega
 have hge0:∀k,(rawN T).length≤(insN (rawN T) t k).length:=by
  intro k
  induction k with
  | zero=>exact Nat.le_refl _
  | succ k ih=>
    rw[insN_succ];split
    ·exact ih
    ·rw[List.length_append];omega
 rw[rawN_snoc]at hR;have hrow:=row81_new hI;refine BodyIs.of (nv:=3) (hid:=[3,4,5,6,7,9,10,11,12,22,38,53]) func30 rfl (by kernel_rfl) (by simp[ntmps30]) fun h0=>?_;rw[ntmps30,results30];have hn0:=hlenk 0 (Nat.zero_le _);obtain⟨b0,hb0⟩:∃b0,b0=2000000+(rawN T).length:=⟨_,rfl⟩;have hn00:(rawN T).length≤70000:=hn0;have hgA:gcOk b0 3000000 enterA=true:=by
  simp[gcOk,enterA,blook,rlook];omega
 have hgk:∀n,n≤1000000→gcOk b0 3000000 (enterK n)=true:=fun n hn=>osegK_ok (A:=enterA) hgA rfl rfl hn (by omega);have hlo:∀n,n≤1000000→∀k,k<n→rlook (enterK n) (2000000+k)=some (2000000+k):=fun n hn k hk=>rlook_osegK_lo hk hn (A:=enterA) rfl;have hhi:∀n,n≤1000000→∀k,notO k=true→rlook (enterK n) k=rlook enterA k:=fun n hn k hk=>by rw[enterK,rlook_osegK_hi hn _ _ _ hk,List.append_nil]
 obtain⟨Nf,hNf⟩:∃Nf:Nat→List (List Int),∀k,insN (rawN T) t k=Nf k:=⟨_,fun _=>rfl⟩;obtain⟨Wf,hWf⟩:∃Wf:Nat→Nat→Nat→Int×Int,∀k,rawW (T++[cutK t k]) (Nf k)=Wf k:=⟨_,fun _=>rfl⟩;have hN0:Nf 0=rawN T:=(hNf 0).symm;have hge:∀k,(Nf 0).length≤(Nf k).length:=fun k=>by rw[hN0,←hNf];exact hge0 k
 have hat:∀k,k≤preN t.r→(Nf k).idxOf (t.w.take k)<(Nf k).length:=fun k hk=>List.idxOf_lt_length_of_mem (by rw[←hNf];exact h.at hk);have hW0:otab 2 edgeC W (rawN T).length ins=otab 2 edgeC (Wf 0) (Nf 0).length ins:=by
  rw[hN0];refine otab_congr 2 edgeC fun s j hs hj=>?_;rw[hW s j hs hj,←hWf,rawW_cut0,hN0]
 unfold enterM;rw[hW0,←hN0];have hl0:=hlenk 0 (Nat.zero_le _);rw[hNf]at hl0;have hmd:∀k (W:Nat→Nat→Int×Int) n,n≤1000000→notO k=true→mdel (otab 2 edgeC W n ins) k=otab 2 edgeC W n ins:=fun k W n hn hk=>mdel_otab _ _ _ hn k hk;have hn07:(Nf 0).length≤70000:=hl0;rw[←hN0]at hb0;rw[←hb0];have hb6:∀k,notO k=true→(b0=k)=False:=fun k hk=>by rw[hb0];exact o_ne (show(Nf 0).length<1000000 by omega) k hk
 refine EvC.a ?_ (by simp only[go_sem,traceD,hb6]<;>rfl);have hb7:∀k,notO k=true→(k=b0)=False:=fun k hk=>eq_false fun e=>by have:=hb6 k hk;rw[e]at this;simp at this
 have hmd0:mdel (otab 2 edgeC (Wf 0) (Nf 0).length ins) b0=otab 2 edgeC (Wf 0) (Nf 0).length ins:=mdel_msegA _ _ _ (.inr (by simp;omega));refine EvC.frzB b0 (by simp only[go_sem,hb6,hb7,hmd0]<;>rfl) ?_;refine EvC.a ?_;refine EvC.a ?_;refine EvC.block ?_;refine EvC.loopS (σ:=Nat) (fun k=>⟨[(1,.rf 1000200 0),(2,.ia (.sc (.int .i64 ins)::xs)),(3,.ia (traceD t)),(4,.sc (.int .i64 ((Nf k).idxOf (t.w.take k)))),(9,.sl t.w.isEmpty (t.w.map intC) .unk),(10,.sc (.int .i64 t.w.length)),(11,.sc (.int .i64 k))],[],enterM ins (Nf k).length (Wf k),3000000⟩) (fun k=>t.w.length-k)
  (fun k=>k≤t.w.length∧k≤preN t.r) [1,2,3,4,9,10,11] 3000000 ?_ ?_
 ·have hi0:(Nf 0).idxOf (t.w.take 0)=0:=by
    rw[hN0,List.take_zero];have:∀(L:List TR) (N:List (List Int)),N[0]?=some []→(L.foldl (fun N t=>insN N t (preN t.r)) N)[0]?=some []:=by
     intro L
     induction L with
     | nil=>intro N h;exact h
     | cons u L ih=>
       intro N h;rw[List.foldl_cons];refine ih _ ?_;have:∀k,(insN N u k)[0]?=some []:=by
        intro k
        induction k with
        | zero=>exact h
        | succ k ihk=>
          rw[insN_succ];split
          ·exact ihk
          ·rw[List.getElem?_append_left (List.getElem?_eq_some_iff.1 ihk).1];exact ihk
       exact this _
    have h1:=this T [[]] rfl;obtain⟨hl,he⟩:=List.getElem?_eq_some_iff.1 h1;have:=(rawN_props T).1.idxOf_getElem 0 hl;rw[show(rawN T)[0]'hl=[]from he]at this;exact this
  refine⟨enterK (Nf 0).length,0,hgk _ (by omega),?_,Nat.zero_le _,Nat.zero_le _⟩;unfold enterM;have hlo:=hlo (Nf 0).length (by omega);have hhi:=hhi (Nf 0).length (by omega);rw[hi0];unfold enterK enterA at hlo hhi⊢;simp only[go_sem,hhi,traceD,List.length_map,List.cons_append,List.nil_append,List.append_nil,renMem_oK_cons (show(Nf 0).length≤1000000 by omega),otab_ren 2 norefs_edgeC,ocell_ren hlo,ite_self,Int.natCast_zero]<;>rfl
 rintro k ⟨h1,h2⟩;have hkin:(k:Int).toNat=k:=Int.toNat_natCast k;have hlk:=hlenk k h2;rw[hNf]at hlk;have hgek:=hge k;unfold enterM;refine EvC.a ?_;refine EvC.seq ?_;refine EvC.cd (fun hc=>?_) (fun hc=>?_);rotate_left
 ·
  have hc:¬k<t.w.length:=by simpa using hc
  have hk:k=preN t.r:=by omega
  refine EvC.exit ?_;refine⟨.inr rfl,_,rfl,?_⟩;rw[←hk,hNf]at hR;refine hR (Wf k) _ (show 3000000≤3000001 by omega) fun s j _ _=>?_;rw[←hWf,cutK_full (by omega) hrl]
 have hkl:k<t.w.length:=by simpa using hc
 clear hc;have hwa:=vt.sym _ (List.getElem_mem hkl);have hwk:t.w[k]?=some (t.w[k]'hkl):=List.getElem?_eq_getElem hkl;obtain⟨i,hi⟩:∃i:Nat,t.w[k]'hkl=(i:Int):=⟨(t.w[k]'hkl).toNat,by omega⟩;rw[hi]at hwa hwk;have hiI:i<ins:=by omega
 have hiin:(i:Int).toNat=i:=Int.toNat_natCast i;have hrk:t.r[k]?=some ((t.r[k]?).getD 0):=by rw[List.getElem?_eq_getElem (by omega)];rfl
 have hcase:=vt.get (k:=k) (by omega);have href:=fun hh ho s j hs=>h.refuse (k:=k) (i:=i) hh hwk ho (s:=s) (j:=j) hs;have hold:=fun hh hm=>h.old (k:=k) (i:=i) hh hwk hm;have hnew:=fun hh hm=>h.new (k:=k) (i:=i) hh hwk hm;generalize (t.r[k]?).getD 0=o at hrk hcase href hnew;have hatk:=hat k h2;obtain⟨A,hA⟩:∃A,A=(Nf k).idxOf (t.w.take k):=⟨_,rfl⟩;rw[←hA]at hatk⊢;have hAin:(A:Int).toNat=A:=Int.toNat_natCast A;obtain⟨n,hn⟩:∃n,n=(Nf k).length:=⟨_,rfl⟩;rw[←hn]at hatk hlk⊢;refine EvC.skip ?_;refine EvC.seq ?_;refine EvC.block ?_;refine EvC.a ?_ (by simp only[go_sem,hwk,hkin,intC,List.length_map]<;>rfl) (by simp;try omega);refine EvC.a ?_ (by simp only[go_sem,hrk,hkin,intC,traceD,List.length_map]<;>rfl) (by simp;try omega);refine EvC.seq ?_;refine EvC.a ?_;have htl:=ocell_len ins n;have hta:=ocell_get (m:=ins) hatk;have hla:=otab_look 2 edgeC (Wf k) (m:=ins) hatk;have hgl:=gcells_len edgeC;have hga:=gcells_get edgeC (Wf k A) hiI;have hA6:A<1000000:=by omega
 by_cases ho:o=-1
 ·have hkp:k=preN t.r:=by omega
  refine EvC.ct ?_ (by simp only[go_sem,decide_eq_true ho]<;>rfl);have hset:=otab_set 2 edgeC (Wf k) (-1,-2) hatk hiI;rw[show edgeC (-1,-2)=[.sc (.int .i64 (-1)),.sc (.int .i64 (-2))]from rfl]at hset;refine EvC.a ?_ (by simp only[go_sem,htl,hta,hAin,o_ne hA6,hla,hgl,hiin,hga,hset,edgeC]<;>rfl) (by simp;try omega);refine EvC.gcE (st2:=⟨[],[],enterM ins n (upd2 (Wf k) A i (-1,-2)),3000000⟩) [] (enterK n) 3000000 (hgk _ (show n≤1000000 by omega)) ?_ ?_
  ·unfold enterM;have hlo:=hlo n (by omega);have hhi:=hhi n (by omega);unfold enterK enterA at hlo hhi⊢;simp only[go_sem,hhi,List.cons_append,List.nil_append,List.append_nil,renMem_oK_cons (show n≤1000000 by omega),otab_ren 2 norefs_edgeC,ocell_ren hlo,ite_self]<;>rfl
  refine EvC.ret ⟨.inl rfl,_,rfl,?_⟩;rw[←hkp,hNf,←hn]at hR;refine hR _ _ (Nat.le_refl _) fun s j hs hj=>?_;have:=href hkp ho s j (by rw[hNf,←hn];exact hs);rw[hNf,hWf,←hA]at this;rw[this];rfl
 have hkp:k<preN t.r:=by omega
 refine EvC.cs ?_ (by simp only[go_sem,decide_eq_false ho]<;>rfl);have hmk:=h.at (k:=k) h2;have hWA:Wf k A i=edgeOf (T++[cutK t k]) (insN (rawN T) t k) (t.w.take (k+1)):=by
  rw[←hWf,rawW,hA,←hNf,idx_get hmk,take_snoc hwk];rfl
 have hedge:=h.edge (k:=k) h2 (w:=t.w.take (k+1)) (by rw[take_snoc hwk];exact snoc_ne _ _);rw[←hWA,hNf]at hedge;have hga2:(gcells edgeC (Wf k A) ins)[i]?=some [.sc (.int .i64 (Wf k A i).1),.sc (.int .i64 (Wf k A i).2)]:=hga;by_cases hm:t.w.take (k+1)∈Nf k
 ·
  have hc1:∃o',Wf k A i=((((Nf k).idxOf (t.w.take (k+1)):Nat):Int),o'):=by
   rcases hedge with⟨h1,_⟩|⟨_,n',_,_,_,h2⟩
   ·exact absurd hm h1
   ·exact⟨n',h2⟩
  obtain⟨o',hc1⟩:=hc1;obtain⟨hN1,hW1⟩:=hold hkp (by rw[hNf];exact hm);rw[hNf,hNf]at hN1;have hW1:Wf (k+1)=Wf k:=by
   funext s j;rw[←hWf,←hWf,hN1];have:=hW1 s j;rw[hNf]at this;exact this
  rw[hc1]at hga2;simp only at hga2;refine EvC.seq ?_;refine EvC.a ?_ (by simp only[go_sem,htl,hta,hAin,o_ne hA6,hla,hgl,hiin,hga2,edgeC]<;>rfl) (by simp;try omega);refine EvC.cs ?_ (by simp only[go_sem,decide_eq_false (show ¬(((Nf k).idxOf (t.w.take (k+1)):Nat):Int)=-1 by omega)]<;>rfl);refine EvC.b ?_ (by simp only[go_sem,htl,hta,hAin,o_ne hA6,hla,hgl,hiin,hga2,edgeC]<;>rfl) (by simp;try omega);refine EvC.bi ?_;refine⟨enterK n,k+1,hgk _ (show n≤1000000 by omega),?_,⟨by omega,by omega⟩,by omega⟩;rw[hN1,hW1,←hn];show _=St.mk _ _ (enterM ins n (Wf k)) _;unfold enterM;have hlo:=hlo n (by omega);have hhi:=hhi n (by omega);unfold enterK enterA at hlo hhi⊢;simp only[go_sem,hhi,traceD,List.cons_append,List.nil_append,List.append_nil,renMem_oK_cons (show n≤1000000 by omega),otab_ren 2 norefs_edgeC,ocell_ren hlo,ite_self,Int.natCast_add,Int.natCast_one]<;>rfl
 ·
  have hc1:(Wf k A i).1=-1:=by
   rcases hedge with⟨_,h1⟩|⟨h1,_⟩
   ·rcases h1 with h1|h1<;>rw[h1.2]
   ·exact absurd h1 hm
  obtain⟨hN1,hW1⟩:=hnew hkp (by rw[hNf];exact hm);rw[hNf,hNf]at hN1;have hn1:(Nf (k+1)).length=n+1:=by rw[hN1,List.length_append,←hn];rfl
  have hW1:∀s j,s<n+1→Wf (k+1) s j=if s=A∧j=i then((n:Int),o)else if s<n then Wf k s j else(-1,-1):=fun s j hs=>by
   have:=hW1 s j (by rw[hNf,←hn];exact hs);rw[hNf,hNf,hWf,hWf,←hn,←hA]at this;exact this
  have hidx:(Nf (k+1)).idxOf (t.w.take (k+1))=n:=by
   rw[hN1,List.idxOf_append,if_neg hm,←hn];simp
  refine EvC.seq ?_;refine EvC.a ?_ (by simp only[go_sem,htl,hta,hAin,o_ne hA6,hla,hgl,hiin,hga2,edgeC]<;>rfl) (by simp;try omega);refine EvC.ct ?_ (by simp only[go_sem,decide_eq_true hc1]<;>rfl);have hset:=otab_set 2 edgeC (Wf k) ((n:Int),o) hatk hiI;rw[show edgeC ((n:Int),o)=[.sc (.int .i64 n),.sc (.int .i64 o)]from rfl]at hset;apply EvC.seq;apply EvC.drd mixed
  ·simp only[go_sem,htl,hta,hAin,o_ne hA6,hla,hgl,hiin,hga,hset,edgeC]<;>rfl
  ·simp;try omega
  ·exact confAll_slots (by simp[rdOk,slotsOf,opSlots,memless,Op.operands,Call.operands]) (by kernel_rfl)
  refine EvC.gcE (st2:=⟨[(1,.rf 1000200 0),(2,.ia (.sc (.int .i64 ins)::xs)),(3,.ia (traceD t)),(4,.sc (.int .i64 A)),(6,.sc (.int .i64 i)),(9,.sl t.w.isEmpty (t.w.map intC) .unk),(10,.sc (.int .i64 t.w.length)),(11,.sc (.int .i64 k))],[],enterM ins n (upd2 (Wf k) A i ((n:Int),o)),3000000⟩) [1,2,3,4,6,9,10,11] (enterK n) 3000000 (hgk _ (show n≤1000000 by omega)) ?_ ?_
  ·unfold enterM;have hlo:=hlo n (by omega);have hhi:=hhi n (by omega);unfold enterK enterA at hlo hhi⊢;simp only[go_sem,hhi,traceD,List.cons_append,List.nil_append,List.append_nil,renMem_oK_cons (show n≤1000000 by omega),otab_ren 2 norefs_edgeC,ocell_ren hlo,ite_self]<;>rfl
  unfold enterM;apply EvC.drwA mixed
  ·apply Tr.run
   ·simp only[go_sem]<;>rfl
   ·simp
   apply Tr.cons
   ·exact .callN rfl rfl (by simp only[go_sem]<;>rfl) (by simp only[go_sem]<;>rfl) (by simp only[go_sem]<;>rfl) (by simp only[go_sem]<;>rfl) (by simp only[go_sem]<;>rfl) hrow
   apply Tr.done
   ·simp only[go_sem,htl,List.length_replicate,mlook_mset]<;>rfl
   ·simp[htl,room_eq];omega
  ·kernel_rfl
  have hnn:n≤1000000:=by omega
  have hcong:otab 2 edgeC (upd2 (Wf k) A i ((n:Int),o)) n ins=otab 2 edgeC (Wf (k+1)) n ins:=otab_congr 2 edgeC fun s j hs hj=>by
   rw[hW1 s j (by omega)];unfold upd2;by_cases e:s=A∧j=i
   ·rw[if_pos e,if_pos e]
   ·rw[if_neg e,if_neg e,if_pos hs]
  have hgr:List.replicate ins (edgeC (-1,-1))=gcells edgeC (Wf (k+1) n) ins:=by
   rw[gcells_const];refine gcells_congr edgeC fun j hj=>?_;rw[hW1 n j (by omega),if_neg (by omega),if_neg (by omega)]
  rw[hcong,hgr];have hlo':∀q,q<n→rlook (osegK [(1000100,1000100),(1000200,1000200),(1000201,1000201)] n [(3000003,2000000+n)]) (2000000+q)=some (2000000+q):=fun q hq=>rlook_osegK_lo hq hnn (A:=[(1000100,1000100),(1000200,1000200),(1000201,1000201)]) rfl;have hhi':rlook (osegK [(1000100,1000100),(1000200,1000200),(1000201,1000201)] n [(3000003,2000000+n)]) 3000003=some (2000000+n):=rlook_osegK_hi hnn _ _ _ rfl;have hor:(ocell ins n++[[AV.tl 3000003 ins false]]).map (fun c=>c.map (AV.ren (osegK [(1000100,1000100),(1000200,1000200),(1000201,1000201)] n [(3000003,2000000+n)])))=ocell ins (n+1):=by
   rw[List.map_append,ocell_ren hlo',←ocell_succ];simp[AV.ren,AV.noref,AV.deep,renLeaf,hhi']
  refine EvC.gcE (st2:=⟨[(1,.rf 1000200 0),(2,.ia (.sc (.int .i64 ins)::xs)),(3,.ia (traceD t)),(4,.sc (.int .i64 A)),(6,.sc (.int .i64 i)),(9,.sl t.w.isEmpty (t.w.map intC) .unk),(10,.sc (.int .i64 t.w.length)),(11,.sc (.int .i64 k))],[],enterM ins (n+1) (Wf (k+1)),3000000⟩) [1,2,3,4,6,9,10,11] (osegK [(1000100,1000100),(1000200,1000200),(1000201,1000201)] n [(3000003,2000000+n)]) 3000000 (osegK_okN (A:=[(1000100,1000100),(1000200,1000200),(1000201,1000201)]) hgA rfl rfl rfl rfl (show b0≤3000003 by omega) (show b0≤2000000+n by omega) (by omega) (by omega)) ?_ ?_
  ·unfold enterM;simp only[go_sem,rlook_osegK_hi hnn,traceD,List.cons_append,List.nil_append,renMem_oK_cons hnn,renMem_oK_mset hnn,mlook_mset,gcells_norefs norefs_edgeC,otab_ren 2 norefs_edgeC,otab_snoc,hor,Int.natCast_add,Int.natCast_one]<;>rfl
  unfold enterM;have htl2:=ocell_len ins (n+1);have hta2:=ocell_get (m:=ins) (show A<n+1 by omega);have hla2:=otab_look 2 edgeC (Wf (k+1)) (m:=ins) (show A<n+1 by omega);have hgb:(gcells edgeC (Wf (k+1) A) ins)[i]?=some [.sc (.int .i64 n),.sc (.int .i64 o)]:=by
   rw[gcells_get edgeC _ hiI,hW1 A i (by omega),if_pos ⟨rfl,rfl⟩];rfl
  refine EvC.b ?_ (by simp only[go_sem,htl2,hta2,hAin,o_ne hA6,hla2,hgl,hiin,hgb,edgeC]<;>rfl) (by simp;try omega);refine EvC.bi ?_;refine⟨enterK (n+1),k+1,hgk _ (show n+1≤1000000 by omega),?_,⟨by omega,by omega⟩,by omega⟩;rw[hidx,hn1];show _=St.mk _ _ (enterM ins (n+1) (Wf (k+1))) _;unfold enterM;have hlo:=hlo (n+1) (by omega);have hhi:=hhi (n+1) (by omega);unfold enterK enterA at hlo hhi⊢;simp only[go_sem,hhi,traceD,List.cons_append,List.nil_append,List.append_nil,renMem_oK_cons (show n+1≤1000000 by omega),otab_ren 2 norefs_edgeC,ocell_ren hlo,ite_self,Int.natCast_add,Int.natCast_one]<;>rfl
theorem sub_lenW:∀(l r:List (List Int)),l.Nodup→(∀x∈l,x∈r)→l.length≤r.length
 | [],_,_,_=>Nat.zero_le _
 | a::l,r,h,hs=>by
   rw[List.nodup_cons]at h;have ha:a∈r:=hs a List.mem_cons_self;have h1:=sub_lenW l (r.erase a) h.2 fun x hx=>(List.mem_erase_of_ne (fun he:x=a=>h.1 (he▸hx))).2 (hs x (List.mem_cons_of_mem _ hx));have h2:=List.length_erase_of_mem ha;have h3:=List.length_pos_of_mem ha;rw[List.length_cons];omega
theorem rawN_len(L:List TR):(rawN L).length=(nodesL L).length:=by
 obtain⟨h1,h2⟩:=rawN_props L;have h3:=(nodesL_sort L).nodup;have:=sub_lenW _ _ h1 fun x hx=>(h2 x).1 hx;have:=sub_lenW _ _ h3 fun x hx=>(h2 x).2 hx;omega
def qF(M:List (List Int))(ins m i:Nat):Nat:=1+((M.take m).flatMap (kids M ins)).length+((List.range i).filterMap (kidsF M ((M[m]?).getD []))).length
theorem qF_next{M:List (List Int)}{ins m i:Nat}:qF M ins m (i+1)=qF M ins m i+(if(M[m]?).getD []++[(i:Int)]∈M then 1 else 0):=by
 unfold qF;rw[List.range_succ,List.filterMap_append,List.length_append];have:((([i]:List Nat).filterMap (kidsF M ((M[m]?).getD []))).length)=if(M[m]?).getD []++[(i:Int)]∈M then 1 else 0:=by
  rw[List.filterMap_cons,List.filterMap_nil];unfold kidsF;by_cases h:(M[m]?).getD []++[(i:Int)]∈M
  ·rw[if_pos h,if_pos h];rfl
  ·rw[if_neg h,if_neg h];rfl
 rw[this];omega
theorem qF_row{M:List (List Int)}{ins m:Nat}(hm:m<M.length):qF M ins m ins=qF M ins (m+1) 0:=by
 unfold qF;have hx:M[m]?=some M[m]:=List.getElem?_eq_getElem hm;rw[List.take_succ,hx];simp only[Option.toList_some,Option.getD_some,List.flatMap_append,List.flatMap_singleton,List.length_append,List.range_zero,List.filterMap_nil,List.length_nil];show _=_+(_+(List.filterMap _ _).length)+0;omega
theorem qF_get{ins:Nat}{outs:Int}{L:List TR}(hv:∀t∈L,TrVal ins outs t){m i:Nat}(hm:m<(nodesL L).length)(hi:i<ins)(hin:((nodesL L)[m]?).getD []++[(i:Int)]∈nodesL L):(nodesL L)[qF (nodesL L) ins m i]?=some (((nodesL L)[m]?).getD []++[(i:Int)]):=by
 have hk:=kids_all hv;generalize hM:nodesL L=M at hm hin hk⊢;have hx:M[m]?=some M[m]:=List.getElem?_eq_getElem hm;rw[hx]at hin⊢;simp only[Option.getD_some]at hin⊢;have hsp:M=M.take m++(M[m]::M.drop (m+1)):=by rw[←List.drop_eq_getElem_cons hm,List.take_append_drop]
 have hkx:kids M ins M[m]=(List.range i).filterMap (kidsF M M[m])++((M[m]++[(i:Int)])::(List.range' (i+1) (ins-(i+1))).filterMap (kidsF M M[m])):=by
  have hr:List.range ins=List.range i++(i::List.range' (i+1) (ins-(i+1))):=by
   rw[List.range_eq_range',List.range_eq_range',←List.range'_succ,show ins=i+((ins-(i+1))+1) by omega,←List.range'_append_1,Nat.zero_add];congr 2;omega
  unfold kids;rw[hr,List.filterMap_append,List.filterMap_cons];have:kidsF M M[m] i=some (M[m]++[(i:Int)]):=by unfold kidsF;rw[if_pos hin]
  rw[this]
 have hfl:M.flatMap (kids M ins)=(M.take m).flatMap (kids M ins)++(((List.range i).filterMap (kidsF M M[m])++((M[m]++[(i:Int)])::(List.range' (i+1) (ins-(i+1))).filterMap (kidsF M M[m])))++(M.drop (m+1)).flatMap (kids M ins)):=by
  conv=>lhs;arg 2;rw[hsp]
  rw[List.flatMap_append,List.flatMap_cons,hkx]
 have hq:qF M ins m i=1+(((M.take m).flatMap (kids M ins)).length+((List.range i).filterMap (kidsF M M[m])).length):=by
  unfold qF;rw[hx];simp only[Option.getD_some];omega
 rw[hq]
 conv=>lhs;arg 1;rw[hk,hfl]
 rw[show ∀a:Nat,1+a=a+1 from fun a=>Nat.add_comm 1 a,List.getElem?_cons_succ,List.getElem?_append_right (by omega),Nat.add_sub_cancel_left,List.append_assoc,List.getElem?_append_right (Nat.le_refl _),Nat.sub_self];rfl
theorem qF_lt{ins:Nat}{outs:Int}{L:List TR}(hv:∀t∈L,TrVal ins outs t){m:Nat}(hm:m<(nodesL L).length):m<qF (nodesL L) ins m 0:=by
 have hk:=kids_all hv;have hs:=nodesL_sort L;by_cases h0:m=0
 ·subst h0;unfold qF;simp
 have hx:(nodesL L)[m]?=some (nodesL L)[m]:=List.getElem?_eq_getElem hm;have hxm:=List.getElem_mem hm;have hne:(nodesL L)[m]≠[]:=fun e=>by
  have h1:(nodesL L)[0]?=some []:=by rw[hk];rfl
  obtain⟨hl,he⟩:=List.getElem?_eq_some_iff.1 h1;have:=List.pairwise_iff_getElem.1 hs 0 m hl hm (by omega);rw[he,e]at this;exact cmpW_irr _ this
 obtain⟨x,a,hxa⟩:∃x a,(nodesL L)[m]=x++[a]:=⟨_,_,(List.dropLast_concat_getLast hne).symm⟩;have hpre:=nodesL_pre hv (x:=x) (a:=a) (by rw[←hxa];exact hxm);obtain⟨p,hp,hpx⟩:=List.mem_iff_getElem.1 hpre.1;have hpm:p<m:=by
  refine Nat.lt_of_not_le fun hle=>?_;by_cases e:p=m
  ·subst e;rw[hpx]at hxa;have:=congrArg List.length hxa;simp at this
  ·have:=List.pairwise_iff_getElem.1 hs m p hm hp (by omega);rw[hpx,hxa]at this;exact cmpW_irr _ (cmpW_trans this (cmpW_short (by simp)))
 have hmem:(nodesL L)[m]∈((nodesL L).take m).flatMap (kids (nodesL L) ins):=by
  rw[List.mem_flatMap];refine⟨x,?_,?_⟩
  ·rw[←hpx];rw[List.mem_iff_getElem];exact⟨p,by rw[List.length_take];omega,by rw[List.getElem_take]⟩
  ·unfold kids;rw[List.mem_filterMap];refine⟨a.toNat,List.mem_range.2 (by omega),?_⟩;unfold kidsF;rw[show((a.toNat:Nat):Int)=a by omega,←hxa,if_pos hxm]
 obtain⟨j,hj,hje⟩:=List.mem_iff_getElem.1 hmem;have hsp:(nodesL L).flatMap (kids (nodesL L) ins)=((nodesL L).take m).flatMap (kids (nodesL L) ins)++((nodesL L).drop m).flatMap (kids (nodesL L) ins):=by
  rw[←List.flatMap_append,List.take_append_drop]
 have hg:(nodesL L)[j+1]?=some (nodesL L)[m]:=by
  conv=>lhs;arg 1;rw[hk,hsp]
  rw[List.getElem?_cons_succ,List.getElem?_append_left hj,List.getElem?_eq_getElem hj,hje]
 obtain⟨hl,he⟩:=List.getElem?_eq_some_iff.1 hg;have:=(List.getElem_inj hs.nodup).1 he;unfold qF;simp only[List.range_zero,List.filterMap_nil,List.length_nil];omega
theorem qF_end{ins:Nat}{outs:Int}{L:List TR}(hv:∀t∈L,TrVal ins outs t):qF (nodesL L) ins (nodesL L).length 0=(nodesL L).length:=by
 have hk:=congrArg List.length (kids_all hv);unfold qF;rw[List.take_length];simp only[List.range_zero,List.filterMap_nil,List.length_nil];rw[List.length_cons]at hk;omega
theorem clip90_clips:Clips prog 65:=fun a n c h hlt=>by
 refine PureIs.of1 1 [2] func65 ntmps65 results65 fun _=>?_;refine EvC.a ?_;refine EvC.a ?_ (by simp only[go_sem,Int.toNat_natCast]<;>rfl) (by simp;try omega);refine EvC.rz ?_;simp only[go_sem]
def mixE(L:List TR)(m i j:Nat):Int×Int:=if j<i then edgeOf L (nodesL L) (((nodesL L)[m]?).getD []++[(j:Int)])else edgeOf L (rawN L) (((nodesL L)[m]?).getD []++[(j:Int)])
def ordC(L:List TR)(q:Nat):List (List AV):=((nodesL L).take q).map fun x=>[.sc (.int .i64 (((rawN L).idxOf x:Nat):Int))]
def outC(ins:Nat)(L:List TR)(m:Nat):List (List AV):=((nodesL L).take m).map fun x=>[.sl false ((treeRow L (nodesL L) x ins).map edgeC) .unk]
theorem mixE_zero{L:List TR}{m j:Nat}:mixE L m 0 j=edgeOf L (rawN L) (((nodesL L)[m]?).getD []++[(j:Int)]):=by unfold mixE;rw[if_neg (by omega)]
theorem rawN_zero(L:List TR):(rawN L)[0]?=some []:=by
 have key:∀(L:List TR) (N:List (List Int)),N[0]?=some []→(L.foldl (fun N t=>insN N t (preN t.r)) N)[0]?=some []:=by
  intro L
  induction L with
  | nil=>intro N h;exact h
  | cons u L ih=>
    intro N h;rw[List.foldl_cons];refine ih _ ?_;have:∀k,(insN N u k)[0]?=some []:=by
     intro k
     induction k with
     | zero=>exact h
     | succ k ihk=>
       rw[insN_succ];split
       ·exact ihk
       ·rw[List.getElem?_append_left (List.getElem?_eq_some_iff.1 ihk).1];exact ihk
    exact this _
 exact key L [[]] rfl
set_option maxHeartbeats 8000000 in
theorem numbered83_is{ins:Nat}{outs:Int}{L:List TR}(hv:∀t∈L,TrVal ins outs t)(hc:Cons L)(hI:1≤ins∧ins≤16)(hn:(nodesL L).length≤70000)(W:Nat→Nat→Int×Int)(hW:∀s j,s<(rawN L).length→j<ins→W s j=rawW L (rawN L) s j)(c:Cp):
  PureIs prog 31 [.sl false (rowsV W (rawN L).length ins) c] (.sl false ((treeM ins outs L).rows.map rowC) .unk):=by
 have hlen:=rawN_len L;have hvl:=rowsV_len W (rawN L).length ins;have hne:1≤(nodesL L).length:=by rw[kids_all hv,List.length_cons];omega
 have hNm:=(rawN_props L).2;have hsrt:=nodesL_sort L;have hq0:∀m,m<(nodesL L).length→m<qF (nodesL L) ins m 0:=fun m=>qF_lt hv;have hqe:=qF_end hv;have hqg:=fun m i=>qF_get hv (m:=m) (i:=i);have hqn:∀m i,qF (nodesL L) ins m (i+1)=qF (nodesL L) ins m i+(if((nodesL L)[m]?).getD []++[(i:Int)]∈nodesL L then 1 else 0):=fun m i=>qF_next;have hqr:∀m,m<(nodesL L).length→qF (nodesL L) ins m ins=qF (nodesL L) ins (m+1) 0:=fun m=>qF_row;have hed:=fun w hw=>edge_raw hv hc hNm (w:=w) hw;have hem:=fun w hw=>edge_raw hv hc (N:=nodesL L) (fun x=>Iff.rfl) (w:=w) hw;have hordl:∀q,q≤(nodesL L).length→(ordC L q).length=q:=fun q h=>by rw[ordC,List.length_map,List.length_take];omega
 have houtl:∀q,q≤(nodesL L).length→(outC ins L q).length=q:=fun q h=>by rw[outC,List.length_map,List.length_take];omega
 have hon:∀m,(outC ins L m).all AV.norefs=true:=fun m=>List.all_eq_true.2 fun y hy=>by
  obtain⟨z,_,rfl⟩:=List.mem_map.1 hy;simp[AV.norefs,AV.noref,norefs_edges]
 have hor:∀q,(ordC L q).all AV.norefs=true:=fun m=>List.all_eq_true.2 fun y hy=>by
  obtain⟨z,_,rfl⟩:=List.mem_map.1 hy;rfl
 have hq00:qF (nodesL L) ins 0 0=1:=by simp[qF]
 have h00:(nodesL L)[0]?=some []:=by rw[kids_all hv];rfl
 have hord0:ordC L 1=[[.sc (.int .i64 0)]]:=by
  have h1:(nodesL L).take 1=[[]]:=by rw[List.take_succ,h00];rfl
  rw[ordC,h1];have:(rawN L).idxOf ([]:List Int)=0:=by
   have hr:(rawN L)[0]?=some []:=rawN_zero L;obtain⟨hl,he⟩:=List.getElem?_eq_some_iff.1 hr;have:=(rawN_props L).1.idxOf_getElem 0 hl
   rwa[he]at this
  rw[List.map_singleton,this];rfl
 have hqm:∀d m i,qF (nodesL L) ins m i≤qF (nodesL L) ins m (i+d):=fun d m i=>by
  induction d with
  | zero=>exact Nat.le_refl _
  | succ d ih=>
    have:=hqn m (i+d);rw[show i+(d+1)=i+d+1 by omega];omega
 have hqz:∀d m,m+d≤(nodesL L).length→qF (nodesL L) ins m 0≤qF (nodesL L) ins (m+d) 0:=fun d m h=>by
  induction d with
  | zero=>exact Nat.le_refl _
  | succ d ih=>
    have h1:=ih (by omega);have h2:=hqr (m+d) (by omega);have h3:=hqm ins (m+d) 0;rw[Nat.zero_add]at h3;rw[show m+(d+1)=m+d+1 by omega];omega
 have hqle:∀m i,m<(nodesL L).length→i≤ins→qF (nodesL L) ins m i≤(nodesL L).length:=fun m i hm hi=>by
  have h1:=hqm (ins-i) m i;rw[show i+(ins-i)=ins by omega,hqr m hm]at h1;have h2:=hqz ((nodesL L).length-(m+1)) (m+1) (by omega);rw[show m+1+((nodesL L).length-(m+1))=(nodesL L).length by omega,hqe]at h2;omega
 obtain⟨n,hnn⟩:∃n,n=(nodesL L).length:=⟨_,rfl⟩;have hvl2:=hvl;rw[hlen]at hvl2;have hN70:(rawN L).length≤70000:=by omega
 rw[←hnn]at hvl2;refine PureIs.of1 1 [2,3,4,5,6,7,8,18,30,31,32,33,39] func31 ntmps31 results31 fun _=>?_;refine EvC.a ?_;refine EvC.a ?_ (by simp only[go_sem,hvl2,Int.toNat_natCast]<;>rfl) (by simp[room_eq];omega);refine EvC.a ?_ (by simp only[go_sem,hvl2,Int.toNat_natCast]<;>rfl) (by simp[room_eq];omega);refine EvC.seq ?_;refine EvC.a ?_;refine EvC.block ?_;refine EvC.loopS (σ:=Nat) (fun m=>⟨[(0,.sl false (rowsV W (rawN L).length ins) c),(3,.tl 0 (qF (nodesL L) ins m 0) false),(4,.tl 1 m false),(5,.sc (.int .i64 m))],[],[(0,.arr 1 (ordC L (qF (nodesL L) ins m 0)) false),(1,.arr 1 (outC ins L m) false)],2⟩) (fun m=>n-m) (fun m=>m≤n) [0,3,4,5] 2 ?_ ?_
 ·refine⟨[(3,0),(7,1)],0,rfl,?_,Nat.zero_le _⟩;have h1:qF (nodesL L) ins 0 0=1:=by simp[qF]
  rw[h1,hord0];simp only[go_sem,outC,List.take_zero,List.map_nil,Int.natCast_zero]<;>rfl
 rintro m hm;have hmin:(m:Int).toNat=m:=Int.toNat_natCast m;obtain⟨q,hq⟩:∃q,q=qF (nodesL L) ins m 0:=⟨_,rfl⟩;have hmq:=hq0 m;rw[←hq]at hmq⊢;have hqn1:q≤n:=by
  rcases Nat.lt_or_ge m (nodesL L).length with h|h
  ·rw[hq,hnn];exact hqle m 0 h (Nat.zero_le _)
  ·have:m=(nodesL L).length:=by omega
   rw[hq,this,hqe];omega
 have hql:=hordl q (by omega);refine EvC.seq ?_;refine EvC.a ?_ (by simp only[go_sem,hql]<;>rfl);refine EvC.cd (fun hc=>?_) (fun hc=>?_);rotate_left
 ·
  have hc:¬m<q:=by simpa using hc
  have hmn:m=n:=Nat.le_antisymm hm (Nat.le_of_not_lt fun h=>hc (hmq (by omega)));refine EvC.exit ?_;have hol:=houtl m (by omega);refine EvC.frz 1 (by simp only[go_sem,hol,hon m]<;>rfl) ?_;refine EvC.a ?_;refine EvC.ret ⟨.inl rfl,_,(by simp only[go_sem,hol]<;>rfl),?_,by simp[AV.noref,hon m]⟩;simp only[go_sem];rw[hmn,hnn,outC,List.take_length,treeM,List.map_map];rfl
 have hmqq:m<q:=by simpa using hc
 clear hc;have hmM:m<(nodesL L).length:=by omega
 refine EvC.skip ?_;refine EvC.seq ?_;refine EvC.block ?_;obtain⟨x,hx⟩:∃x,(nodesL L)[m]?=some x:=⟨_,List.getElem?_eq_getElem hmM⟩;have hxM:x∈nodesL L:=List.mem_of_getElem? hx;have hxN:=(hNm x).2 hxM;have hsN:=List.idxOf_lt_length_of_mem hxN;have hsx:=idx_get hxN;have hordm:(ordC L q)[m]?=some [.sc (.int .i64 (((rawN L).idxOf x:Nat):Int))]:=by
  rw[ordC,List.getElem?_map,List.getElem?_take,if_pos hmqq,hx];rfl
 obtain⟨s,hs⟩:∃s,s=(rawN L).idxOf x:=⟨_,rfl⟩;rw[←hs]at hsN hsx hordm;have hsin:(s:Int).toNat=s:=Int.toNat_natCast s;have hrw:=rowsV_get (W:=W) (I:=ins) hsN;have hmix:gcells edgeC (W s) ins=gcells edgeC (mixE L m 0) ins:=gcells_congr edgeC fun j hj=>by
  rw[hW s j hsN hj,mixE_zero,rawW,hsx,hx]
 rw[hmix]at hrw;have hgl:=gcells_len edgeC (mixE L m 0) (m:=ins);have hcl:PureNew prog 66 [.sl false (gcells edgeC (mixE L m 0) ins) .unk] 2 (gcells edgeC (mixE L m 0) ins):=by
  have:=clone68_new ((List.range ins).map (mixE L m 0)) .unk (by simp;omega) (by simp;omega)
  rwa[List.map_map]at this
 apply EvC.s1
 ·apply Tr.run
  ·simp only[go_sem,hql,hordm,hmin,hsin,hvl,hrw]<;>rfl
  ·simp;omega
  apply Tr.cons
  ·exact .callN rfl rfl (by simp only[go_sem]<;>rfl) (by simp only[go_sem]<;>rfl) (by simp only[go_sem]<;>rfl) (by simp only[go_sem]<;>rfl) (by simp only[go_sem]<;>rfl) hcl
  apply Tr.cons
  ·exact .clip (n:=ins) rfl rfl (by simp only[go_sem]<;>rfl) (by simp only[go_sem]<;>rfl) (by simp only[go_sem,hgl]<;>rfl) (by simp only[go_sem]<;>rfl) hgl.symm (by omega) (by omega) (by simp only[go_sem]<;>rfl) clip90_clips
  apply Tr.done
  ·simp only[go_sem,hgl]<;>rfl
  ·simp
 refine EvC.seq ?_;have htk:(gcells edgeC (mixE L m 0) ins).take ins=gcells edgeC (mixE L m 0) ins:=List.take_of_length_le (by omega);refine EvC.a ?_ (by simp only[go_sem,hgl,htk]<;>rfl);refine EvC.block ?_;refine EvC.loopS (σ:=Nat) (fun i=>⟨[(0,.sl false (rowsV W (rawN L).length ins) c),(3,.tl 0 (qF (nodesL L) ins m i) false),(4,.tl 1 m false),(5,.sc (.int .i64 m)),(6,.tv 2 ins 0 ins (.val ins)),(30,.tv 2 ins 0 ins (.val ins)),(31,.sc (.int .i64 ins)),(32,.sc (.int .i64 i))],[],[(0,.arr 1 (ordC L (qF (nodesL L) ins m i)) false),(1,.arr 1 (outC ins L m) false),(2,.arr 2 (gcells edgeC (mixE L m i) ins) false)],3⟩) (fun i=>ins-i) (fun i=>i≤ins) [0,3,4,5,6,30,31,32] 3 ?_ ?_
 ·refine⟨[(0,0),(1,1),(13,2)],0,rfl,?_,Nat.zero_le _⟩;rw[←hq];have hnr:=gcells_norefs norefs_edgeC (mixE L m 0) ins;simp only[go_sem,Int.natCast_zero,hor,hon,hnr]<;>rfl
 rintro i hi;have hiin:(i:Int).toNat=i:=Int.toNat_natCast i;obtain⟨p,hp⟩:∃p,p=qF (nodesL L) ins m i:=⟨_,rfl⟩;have hpn:=hqle m i hmM hi;have hpn1:=hqn m i;have hpg:=hqg m i hmM;rw[←hp]at hpn hpn1 hpg⊢;have hpl:=hordl p hpn;have hgl2:=gcells_len edgeC (mixE L m i) (m:=ins);have hnr2:=gcells_norefs norefs_edgeC (mixE L m i) ins;refine EvC.a ?_;refine EvC.seq ?_;refine EvC.cd (fun hc=>?_) (fun hc=>?_);rotate_left
 ·
  have hie:i=ins:=by have:¬i<ins:=by simpa using hc
                     omega
  refine EvC.exit ?_;have hall:gcells edgeC (mixE L m i) ins=(treeRow L (nodesL L) x ins).map edgeC:=by
   rw[treeRow,List.map_map];refine List.map_congr_left fun j hj=>?_;have:=List.mem_range.1 hj;simp only[Function.comp,mixE];rw[if_pos (by omega),hx];rfl
  rw[hall]at hgl2 hnr2⊢;refine EvC.frz 2 (by simp only[go_sem,hgl2,hnr2]<;>rfl) ?_;refine EvC.unkV 6 (by simp only[go_sem]<;>rfl) ?_;have hol:=houtl m (by omega);refine EvC.b ?_ (by simp only[go_sem,hol]<;>rfl) (by simp[room_eq];try omega);refine EvC.bi ?_;have hout1:outC ins L (m+1)=outC ins L m++[[.sl false ((treeRow L (nodesL L) x ins).map edgeC) .unk]]:=by
   unfold outC;rw[List.take_succ,hx,List.map_append];rfl
  refine⟨[(0,0),(1,1)],m+1,rfl,?_,by omega,by omega⟩;have hqq:=hqr m hmM;rw[hie]at hp;rw[hqq]at hp;rw[←hp,hout1];have hon1:=hon (m+1);rw[hout1]at hon1;have hu:AV.unkss ((treeRow L (nodesL L) x ins).map edgeC)=(treeRow L (nodesL L) x ins).map edgeC:=unkss_map edgeC (fun x=>rfl) _;simp only[go_sem,hor,hon,hon1,norefs_edges,hu,Int.natCast_add,Int.natCast_one]<;>rfl
 have hiI:i<ins:=by simpa using hc
 clear hc;refine EvC.skip ?_;refine EvC.seq ?_;refine EvC.block ?_;have hgi:=gcells_get edgeC (mixE L m i) hiI;refine EvC.a ?_ (by simp only[go_sem,hgl2,hgi,hiin,edgeC]<;>rfl) (by simp;try omega);refine EvC.a ?_;have hxi:(nodesL L)[m]?.getD []++[(i:Int)]=x++[(i:Int)]:=by rw[hx];rfl
 have hmi:mixE L m i i=edgeOf L (rawN L) (x++[(i:Int)]):=by unfold mixE;rw[if_neg (by omega),hxi]
 have hmj:∀j,j≠i→mixE L m (i+1) j=mixE L m i j:=fun j hj=>by
  unfold mixE;by_cases h:j<i
  ·rw[if_pos (by omega),if_pos h]
  ·rw[if_neg (by omega),if_neg h]
 have hms:mixE L m (i+1) i=edgeOf L (nodesL L) (x++[(i:Int)]):=by unfold mixE;rw[if_pos (by omega),hxi]
 rw[hxi]at hpn1 hpg;have hed1:=hed _ (snoc_ne x (i:Int));have hem1:=hem _ (snoc_ne x (i:Int));rw[←hmi]at hed1;rw[←hms]at hem1;have hmemN:=hNm (x++[(i:Int)]);by_cases he:(mixE L m i i).1=-1
 ·refine EvC.cs ?_ (by simp only[go_sem,decide_eq_true he]<;>rfl);have hnin:x++[(i:Int)]∉nodesL L:=fun h=>by
   rcases hed1 with⟨h1,_⟩|⟨_,n',_,_,_,h2⟩
   ·exact h1 (hmemN.2 h)
   ·rw[h2]at he;simp only at he;omega
  rw[if_neg hnin]at hpn1;have hsame:gcells edgeC (mixE L m (i+1)) ins=gcells edgeC (mixE L m i) ins:=gcells_congr edgeC fun j hj=>by
   by_cases h:j=i
   ·subst h;rcases hed1 with⟨_,h1⟩|⟨h1,_⟩
    ·rcases hem1 with⟨_,h2⟩|⟨h2,_⟩
     ·rcases h1 with⟨h3,h4⟩|⟨h3,h4⟩
      ·rcases h2 with⟨h5,h6⟩|⟨h5,h6⟩
       ·rw[h4,h6]
       ·rw[h5]at h3;cases h3
      ·rcases h2 with⟨h5,h6⟩|⟨h5,h6⟩
       ·rw[h5]at h3;cases h3
       ·rw[h4,h6]
     ·exact absurd h2 hnin
    ·exact absurd (hmemN.1 h1) hnin
   ·exact hmj j h
  refine EvC.bi ?_;refine⟨[(0,0),(1,1),(2,2)],i+1,rfl,?_,by omega,by omega⟩;rw[hpn1,hsame];simp only[go_sem,hor,hon,hnr2,Int.natCast_add,Int.natCast_one,Nat.add_zero]<;>rfl
 refine EvC.ct ?_ (by simp only[go_sem,decide_eq_false he]<;>rfl);have hin:x++[(i:Int)]∈rawN L:=by
  rcases hed1 with⟨_,h1⟩|⟨h1,_⟩
  ·rcases h1 with⟨_,h1⟩|⟨_,h1⟩<;>(rw[h1]at he;exact absurd rfl he)
  ·exact h1
 have hinM:=hmemN.1 hin;rw[if_pos hinM]at hpn1;have hpg:=hpg hiI hinM;obtain⟨o,he1,he2⟩:∃o,mixE L m i i=((((rawN L).idxOf (x++[(i:Int)]):Nat):Int),o)∧mixE L m (i+1) i=((p:Int),o):=by
  rcases hed1 with⟨h1,_⟩|⟨_,o1,h1,_,_,h2⟩
  ·exact absurd hin h1
  rcases hem1 with⟨h3,_⟩|⟨_,o2,h3,_,_,h4⟩
  ·exact absurd hinM h3
  rw[h1]at h3;cases h3;refine⟨o1,h2,?_⟩;rw[h4];obtain⟨hl,hg⟩:=List.getElem?_eq_some_iff.1 hpg;have:=hsrt.nodup.idxOf_getElem p hl;rw[hg]at this;rw[this]
 rw[he1]at hgi⊢;have hset:(gcells edgeC (mixE L m i) ins).set i [.sc (.int .i64 p),.sc (.int .i64 o)]=gcells edgeC (mixE L m (i+1)) ins:=by
  have:=gcells_set edgeC (mixE L m i) (((p:Int),o)) hiI;rw[show edgeC ((p:Int),o)=[.sc (.int .i64 p),.sc (.int .i64 o)]from rfl]at this;rw[this];refine gcells_congr edgeC fun j hj=>?_;unfold upd1;by_cases h:j=i
  ·rw[if_pos h,h,he2]
  ·rw[if_neg h,hmj j h]
 have hord1:ordC L (p+1)=ordC L p++[[.sc (.int .i64 (((rawN L).idxOf (x++[(i:Int)]):Nat):Int))]]:=by
  unfold ordC;rw[List.take_succ,hpg,List.map_append];rfl
 refine EvC.a ?_ (by simp only[go_sem,hpl,hgl2,hgi,hiin,edgeC,hset]<;>rfl) (by simp;try omega);refine EvC.b ?_ (by simp only[go_sem,hpl]<;>rfl) (by simp[room_eq];try omega);refine EvC.bi ?_;refine⟨[(0,0),(1,1),(2,2)],i+1,rfl,?_,by omega,by omega⟩;rw[hpn1,hord1];have hor1:=hor (p+1);rw[hord1]at hor1;have hnr3:=gcells_norefs norefs_edgeC (mixE L m (i+1)) ins;simp only[go_sem,hor1,hon,hnr3,Int.natCast_add,Int.natCast_one]<;>rfl
theorem insN_len(N:List (List Int))(t:TR):∀k,(insN N t k).length≤N.length+k
 | 0=>Nat.le_refl _
 | k+1=>by
   have:=insN_len N t k;rw[insN_succ];split
   ·omega
   ·rw[List.length_append];simp;omega
theorem rawN_sum{ins:Nat}{outs:Int}{L:List TR}(hv:∀t∈L,TrVal ins outs t):∀k,k≤L.length→(rawN (L.take k)).length≤1+sumW (L.take k)
 | 0,_=>by simp[rawN,sumW]
 | k+1,h=>by
   have ih:=rawN_sum hv k (by omega);have hx:L[k]?=some (L[k]'h):=List.getElem?_eq_getElem h;have hs:=sumW_next hx;rw[List.take_succ,hx,Option.toList_some,rawN_snoc];rw[List.take_succ,hx,Option.toList_some]at hs;have h1:=insN_len (rawN (L.take k)) (L[k]'h) (preN (L[k]'h).r);have h2:=preN_le (L[k]'h).r;have h3:=(hv _ (List.getElem_mem h)).len;omega
theorem rawS_at{ins:Nat}{outs:Int}{L:List TR}(hv:∀t∈L,TrVal ins outs t)(hc:Cons L){k:Nat}{t:TR}(h:L[k]?=some t):RawS ins outs (L.take k) t∧L.take (k+1)=L.take k++[t]:=by
 have e:L.take (k+1)=L.take k++[t]:=by rw[List.take_succ,h];rfl
 have hs:∀u∈L.take k++[t],u∈L:=fun u hu=>by rw[←e]at hu;exact List.mem_of_mem_take hu
 exact⟨⟨fun u hu=>hv u (hs u hu),fun u hu u2 hu2=>hc u (hs u hu) u2 (hs u2 hu2)⟩,e⟩
theorem osegK_okT{base nx n:Nat}{A:List (Nat×Nat)}(hA:gcOk base nx A=true)(h1:(A.all fun p=>notO p.1)=true)(h2:(A.all fun p=>notO p.2)=true)(hn:n≤1000000)(hx:2000000+n≤nx):gcOk base nx (osegK A n [])=true:=by
 have hb:=gcOk_base hA;have key:∀m,m≤n→gcOk base nx (oK m)=true:=by
  intro m
  induction m with
  | zero=>intro _;simp[oK,gcOk,hb]
  | succ m ih=>
    intro hm;rw[oK_succ];refine gcOk_append (ih (by omega)) ?_ fun p hp=>?_
    ·simp[gcOk,blook,rlook,hb];omega
    ·obtain⟨i,hi,rfl⟩:=mem_oK hp;have hne:¬2000000+i=2000000+m:=by omega
     simp only[blook,rlook,if_neg hne];exact⟨trivial,trivial⟩
 rw[osegK,List.append_nil];refine gcOk_append hA (key n (Nat.le_refl _)) fun p hp=>?_;rw[List.all_eq_true]at h1 h2;have a1:=h1 p hp;have a2:=h2 p hp;unfold notO at a1 a2;simp at a1 a2;rw[blook_oK,rlook_oK,if_neg (by omega),if_neg (by omega)];exact⟨rfl,rfl⟩
set_option maxHeartbeats 8000000 in
theorem tree67_is{ins:Nat}{outs:Int}{L:List TR}(h:LogOk ins outs L)(hc':Cons L):PureIs prog 8 [logD ins outs L] (.tu [.ag (treeM ins outs L).cells,.sc (.int .i64 0)]):=by
 have hK:=contra79_is h hc';have hI:=h.inb;have hv:=h.val;have hsum:=h.sum;have hll:=h.len;have hNs:=fun k hk=>rawN_sum hv k hk;have hNt:=fun k=>sumW_take L k;have hrow:=row81_new hI;unfold logD at hK⊢;refine PureIs.of1 4 [5,6,7,8,10,21,30,33,34,35,36,39,40] func8 ntmps8 results8 fun _=>?_;refine EvC.a ?_;refine EvC.z 0 ?_;refine EvC.seq ?_;refine EvC.k1 ?_ (c1:=.ca hK);refine EvC.g ?_;refine EvC.cs ?_;apply EvC.seq;apply EvC.tr
 ·apply Tr.run
  ·simp only[go_sem]<;>rfl
  ·simp
  apply Tr.cons
  ·exact .callN rfl rfl (by simp only[go_sem]<;>rfl) (by simp only[go_sem]<;>rfl) (by simp only[go_sem]<;>rfl) (by simp only[go_sem]<;>rfl) (by simp only[go_sem]<;>rfl) hrow
  apply Tr.done
  ·simp only[go_sem,List.length_replicate]<;>rfl
  ·simp
 refine EvC.a ?_;refine EvC.seq ?_;refine EvC.a ?_ (by simp only[go_sem,List.length_map]<;>rfl);refine EvC.block ?_;have hnr0:(List.replicate ins (edgeC (-1,-1))).all AV.norefs=true:=by simp[List.all_eq_true,edgeC,AV.norefs,AV.noref]
 refine EvC.loopS (σ:=Nat×(Nat→Nat→Int×Int)) (fun g=>⟨[(1,.ia [.sc (.int .i64 ins),.sc (.int .i64 outs),.sl L.isEmpty (L.map traceD) .unk]),(2,.rf 1000100 0),(7,.rf 1000200 0),(8,.fn 30 [.rf 1000200 0,.ia [.sc (.int .i64 ins),.sc (.int .i64 outs),.sl L.isEmpty (L.map traceD) .unk]]),(33,.sl L.isEmpty (L.map traceD) .unk),(34,.sc (.int .i64 L.length)),(35,.sc (.int .i64 g.1))],[],enterM ins (rawN (L.take g.1)).length g.2,3000000⟩) (fun g=>L.length-g.1)
  (fun g=>g.1≤L.length∧∀s j,s<(rawN (L.take g.1)).length→j<ins→g.2 s j=rawW (L.take g.1) (rawN (L.take g.1)) s j) [1,2,7,8,33,34,35] 3000000 ?_ ?_
 ·refine⟨[(1,1000100),(22,1000200),(21,1000201),(20,2000000)],(0,fun _ _=>(-1,-1)),rfl,?_,Nat.zero_le _,fun s j _ _=>rfl⟩;have hg:List.replicate ins (edgeC (-1,-1))=gcells edgeC (fun _=>(-1,-1)) ins:=by rw[gcells_const]
  have h0:(rawN (L.take 0)).length=1:=rfl;rw[hg]at hnr0⊢;simp only[h0];unfold enterM;have ho:ocell ins 1=[[.tl 2000000 ins false]]:=rfl;have ht:otab 2 edgeC (fun _ _=>(-1,-1)) 1 ins=[(2000000,.arr 2 (gcells edgeC (fun _=>(-1,-1)) ins) false)]:=rfl;rw[ho,ht];simp only[go_sem,hnr0,Int.natCast_zero]<;>rfl
 rintro⟨k,W⟩ ⟨h1,h2⟩;simp only at h1 h2⊢;have hkin:(k:Int).toNat=k:=Int.toNat_natCast k;obtain⟨n,hn⟩:∃n,n=(rawN (L.take k)).length:=⟨_,rfl⟩;have hn7:n≤65537:=by have:=hNs k h1;have:=hNt k;omega
 rw[←hn]at h2⊢;have hn1:n≤1000000:=by omega
 have hoc:=ocell_len ins n;unfold enterM;refine EvC.a ?_;refine EvC.seq ?_;refine EvC.cd (fun hc=>?_) (fun hc=>?_);rotate_left
 ·
  have hk:k=L.length:=by have:¬k<L.length:=by simpa using hc
                         omega
  refine EvC.exit ?_;have hLk:L.take k=L:=by rw[hk,List.take_length]
  rw[hLk]at hn h2;have hnum:=numbered83_is hv hc' hI (by have:=rawN_len L;omega) W (by rw[←hn];exact h2) .unk;rw[←hn]at hnum;refine EvC.ofzAll n (fun i hi=>⟨2,gcells edgeC (W i) ins,false,by simp only[mlook,o_ne (show i<1000000 by omega),if_false,otab_look 2 edgeC W hi,go_sem],gcells_norefs norefs_edgeC _ _⟩) ?_;have hfz:=otab_fz 2 edgeC W n ins;obtain⟨MM,hMM⟩:∃MM:Mem,MM=(1000100,.cells [.sc (.int .i64 0),.sc (.int .i64 0),.sl true [] .zer])::(1000200,.cells [.tl 1000201 n false])::(1000201,.arr 1 (ocell ins n) false)::otabF 2 edgeC W n ins:=⟨_,rfl⟩;have hsn:(ocell ins n).map (fun c=>c.map (AV.deep (snap MM)))=rowsV W n ins:=ocell_snap (e:=2) (row:=fun s=>gcells edgeC (W s) ins) (fun s hs=>by
   rw[hMM];simp only[mlook,o_ne (show s<1000000 by omega),if_false,otabF_look 2 edgeC W hs,go_sem]) (fun s _=>gcells_len _ _ _)
  rw[hMM]at hsn;have hvl:=rowsV_len W n ins;have hvn:(rowsV W n ins).all AV.norefs=true:=by simp[rowsV,List.all_eq_true,AV.norefs,AV.noref]
  have hmF:∀f,memMap f (otabF 2 edgeC W n ins)=otabF 2 edgeC W n ins:=fun f=>by rw[otabF,memMap_msegA,List.map_map];rfl
  refine EvC.snapA 1000201 (by simp only[go_sem,ofzAll_cons hn1,hfz,hsn]<;>rfl) ?_;refine EvC.frzD 1000201 (by simp only[go_sem,hvn,hvl,hmF]<;>rfl) ?_;apply EvC.seq;apply EvC.drwA mixed
  ·apply Tr.run
   ·simp only[go_sem]<;>rfl
   ·simp
   apply Tr.cons
   ·exact .call rfl rfl (by simp only[go_sem]<;>rfl) (by simp only[go_sem]<;>rfl) (by simp only[go_sem]<;>rfl) (by simp only[go_sem]<;>rfl) (by simp only[go_sem]<;>rfl) hnum
   apply Tr.done
   ·simp only[go_sem]<;>rfl
   ·simp
  ·kernel_rfl
  refine EvC.ret ⟨.inl rfl,_,(by simp only[go_sem]<;>rfl),?_,?_⟩
  ·rfl
  ·rfl
 have hkl:k<L.length:=by simpa using hc
 clear hc;refine EvC.skip ?_;refine EvC.seq ?_;refine EvC.block ?_;have hLk:L[k]?=some (L[k]'hkl):=List.getElem?_eq_getElem hkl;obtain⟨t,ht⟩:∃t,t=L[k]'hkl:=⟨_,rfl⟩;rw[←ht]at hLk;obtain⟨hS,hLk1⟩:=rawS_at hv hc' hLk;have htw:=h.short t (List.mem_of_getElem? hLk);have hgt:(L.map traceD)[k]?=some (traceD t):=by rw[List.getElem?_map,hLk];rfl
 refine EvC.a ?_ (by simp only[go_sem,hgt,hkin,List.length_map,traceD]<;>rfl) (by simp;try omega);have hmd3:=mdel_otab 2 edgeC W (m:=ins) hn1 3000003 rfl;have hon3:∀k,notO k=true→mlook (otab 2 edgeC W n ins) k=none:=fun k hk=>otab_none 2 edgeC W hn1 k hk;refine EvC.z 3000003 ?_ (by simp only[go_sem,hmd3]<;>rfl);apply EvC.rs
 ·simp only[go_sem]<;>rfl
 ·simp
 refine XR.gcTo ⟨[(1,.ia [.sc (.int .i64 ins),.sc (.int .i64 outs),.sl L.isEmpty (L.map traceD) .unk]),(2,.rf 1000100 0),(7,.rf 1000200 0),(8,.fn 30 [.rf 1000200 0,.ia [.sc (.int .i64 ins),.sc (.int .i64 outs),.sl L.isEmpty (L.map traceD) .unk]]),(33,.sl L.isEmpty (L.map traceD) .unk),(34,.sc (.int .i64 L.length)),(35,.sc (.int .i64 k)),(39,.fn 30 [.rf 1000200 0,.ia [.sc (.int .i64 ins),.sc (.int .i64 outs),.sl L.isEmpty (L.map traceD) .unk]]),(40,.ag (traceD t))],[],enterM ins n W,2000000+n⟩ [1,2,7,8,33,34,35,39,40] (enterK n) ?_ ?_ ?_
 ·exact osegK_okT (by simp[gcOk,enterA,blook,rlook];omega) rfl rfl hn1 (Nat.le_refl _)
 ·have hlo:∀q,q<n→rlook (enterK n) (2000000+q)=some (2000000+q):=fun q hq=>rlook_osegK_lo hq hn1 (A:=enterA) rfl;have hhi:∀q,notO q=true→rlook (enterK n) q=rlook enterA q:=fun q hq=>by rw[enterK,rlook_osegK_hi hn1 _ _ _ hq,List.append_nil]
  unfold enterM;unfold enterK enterA at hlo hhi⊢;simp only[go_sem,hhi,traceD,List.cons_append,List.nil_append,List.append_nil,renMem_oK_cons hn1,otab_ren 2 norefs_edgeC,ocell_ren hlo,ite_self]<;>rfl
 apply XR.callI rfl rfl (by simp only[go_sem]<;>rfl) (by simp only[go_sem]<;>rfl) (by simp only[go_sem]<;>rfl);have hlen7:(rawN (L.take k++[t])).length≤70000:=by
  have h3:=hNs (k+1) hkl;have h4:=hNt (k+1);rw[hLk1]at h3 h4;omega
 have hnk:=hn;rw[hn];refine enter82_body hS hI hlen7 htw [.sc (.int .i64 outs),.sl L.isEmpty (L.map traceD) .unk] outs W (by rw[←hn];exact h2) ?_;intro W' nx' hnx hW';apply XR.done
 ·simp only[go_sem]<;>rfl
 ·simp
 refine EvC.bi ?_;rw[←hLk1]at hW'⊢;obtain⟨n2,hn2⟩:∃n2,n2=(rawN (L.take (k+1))).length:=⟨_,rfl⟩;have hn27:n2≤65537:=by have:=hNs (k+1) hkl;have:=hNt (k+1);omega
 have hn21:n2≤1000000:=by omega
 refine⟨enterK n2,(k+1,W'),osegK_ok (A:=enterA) (by simp[gcOk,enterA,blook,rlook]) rfl rfl hn21 (Nat.le_refl _),?_,⟨hkl,hW'⟩,by simp only;omega⟩;simp only;rw[←hn2];have hlo:∀q,q<n2→rlook (enterK n2) (2000000+q)=some (2000000+q):=fun q hq=>rlook_osegK_lo hq hn21 (A:=enterA) rfl;have hhi:∀q,notO q=true→rlook (enterK n2) q=rlook enterA q:=fun q hq=>by rw[enterK,rlook_osegK_hi hn21 _ _ _ hq,List.append_nil]
 unfold enterM;unfold enterK enterA at hlo hhi⊢;simp only[go_sem,hhi,traceD,List.cons_append,List.nil_append,List.append_nil,renMem_oK_cons hn21,otab_ren 2 norefs_edgeC,ocell_ren hlo,ite_self,Int.natCast_add,Int.natCast_one]<;>rfl
open Go Go.ChangeShapes Go.RowKit
def Live(w:World):Nat→Nat→Prop:=fun b _=>b<w.heap.size
section
variable {H:Type} {enc:TypeId×Value→H} {P:Program} {w:World} {α β:Type}
def Fits(P:Program)(t:TypeId)(d:DataW H):Prop:=∀n∈d.weights P t,n≤reachBytes
theorem fits_all{P:Program}{e:TypeId}:∀{l:List (DataW H)},(∀n∈DataW.weightsAll P e l,n≤reachBytes)→∀d∈l,Fits P e d
 | [],_,d,hd=>by cases hd
 | a::l,h,d,hd=>by
   simp only[DataW.weightsAll,List.mem_append]at h;rcases List.mem_cons.1 hd with rfl|hd
   ·exact fun n hn=>h n (.inl hn)
   ·exact fits_all (fun n hn=>h n (.inr hn)) d hd
theorem fits_each{P:Program}:∀{ts:List TypeId} {l:List (DataW H)},(∀n∈DataW.weightsEach P ts l,n≤reachBytes)→∀(i:Nat) t d,ts[i]?=some t→l[i]?=some d→Fits P t d
 | [],_,_,i,t,d,h1,_=>by simp at h1
 | _::_,[],_,i,t,d,_,h2=>by simp at h2
 | a::ts,b::l,h,i,t,d,h1,h2=>by
   simp only[DataW.weightsEach,List.mem_append]at h;cases i with
   | zero=>
     simp only[List.getElem?_cons_zero,Option.some.injEq]at h1 h2;subst h1;subst h2;exact fun n hn=>h n (.inl hn)
   | succ i=>exact fits_each (fun n hn=>h n (.inr hn)) i t d (by simpa using h1) (by simpa using h2)
def Reads(enc:TypeId×Value→H)(P:Program)(w:World)(t:TypeId)(f:α→List AV)(Ok:α→Prop):Prop:=
 ∀fuel cs x,Fits P t x.1→DataW.trod enc P w 0 (fun _=>true) true fuel t cs=some x→
  ∃a,Ok a∧Imms (Live w) w cs (f a)∧∀v∈cs,v.oneCell'=true
theorem Imms.one{F:Nat→Nat→Prop}{v:Value}{x:AV}(h:Imm F w v x):Imms F w [v] [x]:=
 ⟨rfl,fun i h1 _=>by have:i=0:=by simpa using h1
                     subst this;exact h⟩
theorem Imms.append{F:Nat→Nat→Prop}{vs vs':List Value}{xs xs':List AV}(h:Imms F w vs xs)(h':Imms F w vs' xs'):Imms F w (vs++vs') (xs++xs'):=by
 have e:=h.1;have e':=h'.1;refine⟨by simp[e,e'],fun i h1 h2=>?_⟩;by_cases hi:i<vs.length
 ·rw[List.getElem_append_left hi,List.getElem_append_left (by omega)];exact h.2 i _ _
 ·rw[List.getElem_append_right (by omega),List.getElem_append_right (by omega)];have:=h'.2 (i-vs.length) (by simp at h1;omega) (by simp at h2;omega);simpa only[e]using this
theorem Reads.mono{t:TypeId}{f:α→List AV}{Ok:α→Prop}{g:β→List AV}{Ok':β→Prop}(h:Reads enc P w t f Ok)(hq:∀a,Ok a→∃b,Ok' b∧g b=f a):Reads enc P w t g Ok':=
 fun fuel cs x hs ht=>let⟨a,h1,h2,h3⟩:=h fuel cs x hs ht;let⟨b,k1,k2⟩:=hq a h1;⟨b,k1,by rw[k2];exact h2,h3⟩
theorem Reads.int{t:TypeId}{k:IntKind}(ht:P.underlying t=some (.int k)):Reads enc P w t (fun n:Int=>[.sc (.int k n)]) (fun n=>(Lit.int k n).wf=true):=fun fuel cs x _ h=>by
 obtain⟨n,rfl,rfl,hw⟩:=DataW.trod_int ht h;exact⟨n,hw,.one (.sc _),by simp[Value.oneCell']⟩
theorem pick{α:Type}{p:Nat→α→Prop}(n:Nat)(h:∀i,i<n→∃a,p i a):∃l:List α,l.length=n∧∀i (hi:i<l.length),p i l[i]:=by
 induction n with
 | zero=>exact⟨[],rfl,fun i hi=>by simp at hi⟩
 | succ n ih=>
   obtain⟨l,h1,h2⟩:=ih fun i hi=>h i (by omega);obtain⟨a,ha⟩:=h n (by omega);refine⟨l++[a],by simp[h1],fun i hi=>?_⟩;by_cases h3:i<l.length
   ·rw[List.getElem_append_left h3];exact h2 i h3
   ·have:i=l.length:=by simp at hi;omega
    subst this;rw[List.getElem_append_right (Nat.le_refl _)];simpa[h1]using ha
theorem Reads.slice{t e:TypeId}{f:α→List AV}{Ok:α→Prop}(ht:P.underlying t=some (.slice e))(he:Reads enc P w e f Ok)(hz:∀a,(f a).length=P.cellsOf e)(hz0:0<P.cellsOf e):
  Reads enc P w t (fun x:Bool×List α=>[.sl x.1 (x.2.map f) .unk]) (fun x=>(∀y∈x.2,Ok y)∧(x.1=true→x.2=[])∧x.2.length*P.bytesOf e≤reachBytes):=fun fuel cs x hs h=>by
 rcases DataW.trod_slice ht h with⟨rfl,rfl⟩|⟨a,len,cap,elems,rest,n,rfl,rfl,rfl,_,hlc,hcm,hlen,hel,hrest,_⟩
 ·exact⟨(true,[]),⟨by simp,fun _=>rfl,by simp⟩,.one (.nil _ (.inl rfl)),by simp[Value.oneCell']⟩
 unfold Fits at hs;simp only[DataW.weights,ht,List.mem_cons,List.mem_append,List.length_map]at hs;have hbytes:len*P.bytesOf e≤reachBytes:=by
  have:=hs _ (.inl rfl);rw[hlen,Nat.add_mul]at this;omega
 have hfit:∀i (hi:i<elems.length),Fits P e elems[i].1:=fun i hi=>
  fits_all (l:=elems.map (·.1)) (fun n hn=>hs n (.inr (.inl hn))) _ (List.mem_map.2 ⟨_,List.getElem_mem hi,rfl⟩)
 by_cases hc0:cap=0
 ·have hl0:len=0:=by omega
  subst hc0;subst hl0;exact⟨(false,[]),⟨by simp,by simp,by simp⟩,.one (.sz a _ (.inl rfl)),by simp[Value.oneCell']⟩
 have hfirst:∃v,w.cell? a=some v:=by
  have hcells:∃cs',w.cells? 0 a (P.cellsOf e)=some cs':=by
   by_cases hl0:len=0
   ·subst hl0;have h1:=(hrest rfl).2 0 (by omega);rw[List.getElem?_eq_getElem (by rw[(hrest rfl).1];omega)]at h1;obtain⟨cs',h2,_⟩:=Option.bind_eq_some_iff.1 h1;refine⟨cs',?_⟩;simpa[Addr.add]using h2
   ·have h1:=hel 0 (by omega);rw[List.getElem?_eq_getElem (by omega)]at h1;obtain⟨cs',h2,_⟩:=Option.bind_eq_some_iff.1 h1;refine⟨cs',?_⟩;simpa[Addr.add]using h2
  obtain⟨cs',h2⟩:=hcells;obtain⟨_,q1,q2⟩:=World.cells?_some h2;have:=q2 0 hz0;rw[List.getElem?_eq_getElem (by omega)]at this;exact⟨_,by simpa[Addr.add]using this⟩
 have hsp:a.spot=none:=by
  obtain⟨v,hv⟩:=hfirst;unfold World.cell? at hv;cases hsp:a.spot with
  | none=>rfl
  | some k=>
    rw[hsp]at hv;split at hv<;>simp at hv
 obtain⟨b,off,spt⟩:=a;cases hsp;have key:∀i,i<len→∃y:α,Ok y∧∃cs',cs'.length=P.cellsOf e∧(∀j (hj:j<cs'.length),w.cell? ⟨b,off+i*P.cellsOf e+j,none⟩=some cs'[j])∧Imms (Live w) w cs' (f y)∧∀v∈cs',v.oneCell'=true:=fun i hi=>by
  have h1:=hel i hi;rw[List.getElem?_eq_getElem (by omega)]at h1;obtain⟨cs',h2,h3⟩:=Option.bind_eq_some_iff.1 h1;obtain⟨y,k1,k2,k3⟩:=he _ _ _ (hfit i (by omega)) h3;obtain⟨_,q1,q2⟩:=World.cells?_some h2;refine⟨y,k1,cs',q1,fun j hj=>?_,k2,k3⟩;have:=q2 j (by omega);rw[List.getElem?_eq_getElem hj]at this;rw[←this];congr 1;unfold Addr.add;by_cases e1:i*P.cellsOf e=0
  ·rw[if_pos e1];by_cases e2:j=0
   ·subst e2;simp[e1]
   ·rw[if_neg e2];simp[e1]
  ·rw[if_neg e1];by_cases e2:j=0
   ·subst e2;simp
   ·rw[if_neg e2]
 obtain⟨l,hl,hp⟩:=pick len key;refine⟨(false,l),⟨fun y hy=>?_,by simp,by rw[hl];exact hbytes⟩,.one ?_,by simp[Value.oneCell']⟩
 ·obtain⟨i,hi,rfl⟩:=List.getElem_of_mem hy;exact(hp i hi).1
 ·
  have hcell:∀i j,i<len→j<P.cellsOf e→∃v,w.cell? ⟨b,off+i*P.cellsOf e+j,none⟩=some v∧v.oneCell'=true∧∀(h:i<l.length) (h':j<(f l[i]).length),Imm (Live w) w v (f l[i])[j]:=fun i j hi hj=>by
   obtain⟨_,cs',q1,q2,q3,q4⟩:=hp i (by omega);exact⟨cs'[j],q2 j (by omega),q4 _ (List.getElem_mem _),fun h h'=>q3.2 j (by omega) h'⟩
  have hv:=fun i j=>show ∃v,i<len→j<P.cellsOf e→w.cell? ⟨b,off+i*P.cellsOf e+j,none⟩=some v∧v.oneCell'=true∧∀(h:i<l.length) (h':j<(f l[i]).length),Imm (Live w) w v (f l[i])[j]from by
   by_cases h:i<len∧j<P.cellsOf e
   ·obtain⟨v,hv⟩:=hcell i j h.1 h.2;exact⟨v,fun _ _=>hv⟩
   ·exact⟨undef,fun h1 h2=>absurd ⟨h1,h2⟩ h⟩
  have hvs:∀i j,∃v,v=Classical.choose (hv i j):=fun i j=>⟨_,rfl⟩;have e0:(l.map f).length=len:=by simp[hl]
  have:=Imm.sl (F:=Live w) (w:=w) b off cap (P.cellsOf e) (l.map f) .unk (fun i j=>Classical.choose (hv i j)) (by rw[e0];exact hlc) (.inl rfl) (fun i hi=>by rw[List.getElem_map];exact hz _)
   (fun i j hi hj=>by
    obtain⟨k1,k2,_⟩:=Classical.choose_spec (hv i j) (by rw[←e0];exact hi) hj;refine⟨?_,k1,k2⟩;unfold World.cell? at k1;show b<w.heap.size;cases hb:w.heap[b]? with
    | none=>simp[hb]at k1
    | some o=>exact(Array.getElem?_eq_some_iff.1 hb).1)
   (fun i j h h'=>by
    have h'2:=h';rw[List.getElem_map,hz]at h'2;have:=(Classical.choose_spec (hv i j) (by rw[←e0];exact h) h'2).2.2 (by simpa using h) (by rw[hz];exact h'2);simpa only[List.getElem_map]using this)
  rw[e0]at this;exact this
def RdF(enc:TypeId×Value→H)(P:Program)(w:World)(L:List Field)(k tot:Nat)(f:α→List AV)(Ok:α→Prop):Prop:=
 ∀(n:Nat) (cs:List Value),cs.length=tot→(∀fd∈L,∃y,DataW.trod enc P w 0 (fun _=>true) true n fd.type ((cs.drop fd.offset).take (P.cellsOf fd.type))=some y∧Fits P fd.type y.1)→
  ∃a,Ok a∧Imms (Live w) w (cs.drop k) (f a)∧∀v∈cs.drop k,v.oneCell'=true
theorem RdF.nil{tot:Nat}:RdF enc P w [] tot tot (fun _:Unit=>[]) (fun _=>True):=fun n cs hl _=>by
 have:cs.drop tot=[]:=by rw[List.drop_eq_nil_iff];omega
 rw[this];exact⟨(),trivial,⟨rfl,fun i h=>by simp at h⟩,by simp⟩
theorem RdF.cons{fd:Field}{fs:List Field}{k k' sz tot:Nat}{f:α→List AV}{Ok:α→Prop}{g:β→List AV}{Ok':β→Prop}(ho:fd.offset=k)(hz:P.cellsOf fd.type=sz)(hk:k+sz=k')
  (h:Reads enc P w fd.type f Ok)(hs:RdF enc P w fs k' tot g Ok'):RdF enc P w (fd::fs) k tot (fun x:α×β=>f x.1++g x.2) (fun x=>Ok x.1∧Ok' x.2):=fun n cs hl hf=>by
 obtain⟨y,hy,hyf⟩:=hf fd List.mem_cons_self;obtain⟨a,h1,h2,h3⟩:=h _ _ _ hyf hy;obtain⟨b,k1,k2,k3⟩:=hs n cs hl fun fd' h'=>hf fd' (List.mem_cons_of_mem _ h');have e:cs.drop k=(cs.drop k).take sz++cs.drop k':=by
  rw[←hk,←List.drop_drop,List.take_append_drop]
 rw[ho,hz]at h2 h3;refine⟨(a,b),⟨h1,k1⟩,by rw[e];exact h2.append k2,fun v hv=>?_⟩;rw[e,List.mem_append]at hv;rcases hv with hv|hv
 ·exact h3 v hv
 ·exact k3 v hv
theorem Reads.struct{t:TypeId}{fs:Array Field}{tot:Nat}{f:α→List AV}{Ok:α→Prop}(ht:P.underlying t=some (.struct fs))(hz:P.cellsOf t=tot)(h:RdF enc P w fs.toList 0 tot f Ok):Reads enc P w t f Ok:=fun fuel cs x hs hx=>by
 obtain⟨xs,n,_,rfl,hl,hlen,hf⟩:=DataW.trod_struct ht hx;unfold Fits at hs;simp only[DataW.weights,ht]at hs;obtain⟨a,h1,h2,h3⟩:=h n cs (hl.trans hz) fun fd hfd=>by
  obtain⟨i,hi,rfl⟩:=List.getElem_of_mem hfd;have:=hf i fs.toList[i] (by simp);have hix:i<xs.length:=by simp at hi;omega
  rw[List.getElem?_eq_getElem hix]at this;exact⟨_,this,fits_each hs i _ _ (by rw[List.getElem?_map,List.getElem?_eq_getElem hi];rfl) (by rw[List.getElem?_map,List.getElem?_eq_getElem hix];rfl)⟩
 exact⟨a,h1,by simpa using h2,by simpa using h3⟩
theorem Reads.imm_struct{t:TypeId}{fs:Array Field}{f:α→List AV}{Ok:α→Prop}{r:Reach}{b0:Nat}{v:Value}{d:DataW H}{ps:List MemPlace}(ht:P.underlying t=some (.struct fs))(h:Reads enc P w t f Ok)
  (hv:Value.okWide P w r b0 t v)(hw:Fits P t d)(hd:DataW.Trod enc P w 0 (fun _=>true) true t v d ps):∃a,Ok a∧Imm (Live w) w v (.ag (f a)):=by
 obtain⟨cs,rfl,_⟩:=WideShapes.okWide_struct ht hv;obtain⟨fuel,hd⟩:=hd;obtain⟨a,h1,h2,_⟩:=h _ _ _ hw hd;refine⟨a,h1,?_⟩;have:(Value.agg cs)=.agg cs.toList.toArray:=by simp
 rw[this];exact .ag _ _ h2.1 h2.2
theorem Reads.imm_slice{t e:TypeId}{f:α→AV}{Ok:α→Prop}{r:Reach}{b0:Nat}{v:Value}{d:DataW H}{ps:List MemPlace}(ht:P.underlying t=some (.slice e))(h:Reads enc P w t (fun a=>[f a]) Ok)
  (hv:Value.okWide P w r b0 t v)(hw:Fits P t d)(hd:DataW.Trod enc P w 0 (fun _=>true) true t v d ps):∃a,Ok a∧Imm (Live w) w v (f a):=by
 have hc:v.cells=#[v]:=by
  simp only[Value.okWide,ht,Cell.okWide]at hv;cases v<;>simp_all[Cell.ok,Value.cells]
 obtain⟨fuel,hd⟩:=hd;obtain⟨a,h1,h2,_⟩:=h _ _ _ hw hd;rw[hc]at h2;exact⟨a,h1,h2.2 0 (by simp) (by simp)⟩
theorem Grown.below{F F':Nat→Nat→Prop}{w':World}(g:Avl.Grown F w F' w'):Below w.heap.size w w':=⟨g.kept.os,g.kept.tape,g.kept.output,g.size,g.old⟩
theorem trodAll_stays(hl:laidOutB P=true){w':World}(hb:Below w.heap.size w w'){spf:Nat→Bool}:∀{ts:List TypeId} {vs:List Value} {ds:List (DataW H)} {ps:List MemPlace},(∀t∈ts,P.readableRec t=true∧t<P.types.size)→
  DataW.TrodAll enc P w 0 (fun _=>true) true ts vs ds ps→(∀p∈ps,p.block<w.heap.size)→(∀p∈ps,spf p.block=true)→DataW.TrodAll enc P w' 0 spf true ts vs ds ps
 | [],[],[],_,_,h,_,_=>h
 | t::ts,v::vs,d::ds,_,hr,⟨p,q,h1,h2,e⟩,hlt,hsp=>by
   subst e;refine⟨p,q,?_,trodAll_stays hl hb (fun t ht=>hr t (List.mem_cons_of_mem _ ht)) h2 (fun x hx=>hlt x (List.mem_append_right _ hx)) fun x hx=>hsp x (List.mem_append_right _ hx),rfl⟩;have:=hr t List.mem_cons_self;exact WideElems.Trod_stays hl this.1 this.2 h1 (fun x hx=>hb.same (hlt x (List.mem_append_left _ hx))) fun x hx=>hsp x (List.mem_append_left _ hx)
 | [],_::_,_,_,_,h,_,_=>h.elim
 | [],[],_::_,_,_,h,_,_=>h.elim
 | _::_,[],_,_,_,h,_,_=>h.elim
 | _::_,_::_,[],_,_,h,_,_=>h.elim
theorem law_calls{f:FuncId}{fn:Func}{s:ChangeSpec}{apart fresh handsOn again:Bool}{args:Array Value}{avs:List AV}{ds:List (DataW H)}{before:List MemPlace}{tb:TypeId}
  (hl:laidOutB P=true)(hrd:(fn.params.toList.all fun t=>P.readableRec t&&decide (t<P.types.size))=true)(hrt:fn.resultTypes=#[tb])(htb:P.underlying tb=some .bool)(hvars:s.vars=[])
  (hs:s.fn H (ds++[])={ results:=[.lit (.bool true)],args:=ds })
  (h:PureIs P f avs (.sc (.bool true)))(hi:Imms (Live w) w args.toList avs)(hW:DataW.Whole enc P fn.params.toList s.vars apart w args.toList ds [] before)(hgl:Globs (Live w) w:=by exact fun g vs hg=>by cases hg):
  Calls P f args w fun e W'=>∃v,e=.returned v∧s.post enc P fn apart fresh handsOn again w args v W':=by
 have hW':=hW;obtain⟨p,q,hA,hV,rfl,hfz,hnd⟩:=hW;rw[hvars]at hV;obtain⟨_,rfl⟩:=trodVars_none hV;have hc:=callsIn_wide.1 (h.2 (Live w) w args.toList ⟨fun _ _ h=>h,hgl⟩ hi);rw[Array.toArray_toList]at hc;refine hc.mono fun e W' ⟨v,F',he,hr,g⟩=>?_;have hv:v=.bool true:=by cases hr;rfl
 subst hv;have hb:=Grown.below g;refine⟨_,he,post_of_same (pa:=p) (pv:=[]) (by simpa using hW') (fun _ _ _=>?_) (fun sp hsp=>?_) (fun _ _=>?_) (by simp) (hb.frame _) g.kept.froz ?_⟩
 ·rw[hs,hrt];exact trodAll_mk1 (shut_bool htb true)
 ·rw[hs];refine trodAll_stays hl hb (fun t ht=>?_) hA (fun x hx=>hW'.lt x (by simpa using hx)) fun x hx=>hsp x (by simpa using hx);have:=List.all_eq_true.1 hrd t ht;simpa using this
 ·rw[hvars,hs];exact rfl
 ·exact ok_one hrt rfl (okWide_bool_mk htb true)
end
structure Smp (t:Mach) (nx:Nat→Nat→Nat×Int) (d:Nat→Nat) (A:List Nat):Prop where
 fit:∀x i:Nat,(i:Int)<t.ins→knownE (eT t x i)=true→(eT t x i).1≠ -1∧(eT t x i).2=(nx (d x) i).2∧d (eT t x i).1.toNat=(nx (d x) i).1
 lt:∀a∈A,a<t.rows.length
 zero:A[0]?=some 0
 size:A.length≤64
 nodup:(A.map d).Nodup
 all:∀x,x<t.rows.length→d x∈A.map d
 least:∀a∈A,∀x,x<t.rows.length→d x=d a→a≤x
 sorted:A.Pairwise (·<·)
 step:∀a∈A,∀i:Nat,(i:Int)<t.ins→(eT t a i).1≠ -1
 mono:∀a x i:Nat,a≤x→x<t.rows.length→(i:Int)<t.ins→(eT t a i).1≠ -1→(eT t x i).1≠ -1→(eT t a i).1≤(eT t x i).1
 parent:∀u∈A,u≠0→∃a∈A,∃i:Nat,(i:Int)<t.ins∧a<u∧(eT t a i).1=(u:Int)
 sep:∀a∈A,∀b∈A,∀i:Nat,(i:Int)<t.ins→d a≠d (eT t b i).1.toNat→∀R:Nat→Nat→Prop,R a (eT t b i).1.toNat→Clash t R
variable {t:Mach} {nx:Nat→Nat→Nat×Int} {d:Nat→Nat} {A:List Nat}
theorem Smp.cong(h:Smp t nx d A){R:Nat→Nat→Prop}(hR:∀x y,R x y→d x=d y){x y:Nat}(hc:Cong t R x y):d x=d y:=by
 induction hc with
 | base h=>exact hR _ _ h
 | refl x=>rfl
 | symm _ ih=>exact ih.symm
 | trans _ _ ih1 ih2=>exact ih1.trans ih2
 | step _ hi hb ih=>
   obtain⟨b1,b2⟩:=bothE_iff.1 hb;rw[(h.fit _ _ hi (knownE_to b1)).2.2,(h.fit _ _ hi (knownE_to b2)).2.2,ih]
theorem Smp.noclash(h:Smp t nx d A){R:Nat→Nat→Prop}(hR:∀x y,R x y→d x=d y):¬Clash t R:=by
 rintro⟨x,y,i,h1,hi,h2⟩;obtain⟨k1,k2⟩:=clashE_known h2;have e:=h.cong hR h1;obtain⟨a1,a2,_⟩:=h.fit x i hi k1;obtain⟨b1,b2,_⟩:=h.fit y i hi k2;have:clashE (eT t x i) (eT t y i)=false:=(clashE_iff k1 k2).2 ⟨⟨fun e=>absurd e a1,fun e=>absurd e b1⟩,fun _=>by rw[a2,b2,e]⟩;rw[this]at h2;cases h2
theorem pairR_ker{c:List Nat}(hk:∀x y,pU c x=pU c y→d x=d y){a b:Nat}(hab:d a=d b):∀x y,pairR c a b x y→d x=d y:=by
 rintro x y (h|⟨rfl,rfl⟩)
 ·exact hk x y h
 ·exact hab
theorem nodup_idx{l:List Nat}(h:l.Nodup){i j:Nat}(hi:i<l.length)(hj:j<l.length)(e:l[i]=l[j]):i=j:=by
 rcases Nat.lt_trichotomy i j with h1|h1|h1
 ·exact absurd e (List.pairwise_iff_getElem.1 h i j hi hj h1)
 ·exact h1
 ·exact absurd e.symm (List.pairwise_iff_getElem.1 h j i hj hi h1)
def smpRows(t:Mach)(nx:Nat→Nat→Nat×Int)(d:Nat→Nat)(A:List Nat):List (List (Int×Int)):=
 (A.map d).map fun s=>(List.range t.ins.toNat).map fun i=>((((A.map d).idxOf (nx s i).1:Nat):Int),(nx s i).2)
theorem Smp.red_ne(h:Smp t nx d A){c:List Nat}(hk:∀x y,pU c x=pU c y→d x=d y){k x:Nat}(hx:∀r∈A.take k,d x≠d r):isRed c (A.take k) (pU c x)=false:=by
 cases hr:isRed c (A.take k) (pU c x)with
 | false=>rfl
 | true=>
   obtain⟨r,h1,h2⟩:=isRed_iff.1 hr;exact absurd (hk r x h2).symm (hx r h1)
theorem Smp.take_ne(h:Smp t nx d A){k:Nat}(hk:k<A.length):∀r∈A.take k,d A[k]≠d r:=fun r hr e=>by
 rw[List.mem_take_iff_getElem]at hr;obtain⟨j,hj,rfl⟩:=hr;have:=nodup_idx h.nodup (i:=k) (j:=j) (by simpa using hk) (by simp;omega) (by simpa using e);omega
theorem Smp.cand(v:TV t)(h:Smp t nx d A){c:List Nat}(hk:∀x y,pU c x=pU c y→d x=d y){k:Nat}(hk1:1≤k)(hkl:k<A.length):A[k]∈candC t c (A.take k):=by
 have hin:=v.ins;have hne:A[k]≠0:=fun e=>by
  have h0:0<A.length:=by omega
  have e0:A[0]=0:=by
   have:=h.zero;rw[List.getElem?_eq_getElem h0]at this;exact Option.some.inj this
  have:=List.pairwise_iff_getElem.1 h.sorted 0 k h0 hkl (by omega);omega
 obtain⟨a,ha,i,hi,hlt,he⟩:=h.parent _ (List.getElem_mem hkl) hne;obtain⟨j,hj,rfl⟩:=List.mem_iff_getElem.1 ha;have hjk:j<k:=by
  refine Nat.lt_of_not_le fun hle=>?_;rcases Nat.lt_or_ge k j with h1|h1
  ·have:=List.pairwise_iff_getElem.1 h.sorted k j hkl hj h1;omega
  ·obtain rfl:j=k:=by omega
   omega
 have hne1:(eT t A[j] i).1≠ -1:=by rw[he];omega
 refine mem_candC.2 ⟨A[j],i,eT_in hne1,by omega,isRed_iff.2 ⟨A[j],?_,rfl⟩,hne1,?_,by rw[he,Int.toNat_natCast]⟩
 ·rw[List.mem_take_iff_getElem];exact⟨j,by omega,rfl⟩
 ·exact h.red_ne hk (h.take_ne hkl)
theorem Smp.done(v:TV t)(h:Smp t nx d A){c:List Nat}(hc:IsF t c)(hk:∀x y,pU c x=pU c y→d x=d y)(hn:nextC t c A<0):machC t c A=smpRows t nx d A:=by
 have hin:=v.ins;have hno:∀m,m∉candC t c A:=fun m hm=>by
  rcases nextC_min t c A with⟨_,h2⟩|⟨j,h2,_⟩
  ·exact h2 m hm
  ·omega
 unfold machC smpRows;rw[List.map_map];apply List.ext_getElem
 ·simp
 intro s h1 h2;have hs:s<A.length:=by simpa using h1
 have ha:=List.getElem_mem hs;rw[List.getElem_map,List.getElem_map,List.getElem_range];simp only[Function.comp];refine List.map_congr_left fun i hi=>?_;have hi:=List.mem_range.1 hi;have hiI:(i:Int)<t.ins:=by omega
 unfold edgeR;rw[List.getElem?_eq_getElem hs];simp only[Option.getD_some];cases hfd:(List.range t.rows.length).reverse.find? fun n=>decide (pU c n=pU c A[s])&&decide ((eT t n i).1≠ -1)with
 | none=>
   rw[List.find?_eq_none]at hfd;have hst:=h.step _ ha i hiI;exact absurd (by simp[hst]) (hfd A[s] (List.mem_reverse.2 (List.mem_range.2 (h.lt _ ha))))
 | some n=>
   have k1:=List.find?_some hfd;simp only[Bool.and_eq_true,decide_eq_true_eq]at k1;obtain⟨k3,k4⟩:=k1;have hnN:=eT_in k4;obtain⟨f1,f2,f3⟩:=h.fit n i hiI (knownE_to k4);have hd:=hk _ _ k3;rw[hd]at f2 f3;have hto:=v.to hnN hiI k4;simp only;rw[f2];congr 1;cases hr:isRed c A (pU c (eT t n i).1.toNat)with
   | false=>exact absurd (mem_candC.2 ⟨n,i,hnN,by omega,isRed_iff.2 ⟨A[s],ha,k3.symm⟩,k4,hr,rfl⟩) (hno _)
   | true=>
     obtain⟨r,r1,r2⟩:=isRed_iff.1 hr;obtain⟨j,hj,rfl⟩:=List.mem_iff_getElem.1 r1;have hdr:=hk _ _ r2;rw[f3]at hdr;rw[placeC_at (List.getElem?_eq_getElem hj) r2 fun j' r' hj' hr' e=>by
      obtain⟨hl',rfl⟩:=List.getElem?_eq_some_iff.1 hr';have e2:=hk _ _ (e.trans r2.symm);have:=nodup_idx h.nodup (i:=j') (j:=j) (by simpa using hl') (by simpa using hj) (by simpa using e2);omega]
     congr 1;rw[←hdr];have hjm:j<(A.map d).length:=by simpa using hj
     have e3:d A[j]=(A.map d)[j]:=by simp
     rw[e3];have hlt:=List.idxOf_lt_length_of_mem (List.getElem_mem hjm);exact nodup_idx h.nodup hjm hlt (by rw[List.getElem_idxOf hlt])
theorem Smp.merge(v:TV t)(h:Smp t nx d A):∀(f:Nat) (c:List Nat) (k:Nat),IsF t c→RedOk t c (A.take k)→(∀x y,pU c x=pU c y→d x=d y)→1≤k→k≤A.length→sumR c t.rows.length+(65-k)<f→
  mergeC t f c (A.take k)=some (smpRows t nx d A)
 | 0,c,k,_,_,_,_,_,hf=>by omega
 | f+1,c,k,hc,hr,hk,h1,hkl,hf=>by
   have hin:=v.ins;have hsz:=h.size;have hl:(A.take k).length=k:=by rw[List.length_take];omega
   rw[mergeC,hl,if_neg (by omega)];by_cases hn:nextC t c (A.take k)<0
   ·rw[if_pos hn];have hkA:k=A.length:=by
     refine Nat.le_antisymm hkl (Nat.le_of_not_lt fun hlt=>?_);have:=h.cand v hk h1 hlt;rcases nextC_min t c (A.take k)with⟨_,h2⟩|⟨j,h2,_⟩
     ·exact h2 _ this
     ·omega
    rw[hkA,List.take_length]at hn⊢;rw[h.done v hc hk hn]
   rw[if_neg hn];obtain⟨n1,n2,n3⟩:=next_node v hn;obtain⟨n,hne⟩:∃n,n=(nextC t c (A.take k)).toNat:=⟨_,rfl⟩;have hmin:n∈candC t c (A.take k)∧∀m∈candC t c (A.take k),n≤m:=by
    rcases nextC_min t c (A.take k)with⟨h2,_⟩|⟨j,h2,h3,h4⟩
    ·omega
    ·obtain rfl:n=j:=by omega
     exact⟨h3,h4⟩
   rw[←hne]at n1 n2⊢;have hacc:∃a∈A.take k,∃i:Nat,(i:Int)<t.ins∧(eT t a i).1=(n:Int):=by
    obtain⟨x,i,q1,q2,q3,q4,q5,q6⟩:=mem_candC.1 hmin.1;have hiI:(i:Int)<t.ins:=by omega
    obtain⟨r,r1,r2⟩:=isRed_iff.1 q3;have hrA:r∈A:=List.mem_of_mem_take r1;have hst:=h.step r hrA i hiI;have hle:=h.least r hrA x q1 (hk _ _ r2).symm;have hmo:=h.mono r x i hle q1 hiI hst q4;have htr:=v.to (h.lt r hrA) hiI hst;have htx:=v.to q1 hiI q4;have hcl:=(hc.clo r x i r2 hiI).2 (bothE_iff.2 ⟨hst,q4⟩);have hcand:(eT t r i).1.toNat∈candC t c (A.take k):=mem_candC.2 ⟨r,i,h.lt r hrA,by omega,isRed_iff.2 ⟨r,r1,rfl⟩,hst,by rw[hcl,←q6];exact q5,rfl⟩;have:=hmin.2 _ hcand;exact⟨r,r1,i,hiI,by omega⟩
   obtain⟨b,hb,i,hiI,hbi⟩:=hacc;have hbA:b∈A:=List.mem_of_mem_take hb;have hsep:∀r∈A.take k,d r≠d n→foldC t c r n=none:=fun r hr hne=>by
    have hrA:=List.mem_of_mem_take hr;refine foldC_none v hc (h.lt r hrA) n1 (h.sep r hrA b hbA i hiI (by rw[hbi,Int.toNat_natCast];exact hne) _ ?_);rw[hbi,Int.toNat_natCast];exact .inr ⟨rfl,rfl⟩
   cases hd:absorbC t c (A.take k) n with
   | some c'=>
     simp only;obtain⟨r,hr1,hr2⟩:=absorb_inv hd;have hdr:d r=d n:=Classical.byContradiction fun e=>by rw[hsep r hr1 e]at hr2;cases hr2
     obtain⟨a1,a2⟩:=hr.absorb v hc n1 hd;have hs:=absorb_sum v hr hc n1 n2 hd;have hsp:=foldC_spec v hc (h.lt r (List.mem_of_mem_take hr1)) n1;rw[hr2]at hsp;exact h.merge v f c' k a2 a1 (fun x y e=>h.cong (pairR_ker hk hdr) ((hsp.2.1 x y).1 e)) h1 hkl (by omega)
   | none=>
     simp only;have hno:=absorb_inv_none hd;have hnr:∀r∈A.take k,d n≠d r:=fun r hr e=>by
      have hsp:=foldC_spec v hc (h.lt r (List.mem_of_mem_take hr)) n1;rw[hno r hr]at hsp;exact h.noclash (pairR_ker hk e.symm) hsp
     have hdn:=h.all n n1;obtain⟨a,ha,hda⟩:=List.mem_map.1 hdn;obtain⟨j,hj,rfl⟩:=List.mem_iff_getElem.1 ha;have hjk:k≤j:=Nat.le_of_not_lt fun hlt=>hnr A[j] (by rw[List.mem_take_iff_getElem];exact⟨j,by omega,rfl⟩) hda.symm;have hkA:k<A.length:=by omega
     have hu:=hmin.2 _ (h.cand v hk h1 hkA);have hle:=h.least _ ha n n1 hda.symm;have hkj:A[k]≤A[j]:=by
      rcases Nat.lt_or_ge k j with h2|h2
      ·exact Nat.le_of_lt (List.pairwise_iff_getElem.1 h.sorted k j hkA hj h2)
      ·obtain rfl:j=k:=by omega
       exact Nat.le_refl _
     have en:n=A[k]:=by omega
     have et:A.take k++[n]=A.take (k+1):=by rw[en];exact(List.take_succ_eq_append_getElem hkA).symm
     have hp:=hr.push v hc n1 hd;rw[et]at hp⊢;exact h.merge v f c (k+1) hc hp hk (by omega) (by omega) (by omega)
theorem Smp.mergeT(v:TV t)(h:Smp t nx d A):Avl.mergeT t=some (smpRows t nx d A):=by
 have hs:=sumR_le (upOk_range t.rows.length) t.rows.length;have hA:1≤A.length:=by
  have:=h.zero;exact Nat.succ_le_of_lt (List.getElem?_eq_some_iff.1 this).1
 have e:A.take 1=[0]:=by
  have h0:=h.zero;obtain⟨h1,h2⟩:=List.getElem?_eq_some_iff.1 h0;cases A with
  | nil=>cases h1
  | cons a A=>simp at h2;simp[h2]
 unfold Avl.mergeT;rw[←e];refine h.merge v _ _ 1 (isF_alone t) (by rw[e];exact redOk_zero v) (fun x y hxy=>?_) (Nat.le_refl _) hA (by omega);have hp:∀k,pU (List.range t.rows.length) k=k:=fun k=>by
  unfold pU;by_cases h:k<t.rows.length
  ·rw[List.getElem?_range h];rfl
  ·rw[List.getElem?_eq_none (by simp;omega)];rfl
 rw[hp,hp]at hxy;rw[hxy]
end Go.Avl
