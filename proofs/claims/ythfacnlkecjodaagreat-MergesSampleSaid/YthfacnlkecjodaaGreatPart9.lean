/-
  Lemmas.
-/
import Derived.Test.YthfacnlkecjodaaGreatPart8
set_option linter.unusedSimpArgs false
set_option linter.unusedVariables false
set_option linter.unnecessarySimpa false
set_option linter.deprecated false
namespace Go.Avl
open Go Go.Proofs.Tryz
set_option maxRecDepth 10000
theorem set_mid{α:Type}(a b:List α)(x y:α):(a++x::b).set a.length y=a++y::b:=by simp
def findIdxI(p:Int→Bool):List Int→Int→Int
 | [],_=> -1
 | e::es,i=>if p e=true then i else findIdxI p es (i+1)
theorem findIdxI_any(p:Int→Bool):∀(es:List Int) (i:Int),0≤i→decide (0≤findIdxI p es i)=es.any p
 | [],i,_=>by simp[findIdxI]
 | e::es,i,h=>by
   unfold findIdxI;split
   ·rename_i hp;simp[hp,h]
   ·rename_i hp;rw[findIdxI_any p es (i+1) (by omega)];simp[hp]
theorem indexInt_is(nl:Bool)(xs:List Int)(c:Cp)(f:FuncId)(cs:List AV)(hcs:AV.norefs cs=true)(p:Int→Bool)(hp:∀e∈xs,PureIs prog f (.sc (.int .i64 e)::cs) (.sc (.bool (p e))))(hl:xs.length<1000000):
  PureIs prog 87 [.sl nl (xs.map intC) c,.fn f cs] (.sc (.int .i64 (findIdxI p xs 0))):=by
 refine PureIs.of1 2 [4,5,7,8,9,16] func87 ntmps87 results87 fun _=>?_;refine EvC.a ?_;refine EvC.seq ?_;refine EvC.a ?_;refine EvC.block ?_;refine EvC.loopS (σ:=Nat) (fun i=>⟨[(0,.sl nl (xs.map intC) c),(1,.fn f cs),(7,.sc (.int .i64 xs.length)),(8,.sc (.int .i64 i))],[],[],0⟩) (fun i=>xs.length-i) (fun i=>i≤xs.length∧findIdxI p xs 0=findIdxI p (xs.drop i) i) [0,1,7,8] 0 ?_ ?_
 ·refine⟨[],0,rfl,(by simp only[go_sem,hcs]<;>rfl),Nat.zero_le _,by simp⟩
 rintro i ⟨h1,h2⟩;refine EvC.a ?_;refine EvC.seq ?_;refine EvC.cd (fun hc=>?_) (fun hc=>?_);rotate_left
 ·refine EvC.exit ?_;have hi:¬i<xs.length:=by simpa using hc
  refine EvC.a ?_;refine EvC.rz ?_;simp only[go_sem];rw[h2,List.drop_of_length_le (by omega)];rfl
 have hi:i<xs.length:=by simpa using hc
 have he:xs[i]?=some xs[i]:=List.getElem?_eq_getElem hi;have hd:xs.drop i=xs[i]::xs.drop (i+1):=List.drop_eq_getElem_cons hi;have hm:xs[i]∈xs:=List.getElem_mem hi;generalize xs[i]=e at he hd hm;refine EvC.skip ?_;refine EvC.seq ?_;refine EvC.block ?_;refine EvC.a ?_;apply EvC.s1
 ·apply Tr.run
  ·simp only[go_sem,he,intC]<;>rfl
  ·simp
  apply Tr.cons
  ·exact .call rfl rfl (by simp only[go_sem]<;>rfl) (by simp only[go_sem]<;>rfl) (by simp only[go_sem]<;>rfl) (by simp only[go_sem,hcs]<;>rfl) (by simp only[go_sem]<;>rfl) (hp e hm)
  apply Tr.done
  ·simp only[go_sem]<;>rfl
  ·simp
 refine EvC.cd (fun hc=>?_) (fun hc=>?_)
 ·refine EvC.a ?_;refine EvC.rz ?_;simp only[go_sem];rw[h2,hd,findIdxI,if_pos hc]
 refine EvC.skip ?_;refine EvC.bi ?_;refine⟨[],i+1,rfl,(by simp only[go_sem,hcs]<;>rfl),⟨by omega,?_⟩,by omega⟩;rw[h2,hd,findIdxI,if_neg (by simp[hc])];rfl
theorem containsInt_is(nl:Bool)(xs:List Int)(c:Cp)(f:FuncId)(cs:List AV)(hcs:AV.norefs cs=true)(p:Int→Bool)(hp:∀e∈xs,PureIs prog f (.sc (.int .i64 e)::cs) (.sc (.bool (p e))))(hl:xs.length<1000000):
  PureIs prog 58 [.sl nl (xs.map intC) c,.fn f cs] (.sc (.bool (xs.any p))):=by
 refine PureIs.of1 2 [4] func58 ntmps58 results58 fun _=>?_;refine EvC.a ?_;apply EvC.s1
 ·apply Tr.run
  ·simp only[go_sem]<;>rfl
  ·simp
  apply Tr.cons
  ·exact .call rfl rfl (by simp only[go_sem]<;>rfl) (by simp only[go_sem]<;>rfl) (by simp only[go_sem]<;>rfl) (by simp only[go_sem,hcs]<;>rfl) (by simp only[go_sem]<;>rfl) (indexInt_is _ _ _ _ _ hcs _ hp hl)
  apply Tr.done
  ·simp only[go_sem]<;>rfl
  ·simp
 refine EvC.rz ?_;simp only[go_sem];rw[findIdxI_any _ _ _ (Int.le_refl 0)]
theorem wcheck1_is(x n:Int):PureIs prog 88 [.sc (.int .i64 x),.ia [.sc (.int .i64 n)]] (.sc (.bool (decide (x<0)||decide (n≤x)))):=by
 refine PureIs.of1 2 [3] func88 ntmps88 results88 fun _=>?_;refine EvC.a ?_;refine EvC.g ?_;refine EvC.rz ?_;simp only[go_sem];by_cases h:x<0<;>simp[h]
def wordErr(n:Int)(w:List Int):Int:=if 16<n∨256<w.length then 3 else if n<1∨w.any (fun c=>decide (c<0)||decide (n≤c))=true then 1 else 0
theorem wordCheck_is(nl:Bool)(w:List Int)(c:Cp)(n:Int)(hl:w.length<1000000):PureIs prog 61 [.sl nl (w.map intC) c,.sc (.int .i64 n)] (.sc (.int .i64 (wordErr n w))):=by
 refine PureIs.of1 2 [3,4,11,18] func61 ntmps61 results61 fun _=>?_;refine EvC.a ?_;refine EvC.z 0 ?_;refine EvC.seq ?_;refine EvC.g ?_;refine EvC.cd (fun hc=>?_) (fun hc=>?_)
 ·have h:16<n∨256<w.length:=by by_cases h1:16<n<;>simp_all;omega
  refine EvC.a ?_;refine EvC.rz ?_;simp only[go_sem];rw[wordErr,if_pos h]
 have hn:¬(16<n∨256<w.length):=by by_cases h1:16<n<;>simp_all;omega
 refine EvC.skip ?_;refine EvC.seq ?_;by_cases h1:n<1
 ·have h1':decide (n<1)=true:=by simp[h1]
  apply EvC.s1
  ·apply Tr.run
   ·simp only[go_sem]<;>rfl
   ·simp
   apply Tr.cons
   ·exact .skipv (.sc (.bool false)) rfl rfl (by simp only[go_sem,h1']<;>rfl) (by simp only[go_sem]<;>rfl)
   apply Tr.done
   ·simp only[go_sem,h1']<;>rfl
   ·simp
  refine EvC.ct ?_;refine EvC.a ?_;refine EvC.rz ?_;simp only[go_sem];rw[wordErr,if_neg hn,if_pos (.inl h1)]
 have h1':decide (n<1)=false:=by simp[h1]
 refine EvC.k1 ?_ (h1:=by simp only[go_sem,h1']<;>rfl) (c1:=.cg (containsInt_is nl w c 88 [.ia [.sc (.int .i64 n)]] rfl (fun c=>decide (c<0)||decide (n≤c)) (fun e _=>wcheck1_is e n) hl)) (h2:=by simp only[go_sem,h1']<;>rfl);refine EvC.cd (fun hc=>?_) (fun hc=>?_)
 ·refine EvC.a ?_;refine EvC.rz ?_;simp only[go_sem];rw[wordErr,if_neg hn,if_pos (.inr hc)]
 refine EvC.skip ?_;refine EvC.a ?_;refine EvC.rz ?_;simp only[go_sem];rw[wordErr,if_neg hn,if_neg (by simp only[not_or];exact⟨h1,by simpa using hc⟩)]
def stateErr(m:Mach)(l:List Int):Int:=if checkM m≠0 then checkM m else if l.any (fun x=>decide (x<0)||decide ((m.rows.length:Int)≤x))=true then 1 else 0
theorem mstate_is(m:Mach)(hr:∀r∈m.rows,r.2.length<1000000)(s:Int):PureIs prog 60 [.ag m.cells,.sc (.int .i64 s)] (.sc (.int .i64 (stateErr m [s]))):=by
 refine PureIs.of1 3 [4,5,9,19] func60 ntmps60 results60 fun _=>?_;refine EvC.a ?_ (by simp only[go_sem,Mach.cells]<;>rfl);refine EvC.z 0 ?_;refine EvC.seq ?_;refine EvC.k1 ?_ (h1:=by simp only[go_sem,Mach.cells]<;>rfl) (c1:=.ca (check_is m hr));refine EvC.a ?_;refine EvC.cd (fun hc=>?_) (fun hc=>?_)
 ·refine EvC.a ?_;refine EvC.rz ?_;simp only[go_sem];rw[stateErr,if_pos (by simpa using hc)]
 have hck:¬checkM m≠0:=by simpa using hc
 refine EvC.skip ?_;refine EvC.seq ?_;refine EvC.g ?_ (h:=by simp only[go_sem,Mach.cells]<;>rfl);refine EvC.cd (fun hc=>?_) (fun hc=>?_)
 ·have h:s<0∨(m.rows.length:Int)≤s:=by by_cases h1:s<0<;>simp_all
  refine EvC.a ?_;refine EvC.rz ?_;simp only[go_sem];rw[stateErr,if_neg hck,if_pos (by simpa using h)]
 have h:¬(s<0∨(m.rows.length:Int)≤s):=by by_cases h1:s<0<;>simp_all
 refine EvC.skip ?_;refine EvC.a ?_;refine EvC.rz ?_;simp only[go_sem];rw[stateErr,if_neg hck,if_neg (by simpa using h)]
def afterR(m:Mach):Int→List Int→Int
 | s,[]=>s
 | s,a::w=>afterR m (stepR m s a).1 w
theorem run75_is{m:Mach}(hv:Valid m)(s:Int)(hs:s<m.rows.length)(hs0: -1≤s)(nl:Bool)(w:List Int)(c:Cp)(hw:∀a∈w,0≤a∧a<m.ins)(hl:w.length<1000000):
  PureIs prog 62 [.ag m.cells,.sc (.int .i64 s),.sl nl (w.map intC) c] (.tu [.sl false ((runR m s w).map intC) .unk,.sc (.int .i64 (afterR m s w))]):=by
 refine PureIs.of1 4 [6,7,8,9,10,11,15,16,17,18,24] func62 ntmps62 results62 fun _=>?_;refine EvC.a ?_ (by simp only[go_sem,Mach.cells]<;>rfl);refine EvC.z 0 ?_;refine EvC.a ?_ (hok:=by simp[room_eq];omega);refine EvC.seq ?_;refine EvC.a ?_;refine EvC.block ?_;have hz:∀n:Nat,List.replicate n [AV.sc (.int .i64 0)]=(List.replicate n (0:Int)).map intC:=fun n=>by simp[intC]
 refine EvC.loopS (σ:=Nat×Int×List Int×List Int) (fun g=>⟨[(1,.sc (.int .i64 g.2.1)),(3,.ia m.cells),(8,.tl 0 w.length false),(15,.sl nl (w.map intC) c),(16,.sc (.int .i64 w.length)),(17,.sc (.int .i64 g.1))],[],[(0,.arr 1 (g.2.2.2.map intC) false)],1⟩) (fun g=>w.length-g.1)
  (fun g=>g.1≤w.length∧g.2.2.1.length=g.1∧g.2.1<m.rows.length∧ -1≤g.2.1∧runR m s w=g.2.2.1++runR m g.2.1 (w.drop g.1)∧afterR m s w=afterR m g.2.1 (w.drop g.1)∧g.2.2.2=g.2.2.1++List.replicate (w.length-g.1) 0) [1,3,8,15,16,17] 1 ?_ ?_
 ·refine⟨[(5,0)],(0,s,[],List.replicate w.length 0),rfl,(by simp only[go_sem,Mach.cells,hz,Int.toNat_natCast]<;>rfl),Nat.zero_le _,rfl,hs,hs0,rfl,rfl,by simp⟩
 rintro⟨i,t,os,out⟩ ⟨h1,h2,h3,h4,h5,h6,ho⟩;simp only at h1 h2 h3 h4 h5 h6 ho;have hlen:out.length=w.length:=by rw[ho];simp;omega
 refine EvC.a ?_;refine EvC.seq ?_;refine EvC.cd (fun hc=>?_) (fun hc=>?_);rotate_left
 ·refine EvC.exit ?_
  obtain rfl:i=w.length:=by have:¬i<w.length:=by simpa using hc
                            omega
  rw[List.drop_length]at h5 h6;refine EvC.frz 0 (by simp only[go_sem,hlen,List.length_map]<;>rfl) ?_;refine EvC.a ?_;refine EvC.rz ?_;simp only[go_sem];rw[h5,h6,ho];simp[runR,afterR]
 have hi:i<w.length:=by simpa using hc
 have he:w[i]?=some w[i]:=List.getElem?_eq_getElem hi;have hd:w.drop i=w[i]::w.drop (i+1):=List.drop_eq_getElem_cons hi;have ha:=hw _ (List.getElem_mem hi);generalize w[i]=a at he hd ha;rw[hd,runR]at h5;rw[hd,afterR]at h6;refine EvC.skip ?_;refine EvC.seq ?_;refine EvC.block ?_;refine EvC.a ?_ (by simp only[go_sem,he,intC]<;>rfl);refine EvC.k1 ?_ (c1:=.ca none_is);refine EvC.seq ?_;refine EvC.a ?_;have hr:w.length-i=(w.length-(i+1))+1:=by omega
 have hset':∀y:Int,out.set i y=(os++[y])++List.replicate (w.length-(i+1)) 0:=fun y=>by
  rw[ho,hr,List.replicate_succ,←h2,set_mid];simp
 have hset:∀y:Int,(out.map intC).set i [.sc (.int .i64 y)]=(out.set i y).map intC:=fun y=>by
  rw[show [AV.sc (.int .i64 y)]=intC y from rfl,←List.map_set]
 have hge:out[i]?=some 0:=by
  rw[ho,List.getElem?_append_right (by omega),hr,h2];simp
 have hlt:=stepR_lt hv h3 ha;have hge1: -1≤(stepR m t a).1:=by
  by_cases h0:0≤t
  ·obtain⟨r,e,_,_,k3,k4⟩:=stepR_get hv h0 h3 ha;rw[k3];unfold fitsR at k4;simp at k4;omega
  ·rw[stepR,if_pos (by omega)];simp
 refine EvC.cd (fun hc=>?_) (fun hc=>?_)
 ·have hc:¬t=-1:=by simpa using hc
  obtain⟨r,e,k1,k2,k3,k4⟩:=stepR_get hv (show 0≤t by omega) h3 ha;have htl:t.toNat<m.rows.length:=by omega
  refine EvC.b ?_ (by simp only[go_sem,Mach.cells,k1,rowC,k2,edgeC]<;>rfl) (by simp;omega);refine EvC.dL mixed ?_ (h:=by simp only[go_sem,hset,hge,intC]<;>rfl) (hok:=by simp[hlen];omega);refine EvC.bi ?_;rw[k3]at h5 h6 hlt hge1;refine⟨[(0,0)],(i+1,e.1,os++[e.2],out.set i e.2),rfl,(by simp only[go_sem,Mach.cells]<;>rfl),⟨by simp only;omega,by simp[h2],hlt,hge1,?_,h6,hset' _⟩,by simp only;omega⟩;simp only[h5,List.append_assoc];rfl
 have hc:t=-1:=by simpa using hc
 refine EvC.skip ?_;refine EvC.dL mixed ?_ (h:=by simp only[go_sem,hset,hge,intC]<;>rfl) (hok:=by simp[hlen];omega);refine EvC.bi ?_;have k3:stepR m t a=(-1,-1):=by rw[stepR,if_pos (by omega)]
 rw[k3]at h5 h6 hlt hge1;refine⟨[(0,0)],(i+1,-1,os++[-1],out.set i (-1)),rfl,(by simp only[go_sem,Mach.cells]<;>rfl),⟨by simp only;omega,by simp[h2],hlt,hge1,?_,h6,hset' _⟩,by simp only;omega⟩;simp only[h5,List.append_assoc];rfl
theorem wordErr_zero{n:Int}{w:List Int}(h:wordErr n w=0):∀a∈w,0≤a∧a<n:=by
 unfold wordErr at h;split at h
 ·cases h
 ·split at h
  ·cases h
  ·rename_i h2;simp only[not_or,Bool.not_eq_true,List.any_eq_false]at h2;intro a ha;have:=h2.2 a ha;simp at this;omega
theorem checkM_of{m:Mach}(hv:Valid m):checkM m=0:=by
 have h1:=hv.ins;have h2:=hv.outs;have h3:=hv.rows;have h4:m.rows.all (rowOk m)=true:=by
  rw[List.all_eq_true];intro r hr;obtain⟨k1,k2⟩:=hv.row r hr;simp only[rowOk,Bool.and_eq_true,decide_eq_true_eq,Bool.not_eq_true',List.any_eq_false];exact⟨k1,fun e he=>by simp[k2 e he]⟩
 rw[checkM,if_neg (by omega),if_neg (by omega),if_pos h4]
theorem stateErr_of{m:Mach}{l:List Int}(hv:Valid m)(h:∀s∈l,0≤s∧s<m.rows.length):stateErr m l=0:=by
 have h2:¬l.any (fun x=>decide (x<0)||decide ((m.rows.length:Int)≤x))=true:=by
  simp only[Bool.not_eq_true,List.any_eq_false];exact fun s hs=>by have:=h s hs;simp;omega
 rw[stateErr,if_neg (by simp[checkM_of hv]),if_neg h2]
theorem Valid.small{m:Mach}(hv:Valid m):∀r∈m.rows,r.2.length<1000000:=fun r hr=>by
 have:=(hv.row r hr).1;have:=hv.ins;omega
theorem run52_is{m:Mach}(hv:Valid m)(s:Int)(hs:0≤s∧s<m.rows.length)(nl:Bool)(w:List Int)(c:Cp)(hw:wordErr m.ins w=0)(hl:w.length<1000000):
  PureIs prog 24 [.ag m.cells,.sc (.int .i64 s),.sl nl (w.map intC) c] (.tu [.sl false ((runR m s w).map intC) .unk,.sc (.int .i64 0)]):=by
 refine PureIs.of1 4 [6,7,8,9,10,16,23] func24 ntmps24 results24 fun _=>?_;have h1:stateErr m [s]=0:=stateErr_of hv (by simpa using hs);refine EvC.a ?_ (by simp only[go_sem,Mach.cells]<;>rfl);refine EvC.z 0 ?_;refine EvC.seq ?_;refine EvC.k1 ?_ (h1:=by simp only[go_sem,Mach.cells]<;>rfl) (c1:=.ca (mstate_is m hv.small s)) (h2:=by simp only[go_sem,h1]<;>rfl);refine EvC.a ?_;refine EvC.cs ?_;refine EvC.seq ?_;refine EvC.k1 ?_ (h1:=by simp only[go_sem,Mach.cells]<;>rfl) (c1:=.ca (wordCheck_is nl w c m.ins hl)) (h2:=by simp only[go_sem,hw]<;>rfl);refine EvC.a ?_;refine EvC.cs ?_;refine EvC.k1 ?_ (h1:=by simp only[go_sem,Mach.cells]<;>rfl) (c1:=.ca (run75_is hv s hs.2 (by omega) nl w c (wordErr_zero hw) hl));refine EvC.a ?_;refine EvC.rz ?_;simp only[go_sem]
theorem list_step{α:Type}{a:List α}{i:Nat}{x:α}(h:a[i]?=some x):a.drop i=x::a.drop (i+1):=by
 obtain⟨hi,he⟩:=List.getElem?_eq_some_iff.1 h;rw[List.drop_eq_getElem_cons hi,he]
theorem clipI_is(nl:Bool)(es:List (List AV))(c:Cp)(h:(es.all fun y=>decide (y.length=1))=true):PureIs prog 26 [.sl nl es c] (.sl nl es .full):=by
 refine PureIs.of1 3 [] func26 ntmps26 results26 fun _=>?_;refine EvC.seq (EvC.rg (by simp only[go_sem]<;>rfl) rfl ?_);refine EvC.a ?_ (hok:=by simp[h]);refine EvC.ret ⟨.inl rfl,_,(by simp only[go_sem]<;>rfl),rfl,rfl⟩
def cmpI:List Int→List Int→Int
 | x::a,y::b=>if x<y then -1 else if y<x then 1 else cmpI a b
 | _,_=>0
def cmpL(a b:List Int):Int:=if a.length=b.length then cmpI a b else if a.length<b.length then -1 else 1
theorem cmpI_zero:∀{a b:List Int},a.length=b.length→(cmpI a b=0↔a=b)
 | [],[],_=>by simp[cmpI]
 | x::a,y::b,h=>by
   unfold cmpI;split
   ·simp;omega
   split
   ·simp;omega
   ·rw[cmpI_zero (by simpa using h)];simp;omega
theorem cmpL_zero{a b:List Int}:cmpL a b=0↔a=b:=by
 unfold cmpL;split
 ·rename_i h;exact cmpI_zero h
 ·rename_i h;have:a≠b:=fun e=>h (by rw[e]);split<;>simp[this]
theorem compare65_is(na nb:Bool)(a b:List Int)(ca cb:Cp)(hl:a.length<1000000):
  PureIs prog 81 [.sl na (a.map intC) ca,.sl nb (b.map intC) cb] (.sc (.int .i64 (cmpL a b))):=by
 refine PureIs.of1 2 [4,5,10,15,19,30,39] func81 ntmps81 results81 fun _=>?_;refine EvC.a ?_;refine EvC.seq ?_;refine EvC.a ?_ (by simp only[go_sem,List.length_map]<;>rfl);unfold cmpL;by_cases hlen:a.length=b.length;rotate_left
 ·have hd:decide ((a.length:Int)=(b.length:Int))=false:=decide_eq_false (by omega);rw[if_neg hlen];refine EvC.ct ?_ (by simp only[go_sem,hd]<;>rfl);refine EvC.seq ?_;refine EvC.a ?_ (by simp only[go_sem,List.length_map]<;>rfl);by_cases hlt:a.length<b.length
  ·have h2:decide ((a.length:Int)<(b.length:Int))=true:=decide_eq_true (by omega);refine EvC.ct ?_ (by simp only[go_sem,h2]<;>rfl);refine EvC.a ?_;rw[if_pos hlt];refine EvC.rz ?_;simp only[go_sem]
  ·have h2:decide ((a.length:Int)<(b.length:Int))=false:=decide_eq_false (by omega);refine EvC.cs ?_ (by simp only[go_sem,h2]<;>rfl);refine EvC.a ?_;rw[if_neg hlt];refine EvC.rz ?_;simp only[go_sem]
 have hd:decide ((a.length:Int)=(b.length:Int))=true:=decide_eq_true (by omega);rw[if_pos hlen];refine EvC.cs ?_ (by simp only[go_sem,hd]<;>rfl);refine EvC.seq ?_;refine EvC.a ?_;refine EvC.block ?_;refine EvC.loopS (σ:=Nat) (fun i=>⟨[(0,.sl na (a.map intC) ca),(1,.sl nb (b.map intC) cb),(5,.sc (.int .i64 i))],[],[],0⟩) (fun i=>a.length-i) (fun i=>i≤a.length∧cmpI a b=cmpI (a.drop i) (b.drop i)) [0,1,5] 0 ?_ ?_
 ·exact⟨[],0,rfl,(by simp only[go_sem,Int.natCast_zero]<;>rfl),Nat.zero_le _,rfl⟩
 rintro i ⟨hi,hinv⟩;refine EvC.seq ?_;refine EvC.a ?_ (by simp only[go_sem,List.length_map]<;>rfl);refine EvC.cd (fun hc=>?_) (fun hc=>?_);rotate_left
 ·
  refine EvC.exit ?_
  obtain rfl:a.length=i:=by have:¬i<a.length:=by simpa using hc
                            omega
  have h0:cmpI a b=0:=by rw[hinv,List.drop_length,hlen,List.drop_length];rfl
  rw[h0];refine EvC.a ?_;refine EvC.rz ?_;simp only[go_sem]
 have hil:i<a.length:=by simpa using hc
 clear hc;have he:a[i]?=some (a[i]'hil):=List.getElem?_eq_getElem hil;have hf:b[i]?=some (b[i]'(by omega)):=List.getElem?_eq_getElem (by omega);generalize a[i]'hil=x at he;generalize b[i]'(by omega)=y at hf;rw[list_step he,list_step hf,cmpI]at hinv;have hin:(i:Int).toNat=i:=Int.toNat_natCast i;refine EvC.skip ?_;refine EvC.seq ?_;refine EvC.block ?_;refine EvC.seq ?_;refine EvC.d mixed ?_ (h:=by simp only[go_sem,he,hf,intC,hin,List.length_map]<;>rfl) (hok:=by simp;try omega);by_cases hxy:x<y
 ·have d1:decide (x<y)=true:=decide_eq_true hxy;refine EvC.ct ?_ (by simp only[go_sem,d1]<;>rfl);refine EvC.a ?_;rw[hinv,if_pos hxy];refine EvC.rz ?_;simp only[go_sem]
 have d1:decide (x<y)=false:=decide_eq_false hxy;refine EvC.cs ?_ (by simp only[go_sem,d1]<;>rfl);refine EvC.d mixed ?_ (h:=by simp only[go_sem,he,hf,intC,hin,List.length_map]<;>rfl) (hok:=by simp;try omega);by_cases hyx:y<x
 ·have d2:decide (y<x)=true:=decide_eq_true hyx;refine EvC.ct ?_ (by simp only[go_sem,d2]<;>rfl);refine EvC.a ?_;rw[hinv,if_neg hxy,if_pos hyx];refine EvC.rz ?_;simp only[go_sem]
 have d2:decide (y<x)=false:=decide_eq_false hyx;refine EvC.cs ?_ (by simp only[go_sem,d2]<;>rfl);refine EvC.bi ?_;exact⟨[],i+1,rfl,(by simp only[go_sem,Int.natCast_add,Int.natCast_one]<;>rfl),⟨hil,by rw[hinv,if_neg hxy,if_neg hyx]⟩,by omega⟩
def incrW(k:Int):List Int→List Int×Bool
 | []=>([],true)
 | x::xs=>if(incrW k xs).2=true then(if x+1<k then((x+1)::(incrW k xs).1,false)else(0::(incrW k xs).1,true))else(x::(incrW k xs).1,false)
def nextW(k:Int)(w:List Int):List Int:=if(incrW k w).2=true then(incrW k w).1++[0]else(incrW k w).1
theorem incrW_app{k:Int}:∀{a b:List Int},(incrW k b).2=false→incrW k (a++b)=(a++(incrW k b).1,false)
 | [],b,h=>by simp[←h]
 | x::a,b,h=>by
   have:=incrW_app (a:=a) h;simp only[List.cons_append,incrW,this];rfl
theorem next_is(nl:Bool)(w:List Int)(c:Cp)(k:Int)(hl:w.length<1000000)(hw:∀x∈w,0≤x∧x<1000000):PureIs prog 96 [.sl nl (w.map intC) c,.sc (.int .i64 k)] (.sl false ((nextW k w).map intC) .unk):=by
 refine PureIs.of1 2 [4,5,6,14,23] func96 ntmps96 results96 fun _=>?_;refine EvC.a ?_;refine EvC.a ?_ (hok:=by simp[room_eq,intC];omega);refine EvC.seq ?_;refine EvC.ai ?_;refine EvC.block ?_;refine EvC.loopS (σ:=Nat×List Int) (fun g=>⟨[(1,.sc (.int .i64 k)),(5,.tl 0 w.length false),(6,.sc (.int .i64 ((g.1:Int)-1)))],[],[(0,.arr 1 (g.2.map intC) false)],1⟩) (fun g=>g.1)
  (fun g=>g.1≤w.length∧g.2=w.take g.1++List.replicate (w.length-g.1) 0∧incrW k (w.drop g.1)=(List.replicate (w.length-g.1) 0,true)) [1,5,6] 1 ?_ ?_
 ·refine⟨[(3,0)],(w.length,w),rfl,(by simp only[go_sem]<;>rfl),Nat.le_refl _,by simp,by simp[incrW]⟩
 rintro⟨j,out⟩ ⟨h1,ho,h2⟩;simp only at h1 ho h2;have hlen:out.length=w.length:=by rw[ho];simp;omega
 refine EvC.seq ?_;refine EvC.a ?_;refine EvC.cd (fun hc=>?_) (fun hc=>?_);rotate_left
 ·refine EvC.exit ?_
  obtain rfl:j=0:=by have:¬(0:Int)≤(j:Int)-1:=by simpa using hc
                     omega
  simp only[List.drop_zero,Nat.sub_zero]at h2;refine EvC.a ?_ (hok:=by simp[room_eq,AV.norefs,AV.noref,hlen];omega);refine EvC.frz 0 (by simp only[go_sem,hlen,List.length_map]<;>rfl) ?_;refine EvC.rz ?_;simp only[go_sem];rw[nextW,h2,ho];simp[intC]
 have hj:0<j:=by have:(0:Int)≤(j:Int)-1:=by simpa using hc
                 omega
 clear hc;obtain⟨m,rfl⟩:∃m,j=m+1:=⟨j-1,by omega⟩;generalize hz:(((m+1:Nat):Int)-1)=z;have hzm:z.toNat=m:=by omega
 have hz0:0≤z:=by omega
 have he:w[m]?=some w[m]:=List.getElem?_eq_getElem (by omega);have hx:=hw _ (List.getElem_mem (show m<w.length by omega));have htk:w.take (m+1)=w.take m++[w[m]]:=by rw[List.take_add_one,he];rfl
 have hdr:w.drop m=w[m]::w.drop (m+1):=List.drop_eq_getElem_cons (by omega);generalize w[m]=x at he hx htk hdr;have hget:out[m]?=some x:=by
  rw[ho,List.getElem?_append_left (by simp;omega),List.getElem?_take,if_pos (by omega),he]
 have hset':∀y:Int,out.set m y=w.take m++y::List.replicate (w.length-(m+1)) 0:=fun y=>by
  rw[ho,htk,List.append_assoc];have:=set_mid (w.take m) (List.replicate (w.length-(m+1)) 0) x y;rw[List.length_take,Nat.min_eq_left (by omega)]at this;exact this
 have hset:∀y:Int,(out.map intC).set m [.sc (.int .i64 y)]=(out.set m y).map intC:=fun y=>by
  rw[show [AV.sc (.int .i64 y)]=intC y from rfl,←List.map_set]
 have hI:inI64 (x+1)=true:=inI64_of (by omega) (by omega);refine EvC.skip ?_;refine EvC.seq ?_;refine EvC.block ?_;refine EvC.seq ?_;refine EvC.a ?_ (by simp only[go_sem,hzm,hget,intC]<;>rfl) (by simp[hz0,hlen,hI];omega);refine EvC.cd (fun hc=>?_) (fun hc=>?_)
 ·have hc:x+1<k:=by simpa using hc
  refine EvC.a ?_ (by simp only[go_sem,hzm,hget,intC,hset]<;>rfl) (by simp[hz0,hlen,hI];omega);have hl2:(out.set m (x+1)).length=w.length:=by simp;omega
  refine EvC.frz 0 (by simp only[go_sem,hl2,List.length_map]<;>rfl) ?_;refine EvC.a ?_;refine EvC.rz ?_;simp only[go_sem];have hi:incrW k (w.drop m)=((x+1)::List.replicate (w.length-(m+1)) 0,false):=by
   rw[hdr,incrW,h2];simp[hc]
  have:=incrW_app (a:=w.take m) (b:=w.drop m) (k:=k) (by rw[hi]);rw[List.take_append_drop,hi]at this;rw[nextW,this,hset'];rfl
 have hc:¬x+1<k:=by simpa using hc
 refine EvC.skip ?_;refine EvC.b ?_ (by simp only[go_sem,hzm,hget,intC,hset]<;>rfl) (by simp[hz0,hlen];omega);refine EvC.bi ?_;have hr:w.length-m=(w.length-(m+1))+1:=by omega
 have hz1:z-1=(m:Int)-1:=by omega
 refine⟨[(0,0)],(m,out.set m 0),rfl,(by simp only[go_sem,hz1]<;>rfl),⟨by simp only;omega,?_,?_⟩,by simp only;omega⟩
 ·simp only;rw[hset',hr,List.replicate_succ]
 ·simp only;rw[hdr,incrW,h2,hr,List.replicate_succ];simp[hc]
theorem splits_is{m:Mach}(hv:Valid m)(s t:Int)(hs:s<m.rows.length)(ht:t<m.rows.length)(nl:Bool)(w:List Int)(c:Cp)(hw:∀a∈w,0≤a∧a<m.ins)(hl:w.length<1000000):
  PureIs prog 97 [.ag m.cells,.sl nl (w.map intC) c,.sc (.int .i64 s),.sc (.int .i64 t)] (.sc (.int .i64 (if runR m s w=runR m t w then 0 else 1))):=by
 have hlen:∀s,(runR m s w).length=w.length:=fun s=>by
  induction w generalizing s with
  | nil=>rfl
  | cons a w ih=>simp only[runR,List.length_cons];rw[ih (fun a h=>hw a (List.mem_cons_of_mem _ h)) (by simp at hl;omega)]
 refine PureIs.of1 5 [8,17] func97 ntmps97 results97 fun _=>?_;refine EvC.a ?_ (by simp only[go_sem,Mach.cells]<;>rfl);refine EvC.z 0 ?_;refine EvC.seq ?_;apply EvC.seq;apply EvC.drw mixed
 ·apply Tr.run
  ·simp only[go_sem,Mach.cells]<;>rfl
  ·simp
  apply Tr.cons
  ·exact .ca (run04_is hv s hs nl w c hw hl)
  apply Tr.run
  ·simp only[go_sem,Mach.cells]<;>rfl
  ·simp
  apply Tr.cons
  ·exact .ca (run04_is hv t ht nl w c hw hl)
  apply Tr.run
  ·simp only[go_sem,Mach.cells]<;>rfl
  ·simp
  apply Tr.cons
  ·exact .ca (same_is _ (runR m s w) .unk _ (runR m t w) .unk (by rw[hlen];exact hl))
  apply Tr.done
  ·simp only[go_sem]<;>rfl
  ·simp
 ·kernel_rfl
 refine EvC.cd (fun hc=>?_) (fun hc=>?_)
 ·have hc:runR m s w=runR m t w:=by simpa using hc
  refine EvC.a ?_;refine EvC.rz ?_;simp only[go_sem];rw[if_pos hc]
 have hc:¬runR m s w=runR m t w:=by simpa using hc
 refine EvC.skip ?_;refine EvC.a ?_;refine EvC.rz ?_;simp only[go_sem];rw[if_neg hc]
theorem next98_is(nl:Bool)(w:List Int)(c:Cp)(k:Int)(hl:w.length<1000000)(hw:∀x∈w,0≤x∧x<1000000):PureIs prog 98 [.sl nl (w.map intC) c,.sc (.int .i64 k)] (.sl false ((nextW k w).map intC) .unk):=by
 refine PureIs.of1 2 [4,5,6,14,23] func98 ntmps98 results98 fun _=>?_;refine EvC.a ?_;refine EvC.a ?_ (hok:=by simp[room_eq,intC];omega);refine EvC.seq ?_;refine EvC.ai ?_;refine EvC.block ?_;refine EvC.loopS (σ:=Nat×List Int) (fun g=>⟨[(1,.sc (.int .i64 k)),(5,.tl 0 w.length false),(6,.sc (.int .i64 ((g.1:Int)-1)))],[],[(0,.arr 1 (g.2.map intC) false)],1⟩) (fun g=>g.1)
  (fun g=>g.1≤w.length∧g.2=w.take g.1++List.replicate (w.length-g.1) 0∧incrW k (w.drop g.1)=(List.replicate (w.length-g.1) 0,true)) [1,5,6] 1 ?_ ?_
 ·refine⟨[(3,0)],(w.length,w),rfl,(by simp only[go_sem]<;>rfl),Nat.le_refl _,by simp,by simp[incrW]⟩
 rintro⟨j,out⟩ ⟨h1,ho,h2⟩;simp only at h1 ho h2;have hlen:out.length=w.length:=by rw[ho];simp;omega
 refine EvC.seq ?_;refine EvC.a ?_;refine EvC.cd (fun hc=>?_) (fun hc=>?_);rotate_left
 ·refine EvC.exit ?_
  obtain rfl:j=0:=by have:¬(0:Int)≤(j:Int)-1:=by simpa using hc
                     omega
  simp only[List.drop_zero,Nat.sub_zero]at h2;refine EvC.a ?_ (hok:=by simp[room_eq,AV.norefs,AV.noref,hlen];omega);refine EvC.frz 0 (by simp only[go_sem,hlen,List.length_map]<;>rfl) ?_;refine EvC.rz ?_;simp only[go_sem];rw[nextW,h2,ho];simp[intC]
 have hj:0<j:=by have:(0:Int)≤(j:Int)-1:=by simpa using hc
                 omega
 clear hc;obtain⟨m,rfl⟩:∃m,j=m+1:=⟨j-1,by omega⟩;generalize hz:(((m+1:Nat):Int)-1)=z;have hzm:z.toNat=m:=by omega
 have hz0:0≤z:=by omega
 have he:w[m]?=some w[m]:=List.getElem?_eq_getElem (by omega);have hx:=hw _ (List.getElem_mem (show m<w.length by omega));have htk:w.take (m+1)=w.take m++[w[m]]:=by rw[List.take_add_one,he];rfl
 have hdr:w.drop m=w[m]::w.drop (m+1):=List.drop_eq_getElem_cons (by omega);generalize w[m]=x at he hx htk hdr;have hget:out[m]?=some x:=by
  rw[ho,List.getElem?_append_left (by simp;omega),List.getElem?_take,if_pos (by omega),he]
 have hset':∀y:Int,out.set m y=w.take m++y::List.replicate (w.length-(m+1)) 0:=fun y=>by
  rw[ho,htk,List.append_assoc];have:=set_mid (w.take m) (List.replicate (w.length-(m+1)) 0) x y;rw[List.length_take,Nat.min_eq_left (by omega)]at this;exact this
 have hset:∀y:Int,(out.map intC).set m [.sc (.int .i64 y)]=(out.set m y).map intC:=fun y=>by
  rw[show [AV.sc (.int .i64 y)]=intC y from rfl,←List.map_set]
 have hI:inI64 (x+1)=true:=inI64_of (by omega) (by omega);refine EvC.skip ?_;refine EvC.seq ?_;refine EvC.block ?_;refine EvC.seq ?_;refine EvC.a ?_ (by simp only[go_sem,hzm,hget,intC]<;>rfl) (by simp[hz0,hlen,hI];omega);refine EvC.cd (fun hc=>?_) (fun hc=>?_)
 ·have hc:x+1<k:=by simpa using hc
  refine EvC.a ?_ (by simp only[go_sem,hzm,hget,intC,hset]<;>rfl) (by simp[hz0,hlen,hI];omega);have hl2:(out.set m (x+1)).length=w.length:=by simp;omega
  refine EvC.frz 0 (by simp only[go_sem,hl2,List.length_map]<;>rfl) ?_;refine EvC.a ?_;refine EvC.rz ?_;simp only[go_sem];have hi:incrW k (w.drop m)=((x+1)::List.replicate (w.length-(m+1)) 0,false):=by
   rw[hdr,incrW,h2];simp[hc]
  have:=incrW_app (a:=w.take m) (b:=w.drop m) (k:=k) (by rw[hi]);rw[List.take_append_drop,hi]at this;rw[nextW,this,hset'];rfl
 have hc:¬x+1<k:=by simpa using hc
 refine EvC.skip ?_;refine EvC.b ?_ (by simp only[go_sem,hzm,hget,intC,hset]<;>rfl) (by simp[hz0,hlen];omega);refine EvC.bi ?_;have hr:w.length-m=(w.length-(m+1))+1:=by omega
 have hz1:z-1=(m:Int)-1:=by omega
 refine⟨[(0,0)],(m,out.set m 0),rfl,(by simp only[go_sem,hz1]<;>rfl),⟨by simp only;omega,?_,?_⟩,by simp only;omega⟩
 ·simp only;rw[hset',hr,List.replicate_succ]
 ·simp only;rw[hdr,incrW,h2,hr,List.replicate_succ];simp[hc]
def wordAt(k:Int):Nat→List Int
 | 0=>[]
 | n+1=>nextW k (wordAt k n)
theorem incrW_ok{k:Int}(hk:1≤k):∀{w:List Int},(∀x∈w,0≤x∧x<k)→(∀x∈(incrW k w).1,0≤x∧x<k)∧(incrW k w).1.length=w.length
 | [],_=>by simp[incrW]
 | x::w,h=>by
   obtain⟨h1,h2⟩:=incrW_ok hk (w:=w) fun y hy=>h y (List.mem_cons_of_mem _ hy);have hx:=h x List.mem_cons_self;unfold incrW;split
   ·split
    ·exact⟨fun y hy=>by rcases List.mem_cons.1 hy with rfl|hy;omega;exact h1 y hy,by simp[h2]⟩
    ·exact⟨fun y hy=>by rcases List.mem_cons.1 hy with rfl|hy;omega;exact h1 y hy,by simp[h2]⟩
   ·exact⟨fun y hy=>by rcases List.mem_cons.1 hy with rfl|hy;exact hx;exact h1 y hy,by simp[h2]⟩
theorem nextW_ok{k:Int}(hk:1≤k){w:List Int}(h:∀x∈w,0≤x∧x<k):(∀x∈nextW k w,0≤x∧x<k)∧w.length≤(nextW k w).length∧(nextW k w).length≤w.length+1:=by
 obtain⟨h1,h2⟩:=incrW_ok hk h;unfold nextW;split
 ·refine⟨fun y hy=>?_,by simp[h2],by simp[h2]⟩;rcases List.mem_append.1 hy with hy|hy
  ·exact h1 y hy
  ·simp at hy;omega
 ·exact⟨h1,by omega,by omega⟩
theorem wordAt_ok{k:Int}(hk:1≤k):∀(n:Nat),(∀x∈wordAt k n,0≤x∧x<k)
 | 0=>by simp[wordAt]
 | n+1=>(nextW_ok hk (wordAt_ok hk n)).1
theorem refsep_is{m:Mach}(hv:Valid m)(s t:Int)(hs:s<m.rows.length)(ht:t<m.rows.length)(k:Nat)
  (hlt:∀j<k,(wordAt m.ins j).length<max m.rows.length 2∧runR m s (wordAt m.ins j)=runR m t (wordAt m.ins j))(w:List Int)
  (hw:((wordAt m.ins k).length<max m.rows.length 2∧runR m s w≠runR m t w∧w=wordAt m.ins k)∨(max m.rows.length 2≤(wordAt m.ins k).length∧w=[])):
  PureIs prog 83 [.ag m.cells,.sc (.int .i64 s),.sc (.int .i64 t)] (.tu [.sl w.isEmpty (w.map intC) .unk,.sc (.bool (!w.isEmpty))]):=by
 have hins:=hv.ins;have hrw:=hv.rows;refine PureIs.of1 4 [6,7,8,16,26] func83 ntmps83 results83 fun _=>?_;refine EvC.a ?_ (by simp only[go_sem,Mach.cells]<;>rfl);refine EvC.z 0 ?_;refine EvC.seq ?_;refine EvC.a ?_;refine EvC.block ?_;refine EvC.loopS (σ:=Nat×Cp) (fun g=>⟨[(1,.sc (.int .i64 s)),(2,.sc (.int .i64 t)),(3,.ia m.cells),(8,.sl false ((wordAt m.ins g.1).map intC) g.2)],[],[],0⟩) (fun g=>k-g.1) (fun g=>g.1≤k∧(g.1=0∨g.2=.unk)) [1,2,3,8] 0 ?_ ?_
 ·exact⟨[],(0,.zer),rfl,(by simp only[go_sem,Mach.cells,wordAt]<;>rfl),Nat.zero_le _,.inl rfl⟩
 rintro⟨j,cp⟩ ⟨hj,hcp⟩;simp only at hj hcp;have hok:=wordAt_ok hins.1 j;obtain⟨v,hvj⟩:∃v,v=wordAt m.ins j:=⟨_,rfl⟩;rw[←hvj]at hok⊢;refine EvC.seq ?_;refine EvC.a ?_ (by simp only[go_sem,Mach.cells]<;>rfl);refine EvC.cd (fun hc=>?_) (fun hc=>?_);rotate_left
 ·refine EvC.exit ?_;have hlen:max m.rows.length 2≤v.length:=by
   by_cases h2:(m.rows.length:Int)≤2<;>simp[h2]at hc<;>omega
  have hjk:j=k:=by
   by_cases h:j<k
   ·have:=(hlt j h).1;rw[←hvj]at this;omega
   ·omega
  subst hjk;have hwe:w=[]:=by
   rcases hw with⟨h1,_,_⟩|⟨_,h⟩
   ·rw[←hvj]at h1;omega
   ·exact h
  subst hwe;refine EvC.a ?_;refine EvC.rz ?_;simp only[go_sem]
 have hlen:v.length<max m.rows.length 2:=by
  by_cases h2:(m.rows.length:Int)≤2<;>simp[h2]at hc<;>omega
 refine EvC.skip ?_;refine EvC.seq ?_;refine EvC.block ?_;refine EvC.k1 ?_ (h1:=by simp only[go_sem,Mach.cells]<;>rfl) (c1:=.ca (splits_is hv s t hs ht false v cp hok (by omega)));by_cases hd:runR m s v=runR m t v
 ·rw[if_pos hd];have hjk:j<k:=by
   by_cases h:j<k
   ·exact h
   ·obtain rfl:j=k:=by omega
    rcases hw with⟨_,h2,h3⟩|⟨h1,_⟩
    ·rw[h3,←hvj]at h2;exact absurd hd h2
    ·rw[←hvj]at h1;omega
  refine EvC.cs ?_;refine EvC.k1L ?_ (h1:=by simp only[go_sem,Mach.cells]<;>rfl) (c1:=.ca (next_is false v cp m.ins (by omega) (fun x hx=>by have:=hok x hx;omega)));have hn:wordAt m.ins (j+1)=nextW m.ins v:=by rw[hvj];rfl
  exact⟨[],(j+1,.unk),rfl,(by simp only[go_sem,Mach.cells,hn]<;>rfl),⟨by simp only;omega,.inr rfl⟩,by simp only;omega⟩
 ·rw[if_neg hd];have hjk:j=k:=by
   by_cases h:j<k
   ·have:=(hlt j h).2;rw[←hvj]at this;exact absurd this hd
   ·omega
  subst hjk;have hwv:w=v:=by
   rcases hw with⟨_,_,h3⟩|⟨h1,_⟩
   ·rw[h3,hvj]
   ·rw[←hvj]at h1;omega
  have hne:w.isEmpty=false:=by
   rw[hwv];cases hv0:v with
   | nil=>rw[hv0]at hd;exact absurd rfl hd
   | cons a l=>rfl
  refine EvC.ct ?_;refine EvC.a ?_;have hj0:j≠0:=by
   rintro rfl;rw[hvj]at hd;exact hd rfl
  have hcu:cp=.unk:=hcp.resolve_left hj0;subst hcu;refine EvC.rz ?_;simp only[go_sem];rw[hne,hwv];rfl
theorem after22_is{m:Mach}(hv:Valid m):∀(w:List Int) (s:Int) (nl:Bool) (c:Cp),s<m.rows.length→(∀a∈w,0≤a∧a<m.ins)→w.length<1000000→
  PureIs prog 99 [.ag m.cells,.sc (.int .i64 s),.sl nl (w.map intC) c] (.sc (.int .i64 (afterR m s w)))
 | [],s,nl,c,hs,hw,hl=>by
   refine PureIs.of1 4 [6,9] func99 ntmps99 results99 fun _=>?_;refine EvC.a ?_ (by simp only[go_sem,Mach.cells]<;>rfl);refine EvC.z 0 ?_;refine EvC.seq ?_;refine EvC.a ?_;refine EvC.ct ?_;refine EvC.a ?_;refine EvC.rz ?_;simp only[go_sem];rfl
 | a::w,s,nl,c,hs,hw,hl=>by
   have ha:=hw a List.mem_cons_self;have ih:=after22_is hv w (stepR m s a).1 nl (cutTail c) (stepR_lt hv hs ha) (fun b hb=>hw b (List.mem_cons_of_mem _ hb)) (by simp at hl;omega);refine PureIs.of1 4 [6,9] func99 ntmps99 results99 fun _=>?_;refine EvC.a ?_ (by simp only[go_sem,Mach.cells]<;>rfl);refine EvC.z 0 ?_;refine EvC.seq ?_;refine EvC.a ?_;have h0:decide (((w.length+1:Nat):Int)=0)=false:=by simp;omega
   refine EvC.cs ?_ (by simp only[go_sem,h0]<;>rfl);refine EvC.k2D mixed ?_ (h1:=by simp only[go_sem,Mach.cells,intC,edgeA,Option.getD_some]<;>rfl) (k1:=by simp[intC];try omega) (c1:=.ca (stepR_is hv hs ha)) (h2:=by simp only[go_sem,Mach.cells,intC,edgeA,Option.getD_some]<;>rfl) (k2:=by simp[intC];try omega) (c2:=.ca ih);refine EvC.rz ?_;simp only[go_sem];rfl
theorem norefs_intC(l:List Int):(l.map intC).all AV.norefs=true:=by simp[List.all_eq_true,intC,AV.norefs,AV.noref]
abbrev RW:=Bool×List Int×Cp
def rwC(r:RW):List AV:=[.sl r.1 (r.2.1.map intC) r.2.2]
@[go_sem] theorem norefs_rw(l:List RW):(l.map rwC).all AV.norefs=true:=by simp[List.all_eq_true,rwC,AV.norefs,AV.noref]
theorem rw_get{W:List RW}{i:Nat}{w:RW}(h:W[i]?=some w):(W.map rwC)[i]?=some [.sl w.1 (w.2.1.map intC) w.2.2]:=by rw[List.getElem?_map,h];rfl
theorem cmpI_swap:∀{a b:List Int},cmpI b a=- cmpI a b
 | [],[]=>rfl
 | [],_::_=>rfl
 | _::_,[]=>rfl
 | x::a,y::b=>by
   unfold cmpI;by_cases h1:x<y
   ·rw[if_neg (by omega),if_pos h1,if_pos h1];rfl
   ·by_cases h2:y<x
    ·rw[if_pos h2,if_neg h1,if_pos h2]
    ·rw[if_neg h2,if_neg h1,if_neg h1,if_neg h2,cmpI_swap]
theorem cmpL_swap(a b:List Int):cmpL b a=- cmpL a b:=by
 unfold cmpL;by_cases h:a.length=b.length
 ·rw[if_pos h,if_pos h.symm,cmpI_swap]
 ·rw[if_neg h,if_neg (fun e=>h e.symm)];by_cases h2:a.length<b.length
  ·rw[if_pos h2,if_neg (by omega)];rfl
  ·rw[if_neg h2,if_pos (by omega)]
theorem cmpI_trans:∀{a b c:List Int},a.length=b.length→b.length=c.length→cmpI a b<0→cmpI b c<0→cmpI a c<0
 | [],[],_,_,_,h,_=>by simp[cmpI]at h
 | x::a,y::b,[],_,h2,_,_=>by simp at h2
 | x::a,y::b,z::c,h1,h2,k1,k2=>by
   unfold cmpI at k1 k2⊢;by_cases e1:x<y
   ·by_cases e2:y<z
    ·rw[if_pos (by omega)];omega
    ·rw[if_neg e2]at k2;by_cases e3:z<y
     ·rw[if_pos e3]at k2;omega
     ·rw[if_pos (by omega)];omega
   ·rw[if_neg e1]at k1;by_cases e2:y<x
    ·rw[if_pos e2]at k1;omega
    ·rw[if_neg e2]at k1;by_cases e3:y<z
     ·rw[if_pos (by omega)];omega
     ·rw[if_neg e3]at k2;by_cases e4:z<y
      ·rw[if_pos e4]at k2;omega
      ·rw[if_neg e4]at k2;rw[if_neg (by omega),if_neg (by omega)];exact cmpI_trans (by simpa using h1) (by simpa using h2) k1 k2
theorem cmpL_len{a b:List Int}(h:cmpL a b<0):a.length≤b.length:=by
 unfold cmpL at h;split at h
 ·omega
 ·split at h
  ·omega
  ·omega
theorem cmpL_of_lt{a b:List Int}(h:a.length<b.length):cmpL a b<0:=by
 unfold cmpL;rw[if_neg (by omega),if_pos h];omega
theorem cmpL_trans{a b c:List Int}(h1:cmpL a b<0)(h2:cmpL b c<0):cmpL a c<0:=by
 have l1:=cmpL_len h1;have l2:=cmpL_len h2;by_cases e1:a.length=b.length
 ·by_cases e2:b.length=c.length
  ·unfold cmpL at h1 h2⊢;rw[if_pos e1]at h1;rw[if_pos e2]at h2;rw[if_pos (by omega)];exact cmpI_trans e1 e2 h1 h2
  ·exact cmpL_of_lt (by omega)
 ·exact cmpL_of_lt (by omega)
def SrtW(W:List RW):Prop:=W.Pairwise fun x y=>cmpL x.2.1 y.2.1<0
def insW:List RW→RW→List RW
 | [],x=>[x]
 | y::l,x=>if cmpL y.2.1 x.2.1<0 then y::insW l x else if cmpL y.2.1 x.2.1=0 then y::l else x::y::l
theorem insW_app{x:RW}:∀{A:List RW} (B:List RW),(∀a∈A,cmpL a.2.1 x.2.1<0)→insW (A++B) x=A++insW B x
 | [],B,_=>rfl
 | a::A,B,h=>by
   rw[List.cons_append,insW,if_pos (h a List.mem_cons_self),insW_app B fun b hb=>h b (List.mem_cons_of_mem _ hb)];rfl
theorem insW_mem{x z:RW}:∀{W:List RW},z∈insW W x→z=x∨z∈W
 | [],h=>by rw[insW,List.mem_singleton]at h;exact .inl h
 | y::l,h=>by
   rw[insW]at h;split at h
   ·rcases List.mem_cons.1 h with h|h
    ·exact .inr (by rw[h];exact List.mem_cons_self)
    ·rcases insW_mem h with h|h
     ·exact .inl h
     ·exact .inr (List.mem_cons_of_mem _ h)
   ·split at h
    ·exact .inr h
    ·rcases List.mem_cons.1 h with h|h
     ·exact .inl h
     ·exact .inr h
theorem insW_srt{x:RW}:∀{W:List RW},SrtW W→SrtW (insW W x)
 | [],_=>List.pairwise_singleton _ _
 | y::l,h=>by
   obtain⟨h1,h2⟩:=List.pairwise_cons.1 h;rw[insW];split
   ·rename_i c;refine List.pairwise_cons.2 ⟨fun z hz=>?_,insW_srt h2⟩;rcases insW_mem hz with rfl|hz
    ·exact c
    ·exact h1 z hz
   ·split
    ·exact h
    ·rename_i c1 c2;have hxy:cmpL x.2.1 y.2.1<0:=by have:=cmpL_swap x.2.1 y.2.1;omega
     refine List.pairwise_cons.2 ⟨fun z hz=>?_,h⟩;rcases List.mem_cons.1 hz with rfl|hz
     ·exact hxy
     ·exact cmpL_trans hxy (h1 z hz)
theorem insW_len(x:RW):∀W:List RW,(insW W x).length≤W.length+1∧1≤(insW W x).length
 | []=>by simp[insW]
 | y::l=>by
   have:=insW_len x l;rw[insW];split
   ·simp only[List.length_cons];omega
   ·split<;>simp only[List.length_cons]<;>omega
theorem SrtW.lt{W:List RW}(h:SrtW W){i j:Nat}(hij:i<j)(hj:j<W.length):cmpL (W[i]'(by omega)).2.1 W[j].2.1<0:=List.pairwise_iff_getElem.1 h i j (by omega) hj hij
def holeW(W:List RW)(i:Nat)(h:List AV):List (List AV):=(W.take i).map rwC++h::(W.drop i).map rwC
theorem holeW_len{W:List RW}{i:Nat}{h:List AV}(hi:i≤W.length):(holeW W i h).length=W.length+1:=by
 unfold holeW;rw[List.length_append,List.length_cons,List.length_map,List.length_map,List.length_take,List.length_drop];omega
theorem holeW_norefs{W:List RW}{i:Nat}{h:List AV}(hh:AV.norefs h=true):(holeW W i h).all AV.norefs=true:=by
 unfold holeW;rw[List.all_append,List.all_cons,norefs_rw,norefs_rw,hh];rfl
theorem holeW_get{W:List RW}{i:Nat}{h:List AV}(hi:i+1≤W.length):(holeW W (i+1) h)[i]?=some (rwC (W[i]'(by omega))):=by
 unfold holeW;rw[List.getElem?_append_left (by rw[List.length_map,List.length_take];omega),List.getElem?_map,List.getElem?_take_of_lt (by omega),List.getElem?_eq_getElem (by omega)];rfl
theorem holeW_set{W:List RW}{i:Nat}{h:List AV}(hi:i+1≤W.length):(holeW W (i+1) h).set (i+1) (rwC (W[i]'(by omega)))=holeW W i (rwC (W[i]'(by omega))):=by
 unfold holeW;rw[List.set_append_right _ _ (by rw[List.length_map,List.length_take];omega)];have e:i+1-((W.take (i+1)).map rwC).length=0:=by rw[List.length_map,List.length_take];omega
 rw[e,List.set_cons_zero,List.take_succ_eq_append_getElem (by omega),List.map_append,List.append_assoc,List.drop_eq_getElem_cons (show i<W.length by omega)];rfl
theorem holeW_at{W:List RW}{i:Nat}{h:List AV}(hi:i≤W.length):(holeW W i h)[i]?=some h:=by
 unfold holeW;rw[List.getElem?_append_right (by rw[List.length_map,List.length_take];omega)];have e:i-((W.take i).map rwC).length=0:=by rw[List.length_map,List.length_take];omega
 rw[e];rfl
theorem holeW_put{W:List RW}{i:Nat}{h:List AV}(hi:i≤W.length)(x:RW):(holeW W i h).set i (rwC x)=(W.take i++x::W.drop i).map rwC:=by
 unfold holeW;rw[List.set_append_right _ _ (by rw[List.length_map,List.length_take];omega)];have e:i-((W.take i).map rwC).length=0:=by rw[List.length_map,List.length_take];omega
 rw[e,List.set_cons_zero,List.map_append];rfl
def wM(W:List RW):Mem:=[(0,.arr 1 (W.map rwC) false)]
set_option maxHeartbeats 4000000 in
theorem put_body(W:List RW)(hS:SrtW W)(hl:W.length<100000)(hW:∀x∈W,x.2.1.length<1000000)(wn:Bool)(w:List Int)(wc:Cp)(hwl:w.length<1000000):
  BodyIs prog 51 [.tl 0 W.length (decide (W.length=0)),.sl wn (w.map intC) wc] (wM W) 1 (fun r M _=>r=.tl 0 (insW W (false,w,.unk)).length false∧M=wM (insW W (false,w,.unk))):=by
 refine BodyIs.of (nv:=2) (hid:=[4,5,6,7,8,13,24,40,50]) func51 rfl (by kernel_rfl) (by simp[ntmps51]) fun _=>?_;rw[ntmps51,results51];have hWl:(W.map rwC).length=W.length:=List.length_map _;have hwn:=norefs_intC w;have hwL:(w.map intC).length=w.length:=List.length_map _;obtain⟨n,hn⟩:∃n,n=W.length:=⟨_,rfl⟩;rw[wM];have hWn:=norefs_rw W;rw[←hn]at hWl⊢;obtain⟨en,hen⟩:∃en,en=decide (n=0):=⟨_,rfl⟩;rw[←hen];refine EvC.a ?_;refine EvC.a ?_;refine EvC.a ?_ (by simp only[go_sem,hWl]<;>rfl);refine EvC.seq ?_;refine EvC.block ?_;refine EvC.loopS (σ:=Nat×Nat) (fun g=>⟨[(0,.tl 0 n en),(1,.sl wn (w.map intC) wc),(5,.sc (.int .i64 g.1)),(6,.sc (.int .i64 g.2))],[],[(0,.arr 1 (W.map rwC) false)],1⟩) (fun g=>g.2-g.1) (fun g=>g.1≤g.2∧g.2≤n∧(∀i (h:i<W.length),i<g.1→cmpL W[i].2.1 w<0)∧∀i (h:i<W.length),g.2≤i→0≤cmpL W[i].2.1 w) [0,1,5,6] 1 ?_ ?_
 ·exact⟨[(0,0)],(0,n),rfl,(by simp only[go_sem,hWn,hWl,Int.natCast_zero]<;>rfl),Nat.zero_le _,Nat.le_refl _,fun i _ h=>absurd h (Nat.not_lt_zero _),fun i h h2=>absurd h (by simp only at h2;omega)⟩
 rintro⟨lo,hi⟩ ⟨i1,i2,i3,i4⟩;simp only at i1 i2 i3 i4⊢;refine EvC.seq ?_;refine EvC.a ?_;by_cases hlh:lo<hi
 ·refine EvC.cr ?_ (by simp only[go_sem,decide_eq_true (show(lo:Int)<hi by omega)]<;>rfl);obtain⟨md,hmd⟩:∃md,md=(lo+hi)/2:=⟨_,rfl⟩;have hmZ:((lo:Int)+hi)/2=(md:Int):=by omega
  have hI:inI64 ((lo:Int)+hi)=true:=inI64_of (by omega) (by omega);have hI2:inI64 (md:Int)=true:=inI64_of (by omega) (by omega);have h0:(0:Int)≤lo+hi:=by omega
  have hml:md<W.length:=by omega
  have hge:W[md]?=some (W[md]'hml):=List.getElem?_eq_getElem hml;have hwm:=hW _ (List.getElem_mem hml);have hrg:=rw_get hge;have hmt:(md:Int).toNat=md:=Int.toNat_natCast md;have qc:=compare65_is (W[md]'hml).1 wn (W[md]'hml).2.1 w (W[md]'hml).2.2 wc hwm;refine EvC.block ?_;refine EvC.a ?_ (by simp only[go_sem,hmZ]<;>rfl) (by simp[hI,hI2,h0]);refine EvC.k1 ?_ (h1:=by simp only[go_sem,hrg,hmt,hWl,hWn]<;>rfl) (k1:=by simp;try omega) (c1:=.ca qc);by_cases hc:cmpL (W[md]'hml).2.1 w<0
  ·refine EvC.ct ?_ (by simp only[go_sem,decide_eq_true hc]<;>rfl);refine EvC.b ?_ (by simp only[go_sem,hWn]<;>rfl) (by exact inI64_of (by omega) (by omega));refine⟨[(0,0)],(md+1,hi),rfl,(by simp only[go_sem,hWn,hWl,Int.natCast_add,Int.natCast_one]<;>rfl),⟨by simp only;omega,i2,fun i h h2=>?_,i4⟩,by simp only;omega⟩;rcases Nat.lt_or_ge i md with h3|h3
   ·exact cmpL_trans (hS.lt h3 hml) hc
   ·obtain rfl:i=md:=by simp only at h2;omega
    exact hc
  ·refine EvC.cf ?_ (by simp only[go_sem,decide_eq_false hc]<;>rfl);refine EvC.b ?_ (by simp only[go_sem,hWn]<;>rfl);refine⟨[(0,0)],(lo,md),rfl,(by simp only[go_sem,hWn,hWl]<;>rfl),⟨by simp only;omega,by simp only;omega,i3,fun i h h2=>?_⟩,by simp only;omega⟩;rcases Nat.lt_or_ge md i with h3|h3
   ·have h4:=hS.lt h3 h;by_cases h5:cmpL W[i].2.1 w<0
    ·exact absurd (cmpL_trans h4 h5) hc
    ·omega
   ·obtain rfl:i=md:=by simp only at h2;omega
    omega
 obtain rfl:lo=hi:=by omega
 refine EvC.cf ?_ (by simp only[go_sem,decide_eq_false (show ¬(lo:Int)<lo by omega)]<;>rfl);refine EvC.exit ?_;refine EvC.seq ?_;have hA:∀a∈W.take lo,cmpL a.2.1 w<0:=fun a ha=>by
  rw[List.mem_take_iff_getElem]at ha;obtain⟨i,hi,rfl⟩:=ha;exact i3 i (by omega) (by omega)
 have hsp:=insW_app (x:=(false,w,.unk)) (W.drop lo) hA;rw[List.take_append_drop]at hsp;by_cases hz:∃h:lo<W.length,cmpL (W[lo]'h).2.1 w=0
 ·obtain⟨hll,hz⟩:=hz;have hge:W[lo]?=some (W[lo]'hll):=List.getElem?_eq_getElem hll;have hwm:=hW _ (List.getElem_mem hll);have hrg:=rw_get hge;have hlt:(lo:Int).toNat=lo:=Int.toNat_natCast lo;have qc:=compare65_is (W[lo]'hll).1 wn (W[lo]'hll).2.1 w (W[lo]'hll).2.2 wc hwm;have hsame:insW W (false,w,.unk)=W:=by
   rw[hsp,List.drop_eq_getElem_cons hll,insW,if_neg (by simp only[hz];omega),if_pos (by simp only[hz])];rw[←List.drop_eq_getElem_cons hll,List.take_append_drop]
  rw[hsame];refine EvC.k1 ?_ (h1:=by simp only[go_sem,hrg,hlt,hWl,hWn,decide_eq_true (show(lo:Int)<n by omega)]<;>rfl) (k1:=by simp;try omega) (c1:=.cg qc) (h2:=by simp only[go_sem,decide_eq_true hz]<;>rfl);refine EvC.ct ?_;refine EvC.a ?_ (by simp only[go_sem,hWn]<;>rfl);have hen2:en=false:=by rw[hen];exact decide_eq_false (by omega)
  refine EvC.ret ⟨.inl rfl,_,(by simp only[go_sem]<;>rfl),?_⟩;rw[hen2,hn];exact⟨rfl,rfl⟩
 have hput:insW W (false,w,.unk)=W.take lo++(false,w,.unk)::W.drop lo:=by
  rw[hsp];congr 1;by_cases hll:lo<W.length
  ·have h4:=i4 lo hll (Nat.le_refl _);have hne:cmpL (W[lo]'hll).2.1 w≠0:=fun h=>hz ⟨hll,h⟩;rw[List.drop_eq_getElem_cons hll,insW,if_neg (by simp only;omega),if_neg (by simp only;exact hne)]
  ·rw[List.drop_of_length_le (by omega)];rfl
 refine EvC.mergeS (α:=Unit) (fun _=>⟨[(0,.tl 0 n en),(1,.sl wn (w.map intC) wc),(5,.sc (.int .i64 lo)),(40,.sc (.bool false))],[],[(0,.arr 1 (W.map rwC) false)],1⟩) (fun _=>True) [0,1,5,40] 1 ?_ ?_
 ·by_cases hll:lo<W.length
  ·have hge:W[lo]?=some (W[lo]'hll):=List.getElem?_eq_getElem hll;have hwm:=hW _ (List.getElem_mem hll);have hrg:=rw_get hge;have hlt:(lo:Int).toNat=lo:=Int.toNat_natCast lo;have qc:=compare65_is (W[lo]'hll).1 wn (W[lo]'hll).2.1 w (W[lo]'hll).2.2 wc hwm;have hne:¬cmpL (W[lo]'hll).2.1 w=0:=fun h=>hz ⟨hll,h⟩;refine EvC.k1L ?_ (h1:=by simp only[go_sem,hrg,hlt,hWl,hWn,decide_eq_true (show(lo:Int)<n by omega)]<;>rfl) (k1:=by simp;try omega) (c1:=.cg qc) (h2:=by simp only[go_sem,decide_eq_false hne]<;>rfl);exact⟨rfl,[(0,0)],(),rfl,(by simp only[go_sem,hWn,hWl]<;>rfl),trivial⟩
  ·have hgn:W[lo]?=none:=List.getElem?_eq_none (by omega);have hlt:(lo:Int).toNat=lo:=Int.toNat_natCast lo;apply EvC.tr
   ·apply Tr.run
    ·simp only[go_sem,hWl,hWn,hgn,hlt,decide_eq_false (show ¬(lo:Int)<n by omega)]<;>rfl
    ·simp
    apply Tr.cons
    ·exact .skipv (.sl true [] .unk) rfl rfl (by simp only[go_sem]<;>rfl) (by simp only[go_sem]<;>rfl)
    apply Tr.run
    ·simp only[go_sem,hWl,hWn,hgn,hlt,decide_eq_false (show ¬(lo:Int)<n by omega)]<;>rfl
    ·simp
    apply Tr.cons
    ·exact .skipv (.sc (.int .i64 0)) rfl rfl (by simp only[go_sem]<;>rfl) (by simp only[go_sem]<;>rfl)
    apply Tr.done
    ·simp only[go_sem]<;>rfl
    ·simp
   exact⟨rfl,[(0,0)],(),rfl,(by simp only[go_sem,hWn,hWl]<;>rfl),trivial⟩
 rintro _ -;refine EvC.cs ?_;have hno:AV.norefs [.sl true [] .zer]=true:=rfl;have hr1:room (n+1) 24=true:=by simp only[room_eq,decide_eq_true_eq];omega
 refine EvC.a ?_ (by simp only[go_sem,hWl,hWn]<;>rfl) (by simp[hr1]);refine EvC.seq ?_;refine EvC.a ?_ (by simp only[go_sem,hWl,hWn,List.length_append,List.length_cons,List.length_nil,Int.natCast_add,Int.natCast_one]<;>rfl) (by exact inI64_of (by omega) (by omega));refine EvC.block ?_;have h0:W.map rwC++[[.sl true [] .zer]]=holeW W n [.sl true [] .zer]:=by
  unfold holeW;rw[hn,List.take_length,List.drop_length];rfl
 rw[h0];have hn1:(n:Int)+1-1=n:=by omega
 refine EvC.loopS (σ:=Nat×List AV) (fun g=>⟨[(0,.tl 0 (n+1) false),(1,.sl wn (w.map intC) wc),(5,.sc (.int .i64 lo)),(8,.sc (.int .i64 g.1))],[],[(0,.arr 1 (holeW W g.1 g.2) false)],1⟩) (fun g=>g.1-lo) (fun g=>lo≤g.1∧g.1≤n∧AV.norefs g.2=true∧g.2.length=1) [0,1,5,8] 1 ?_ ?_
 ·have hH:=holeW_norefs (W:=W) (i:=n) hno;have hHl:=holeW_len (W:=W) (i:=n) (h:=[.sl true [] .zer]) (by omega);exact⟨[(0,0)],(n,[.sl true [] .zer]),rfl,(by simp only[go_sem,hH,hHl,hn1]<;>rfl),by simp only;omega,Nat.le_refl _,hno,rfl⟩
 rintro⟨i,h⟩ ⟨j1,j2,j3,j4⟩;simp only at j1 j2 j3 j4⊢;have hH:=holeW_norefs (W:=W) (i:=i) j3;have hHl:=holeW_len (W:=W) (i:=i) (h:=h) (by omega);rw[←hn]at hHl;have hat:=holeW_at (W:=W) (i:=i) (h:=h) (by omega);obtain⟨hv,rfl⟩:∃v,h=[v]:=by
  match h,j4 with
  | [v],_=>exact⟨v,rfl⟩
 refine EvC.seq ?_;refine EvC.a ?_ (by simp only[go_sem,hH,hHl]<;>rfl);by_cases hil:lo<i
 ·refine EvC.cr ?_ (by simp only[go_sem,decide_eq_true (show(lo:Int)<i by omega)]<;>rfl);obtain⟨k,rfl⟩:∃k,i=k+1:=⟨i-1,by omega⟩;have hkl:k+1≤W.length:=by omega
  have hge:=holeW_get (h:=[hv]) hkl;have hse:=holeW_set (h:=[hv]) hkl;have hrl:(rwC (W[k]'(by omega))).length=1:=rfl;have hrn:AV.norefs (rwC (W[k]'(by omega)))=true:=by simp[rwC,AV.norefs,AV.noref]
  have hH2:=holeW_norefs (W:=W) (i:=k) hrn;have hHl2:=holeW_len (W:=W) (i:=k) (h:=rwC (W[k]'(by omega))) (by omega);obtain⟨iZ,hiZ⟩:∃z:Int,z=((k+1:Nat):Int):=⟨_,rfl⟩;rw[←hiZ];have e1:iZ.toNat=k+1:=by omega
  have e2:(iZ-1).toNat=k:=by omega
  have hI:inI64 (iZ-1)=true:=inI64_of (by omega) (by omega);have hb:0≤iZ∧1≤iZ∧k<n+1∧k+1<n+1:=by omega
  have hrw:rwC (W[k]'(by omega))=[.sl (W[k]'(by omega)).1 ((W[k]'(by omega)).2.1.map intC) (W[k]'(by omega)).2.2]:=rfl;rw[hrw]at hge hse hrl hrn hH2 hHl2;refine EvC.seq ?_;refine EvC.block ?_;refine EvC.b ?_ (by simp only[go_sem,hge,hse,hat,e1,e2,hH,hHl,hH2,hHl2]<;>rfl) (by simp[hI,hb,hHl];try omega);refine EvC.b ?_ (by simp only[go_sem,hH2]<;>rfl) (by simp[hI]);have e3:iZ-1=(k:Int):=by omega
  replace hHl2:=hHl2.trans (show W.length+1=n+1 by omega)
  exact⟨[(0,0)],(k,rwC (W[k]'(by omega))),rfl,(by rw[hrw];simp only[go_sem,hH2,hHl2,e3]<;>rfl),⟨by simp only;omega,by simp only;omega,hrn,hrl⟩,by simp only;omega⟩
 obtain rfl:i=lo:=by omega
 refine EvC.cf ?_ (by simp only[go_sem,decide_eq_false (show ¬(i:Int)<i by omega)]<;>rfl);refine EvC.exit ?_;have hpu:=holeW_put (h:=[hv]) (show i≤W.length by omega) (false,w,.unk);rw[←hput]at hpu;have hpl:(insW W (false,w,.unk)).length=n+1:=by rw[hput,List.length_append,List.length_cons,List.length_take,List.length_drop];omega
 simp only[rwC]at hpu;have hir:=norefs_rw (insW W (false,w,.unk));have hirl:((insW W (false,w,.unk)).map rwC).length=n+1:=by rw[List.length_map,hpl]
 rw[wM];generalize insW W (false,w,.unk)=V at hpu hpl hir hirl⊢;rw[hpl];change _=V.map rwC at hpu;generalize V.map rwC=VC at hpu hir hirl⊢;have hit:(i:Int).toNat=i:=Int.toNat_natCast i;have hrw:room w.length 8=true:=by simp only[room_eq,decide_eq_true_eq];omega
 refine EvC.a ?_ (by simp only[go_sem,hat,hit,hHl,hwn,hwL]<;>rfl) (by simp[hrw];exact⟨fun _ _=>rfl,by omega⟩);have hg1:((holeW W i [hv]).set i [.tl 8 w.length false])[i]?=some [.tl 8 w.length false]:=List.getElem?_set_self (by omega);have hl1:((holeW W i [hv]).set i [.tl 8 w.length false]).length=n+1:=by rw[List.length_set];exact hHl
 have hs1:∀x,((holeW W i [hv]).set i [.tl 8 w.length false]).set i x=(holeW W i [hv]).set i x:=fun x=>List.set_set ..;refine EvC.frz 8 (by simp only[go_sem,hwn,hwL]<;>rfl) ?_;refine EvC.snapE 0 i (by simp only[go_sem,hg1,hl1,hs1,hpu,hwn,hwL]<;>rfl) ?_;refine EvC.gcE [0] [(0,0)] 1 (st2:=⟨[(0,.tl 0 (n+1) false)],[],[(0,.arr 1 VC false)],1⟩) rfl (by simp only[go_sem,hir,hirl]<;>rfl) ?_;refine EvC.a ?_ (by simp only[go_sem,hir,hirl]<;>rfl);refine EvC.ret ⟨.inl rfl,_,(by simp only[go_sem]<;>rfl),?_⟩;exact⟨rfl,rfl⟩
def sortL(W:List RW)(l:List RW):List RW:=l.foldl (fun V x=>insW V (false,x.2.1,.unk)) W
def sortW(W:List RW):List RW:=sortL [] W
theorem sortL_srt:∀(l W:List RW),SrtW W→SrtW (sortL W l)
 | [],_,h=>h
 | x::l,W,h=>sortL_srt l _ (insW_srt h)
theorem sortL_len:∀(l W:List RW),(sortL W l).length≤W.length+l.length
 | [],W=>by simp[sortL]
 | x::l,W=>by
   have h1:=sortL_len l (insW W (false,x.2.1,.unk));have h2:=insW_len (false,x.2.1,.unk) W;show(sortL (insW W (false,x.2.1,.unk)) l).length≤_;rw[List.length_cons];omega
theorem sortL_mem{z:RW}:∀{l W:List RW},z∈sortL W l→z∈W∨∃x∈l,z.2.1=x.2.1
 | [],W,h=>.inl h
 | x::l,W,h=>by
   rcases sortL_mem (l:=l) (W:=insW W (false,x.2.1,.unk)) h with h|⟨y,hy,e⟩
   ·rcases insW_mem h with h|h
    ·exact .inr ⟨x,List.mem_cons_self,by rw[h]⟩
    ·exact .inl h
   ·exact .inr ⟨y,List.mem_cons_of_mem _ hy,e⟩
theorem sortW_srt(l:List RW):SrtW (sortW l):=sortL_srt l [] List.Pairwise.nil
theorem sortW_len(l:List RW):(sortW l).length≤l.length:=by have:=sortL_len l [];simpa[sortW]using this
theorem sortW_mem{z:RW}{l:List RW}(h:z∈sortW l):∃x∈l,z.2.1=x.2.1:=by
 rcases sortL_mem h with h|h
 ·cases h
 ·exact h
theorem sortL_snoc(W l:List RW)(x:RW):sortL W (l++[x])=insW (sortL W l) (false,x.2.1,.unk):=by simp[sortL]
set_option maxHeartbeats 4000000 in
theorem sort58_is(wn:Bool)(W:List RW)(wc:Cp)(hl:W.length<100000)(hW:∀x∈W,x.2.1.length<1000000):
  PureIs prog 84 [.sl wn (W.map rwC) wc] (.sl (sortW W).isEmpty ((sortW W).map rwC) .unk):=by
 have hWl:(W.map rwC).length=W.length:=List.length_map _;have hWn:=norefs_rw W;refine PureIs.of1 1 [2,3,4,8,11,15] func84 ntmps84 results84 fun _=>?_;refine EvC.a ?_;refine EvC.a ?_;refine EvC.thaw 1 (by simp only[go_sem]<;>rfl) ?_;refine EvC.seq ?_;refine EvC.a ?_;refine EvC.block ?_;refine EvC.loopS (σ:=Nat) (fun i=>⟨[(0,.sl wn (W.map rwC) wc),(3,.tl 0 (sortW (W.take i)).length (decide ((sortW (W.take i)).length=0))),(4,.sc (.int .i64 i))],[],wM (sortW (W.take i)),1⟩) (fun i=>W.length-i) (fun i=>i≤W.length) [0,3,4] 1 ?_ ?_
 ·have hz:sortW (W.take 0)=[]:=by simp[sortW,sortL]
  exact⟨[(1,0)],0,rfl,(by rw[hz,wM];simp only[go_sem,Int.natCast_zero,List.length_nil,List.map_nil]<;>rfl),Nat.zero_le _⟩
 intro i hi;obtain⟨V,hV⟩:∃V,V=sortW (W.take i):=⟨_,rfl⟩;have hVl:V.length≤i:=by rw[hV];have:=sortW_len (W.take i);rw[List.length_take]at this;omega
 have hVs:SrtW V:=by rw[hV];exact sortW_srt _
 have hVm:∀x∈V,x.2.1.length<1000000:=fun x hx=>by
  rw[hV]at hx;obtain⟨y,hy,e⟩:=sortW_mem hx;rw[e];exact hW y (List.mem_of_mem_take hy)
 have hn:∀(w:RW),W[i]?=some w→sortW (W.take (i+1))=insW V (false,w.2.1,.unk):=fun w h=>by
  obtain⟨h1,h2⟩:=List.getElem?_eq_some_iff.1 h;rw[List.take_succ_eq_append_getElem h1,h2,sortW,sortL_snoc,hV];rfl
 have hend:i=W.length→V=sortW W:=fun h=>by rw[hV,h,List.take_length]
 rw[←hV];clear hV;have hVn:=norefs_rw V;have hVc:(V.map rwC).length=V.length:=List.length_map _;refine EvC.seq ?_;refine EvC.a ?_ (by simp only[go_sem,hWl,wM]<;>rfl);refine EvC.cd (fun hc=>?_) (fun hc=>?_);rotate_left
 ·refine EvC.exit ?_;have hi2:i=W.length:=by have:¬i<W.length:=(by simpa using hc);omega
  rw[←hend hi2];have hVe:V.isEmpty=decide (V.length=0):=by cases V<;>simp
  rw[hVe];generalize decide (V.length=0)=e;refine EvC.frz 0 (by simp only[go_sem,wM,hVn,hVc]<;>rfl) ?_;refine EvC.a ?_;refine EvC.rz ?_;simp only[go_sem]
 have hil:i<W.length:=by simpa using hc
 clear hc;have hge:W[i]?=some (W[i]'hil):=List.getElem?_eq_getElem hil;have hwm:=hW _ (List.getElem_mem hil);have hn:=hn _ hge;generalize W[i]'hil=w at hge hwm hn;have hrg:=rw_get hge;have hit:(i:Int).toNat=i:=Int.toNat_natCast i;refine EvC.skip ?_;refine EvC.seq ?_;refine EvC.block ?_;apply EvC.region;apply XR.run
 ·simp only[go_sem,hrg,hit,hWl]<;>rfl
 ·simp;try omega
 refine XR.gcTo ⟨[(0,.sl wn (W.map rwC) wc),(4,.sc (.int .i64 i)),(11,.tl 0 V.length (decide (V.length=0))),(15,.sl w.1 (w.2.1.map intC) w.2.2)],[],wM V,1⟩ [0,4,11,15] [(0,0)] rfl (by simp only[go_sem,wM,hVn,hVc]<;>rfl) ?_;apply XR.callI rfl rfl (by simp only[go_sem]<;>rfl) (by simp only[go_sem]<;>rfl) (by simp only[go_sem]<;>rfl);refine(put_body V hVs (by omega) hVm w.1 w.2.1 w.2.2 hwm).mono fun r M z h=>?_;obtain⟨rfl,rfl⟩:=h;rw[←hn];have hle:=(insW_len (false,w.2.1,.unk) V).2;rw[←hn]at hle;have hdz:decide ((sortW (W.take (i+1))).length=0)=false:=decide_eq_false (by omega);have hSn:=norefs_rw (sortW (W.take (i+1)));have hSc:((sortW (W.take (i+1))).map rwC).length=(sortW (W.take (i+1))).length:=List.length_map _;apply XR.done
 ·simp only[go_sem]<;>rfl
 ·simp
 refine EvC.bi ?_;exact⟨[(0,0)],i+1,rfl,(by rw[hdz];simp only[go_sem,wM,hSn,hSc,Int.natCast_add,Int.natCast_one]<;>rfl),hil,by omega⟩
def rowN(m:Mach)(s:Nat):List (Int×Int):=((m.rows[s]?).map (·.2)).getD []
def boolC(b:Bool):List AV:=[.sc (.bool b)]
@[go_sem] theorem norefs_bool(l:List Bool):(l.map boolC).all AV.norefs=true:=by simp[List.all_eq_true,boolC,AV.norefs,AV.noref]
def ex(xs:List (Int×Int))(a:Nat):Int×Int:=xs[a]?.getD (-1,-1)
theorem fits_cases{n o a b:Int}(h:fitsR n o a b=true):(a=-1∧b=-1)∨(0≤a∧a<n∧0≤b∧b<o):=by
 unfold fitsR at h;simp at h;omega
theorem step_ex(m:Mach)(s a:Nat):stepR m s a=ex (rowN m s) a:=by
 rw[stepR,if_neg (by omega)];simp[ex,rowN]
theorem row_len{m:Mach}(hv:Valid m){s:Nat}(hs:s<m.rows.length):(rowN m s).length=m.ins.toNat:=by
 have h1:m.rows[s]?=some m.rows[s]:=List.getElem?_eq_getElem hs;have:=(hv.row _ (List.getElem_mem hs)).1;simp only[rowN,h1,Option.map_some,Option.getD_some];omega
theorem exr_fits{m:Mach}(hv:Valid m){s a:Nat}(hs:s<m.rows.length)(ha:a<m.ins.toNat):
  ((ex (rowN m s) a).1=-1∧(ex (rowN m s) a).2=-1)∨(0≤(ex (rowN m s) a).1∧(ex (rowN m s) a).1<m.rows.length∧0≤(ex (rowN m s) a).2∧(ex (rowN m s) a).2<m.outs):=by
 obtain⟨r,e,_,_,h3,h4⟩:=stepR_get hv (s:=(s:Int)) (a:=(a:Int)) (by omega) (by omega) (by omega);rw[step_ex]at h3;rw[h3];exact fits_cases h4
theorem run_cons(m:Mach)(s a:Nat)(w:List Int):runR m s ((a:Int)::w)=(ex (rowN m s) a).2::runR m (ex (rowN m s) a).1 w:=by
 rw[runR,step_ex]
structure WV (m:Mach):Prop where
 ins:1≤m.ins∧m.ins≤16
 rows:1≤m.rows.length∧m.rows.length≤1000
 row:∀r∈m.rows,(r.2.length:Int)=m.ins∧∀e∈r.2,fitsR m.rows.length m.outs e.1 e.2=true
theorem Valid.w{m:Mach}(h:Valid m):WV m:=⟨h.ins,⟨h.rows.1,by have:=h.rows.2;omega⟩,h.row⟩
theorem row_lenW{m:Mach}(hv:WV m){s:Nat}(hs:s<m.rows.length):(rowN m s).length=m.ins.toNat:=by
 have h1:m.rows[s]?=some m.rows[s]:=List.getElem?_eq_getElem hs;have:=(hv.row _ (List.getElem_mem hs)).1;simp only[rowN,h1,Option.map_some,Option.getD_some];omega
theorem ex_fitsW{m:Mach}(hv:WV m){s a:Nat}(hs:s<m.rows.length)(ha:a<m.ins.toNat):
  ((ex (rowN m s) a).1=-1∧(ex (rowN m s) a).2=-1)∨(0≤(ex (rowN m s) a).1∧(ex (rowN m s) a).1<m.rows.length∧0≤(ex (rowN m s) a).2∧(ex (rowN m s) a).2<m.outs):=by
 have h0:=row_lenW hv hs;have h1:m.rows[s]?=some m.rows[s]:=List.getElem?_eq_getElem hs;have h2:=(hv.row _ (List.getElem_mem hs)).2;have h3:rowN m s=m.rows[s].2:=by simp[rowN,h1]
 have h4:a<(rowN m s).length:=by omega
 have h5:ex (rowN m s) a=(rowN m s)[a]:=by rw[ex,List.getElem?_eq_getElem h4];rfl
 rw[h5];refine fits_cases (h2 _ ?_);rw[←h3];exact List.getElem_mem h4
theorem ex_bothW{m:Mach}(hv:WV m){s t a:Nat}(hs:s<m.rows.length)(ht:t<m.rows.length)(ha:a<m.ins.toNat)(h:(ex (rowN m s) a).2=(ex (rowN m t) a).2):
  ((ex (rowN m s) a).1=-1∧(ex (rowN m t) a).1=-1)∨∃p q:Nat,(ex (rowN m s) a).1=(p:Int)∧(ex (rowN m t) a).1=(q:Int)∧p<m.rows.length∧q<m.rows.length:=by
 have h1:=ex_fitsW hv hs ha;have h2:=ex_fitsW hv ht ha;rcases h1 with h1|h1<;>rcases h2 with h2|h2
 ·exact .inl ⟨h1.1,h2.1⟩
 ·omega
 ·omega
 ·exact .inr ⟨(ex (rowN m s) a).1.toNat,(ex (rowN m t) a).1.toNat,by omega,by omega,by omega,by omega⟩
abbrev Mtx:=Nat→Nat→Bool
def mrow(cp:Cp)(n:Nat)(M:Mtx)(i:Nat):List AV:=[.sl false (((List.range n).map (M i)).map boolC) cp]
@[go_sem] theorem norefs_mrow(cp:Cp)(n:Nat)(M:Mtx)(l:List Nat):(l.map (mrow cp n M)).all AV.norefs=true:=by
 rw[List.all_eq_true];intro y hy;obtain⟨i,_,rfl⟩:=List.mem_map.1 hy;simp only[mrow,AV.norefs,AV.noref,norefs_bool,Bool.and_self]
def condM(M:Mtx)(x y:Int×Int):Bool:=!decide (x.2=y.2)||(decide (0≤x.1)&&decide (0≤y.1)&&M x.1.toNat y.1.toNat)
def apartB(m:Mach)(M:Mtx)(s t:Nat):Bool:=(List.range m.ins.toNat).any fun a=>condM M (ex (rowN m s) a) (ex (rowN m t) a)
theorem any_range{n i:Nat}{p:Nat→Bool}(hi:i<n)(hp:p i=true):(List.range n).any p=true:=List.any_eq_true.2 ⟨i,List.mem_range.2 hi,hp⟩
set_option maxHeartbeats 4000000 in
theorem apart_is{m:Mach}(hv:WV m)(M:Mtx)(cp cq:Cp)(nl:Bool)(s t:Nat)(hs:s<m.rows.length)(ht:t<m.rows.length):
  PureIs prog 109 [.ag m.cells,.sl nl ((List.range m.rows.length).map (mrow cp m.rows.length M)) cq,.sc (.int .i64 s),.sc (.int .i64 t)] (.sc (.int .i64 (if apartB m M s t=true then 1 else 0))):=by
 have hins:=hv.ins;have hes:m.rows[s]?=some m.rows[s]:=List.getElem?_eq_getElem hs;have het:m.rows[t]?=some m.rows[t]:=List.getElem?_eq_getElem ht;have hls:=row_lenW hv hs;have hlt:=row_lenW hv ht;have hrs:rowN m s=m.rows[s].2:=by simp[rowN,hes]
 have hrt:rowN m t=m.rows[t].2:=by simp[rowN,het]
 generalize m.rows[s]=r at hes hrs;generalize m.rows[t]=q at het hrt;refine PureIs.of1 5 [8,9,10,11,15,59] func109 ntmps109 results109 fun _=>?_;refine EvC.a ?_ (by simp only[go_sem,Mach.cells]<;>rfl);refine EvC.z 0 ?_;refine EvC.seq ?_;refine EvC.a ?_;refine EvC.block ?_;refine EvC.loopS (σ:=Nat) (fun a=>⟨[(1,.sl nl ((List.range m.rows.length).map (mrow cp m.rows.length M)) cq),(2,.sc (.int .i64 s)),(3,.sc (.int .i64 t)),(4,.ia m.cells),(9,.sc (.int .i64 a))],[],[],0⟩) (fun a=>m.ins.toNat-a)
  (fun a=>a≤m.ins.toNat∧∀b<a,condM M (ex (rowN m s) b) (ex (rowN m t) b)=false) [1,2,3,4,9] 0 ?_ ?_
 ·exact⟨[],0,rfl,(by simp only[go_sem,Mach.cells]<;>rfl),Nat.zero_le _,fun b hb=>by omega⟩
 rintro a ⟨h1,h2⟩;refine EvC.seq ?_;refine EvC.a ?_ (by simp only[go_sem,Mach.cells]<;>rfl);refine EvC.cd (fun hc=>?_) (fun hc=>?_);rotate_left
 ·refine EvC.exit ?_;have ha:¬(a:Int)<m.ins:=by simpa using hc
  refine EvC.a ?_;refine EvC.rz ?_;simp only[go_sem];rw[if_neg];rw[apartB,Bool.not_eq_true,List.any_eq_false];intro b hb;rw[h2 b (by have:=List.mem_range.1 hb;omega)];simp
 have ha:a<m.ins.toNat:=by have:(a:Int)<m.ins:=by simpa using hc
                           omega
 clear hc;have hxs:r.2[a]?=some (ex (rowN m s) a):=by
  rw[hrs]at hls⊢;rw[ex,List.getElem?_eq_getElem (by omega)];rfl
 have hxt:q.2[a]?=some (ex (rowN m t) a):=by
  rw[hrt]at hlt⊢;rw[ex,List.getElem?_eq_getElem (by omega)];rfl
 have hI1:inI64 ((a:Int)+1)=true:=inI64_of (by omega) (by omega);have hbo:=fun h=>ex_bothW hv hs ht ha h;have hxf:=ex_fitsW hv hs ha;have hyf:=ex_fitsW hv ht ha;have hap:condM M (ex (rowN m s) a) (ex (rowN m t) a)=true→apartB m M s t=true:=fun h=>any_range ha h;have hnx:condM M (ex (rowN m s) a) (ex (rowN m t) a)=false→∀b<a+1,condM M (ex (rowN m s) b) (ex (rowN m t) b)=false:=fun h b hb=>by
  by_cases e:b=a
  ·subst e;exact h
  ·exact h2 b (by omega)
 generalize ex (rowN m s) a=x at hxs hbo hap hnx hxf;generalize ex (rowN m t) a=y at hxt hbo hap hnx hyf;refine EvC.skip ?_;refine EvC.seq ?_;refine EvC.block ?_;refine EvC.d mixed ?_ (h:=by simp only[go_sem,Mach.cells,Int.toNat_natCast,hes,het,hxs,hxt,rowC,edgeC]<;>rfl) (hok:=by simp;try omega);by_cases ho:x.2=y.2
 ·have ho':decide (x.2=y.2)=true:=decide_eq_true ho;have hbo:=hbo ho;rcases hbo with⟨e1,e2⟩|⟨p,u,e1,e2,hp,hu⟩
  ·have d1:decide (0≤x.1)=false:=decide_eq_false (by omega);have t1:x.1.toNat=0:=by omega
   have t2:y.1.toNat=0:=by omega
   have hpg:(List.range m.rows.length)[0]?=some 0:=List.getElem?_range (by omega);refine EvC.d mixed ?_ (h:=by simp only[go_sem,ho,ho',d1,decide_not,t1,t2,hpg,mrow,boolC,List.length_map,List.length_range]<;>rfl) (hok:=by simp;try omega);refine EvC.cs ?_ (by simp only[go_sem,ho,d1]<;>rfl);refine EvC.b ?_ (hok:=by simpa using hI1);exact⟨[],a+1,rfl,(by simp only[go_sem,Mach.cells,Int.natCast_add,Int.natCast_one]<;>rfl),⟨by omega,hnx (by simp[condM,ho,e1])⟩,by omega⟩
  ·have d1:decide (0≤x.1)=true:=decide_eq_true (by omega);have d2:decide (0≤y.1)=true:=decide_eq_true (by omega);have hpg:(List.range m.rows.length)[p]?=some p:=List.getElem?_range hp;have hug:(List.range m.rows.length)[u]?=some u:=List.getElem?_range hu;obtain⟨b,hb⟩:∃b,M p u=b:=⟨_,rfl⟩;have hcd:condM M x y=b:=by simp[condM,ho,e1,e2,hb]
   have t1:x.1.toNat=p:=by omega
   have t2:y.1.toNat=u:=by omega
   refine EvC.d mixed ?_ (h:=by simp only[go_sem,ho,ho',d1,d2,decide_not,t1,t2,hpg,hug,mrow,boolC,hb,List.length_map,List.length_range]<;>rfl) (hok:=by simp;try omega);cases b
   ·refine EvC.cs ?_ (by simp only[go_sem,ho,d1,d2,hb]<;>rfl);refine EvC.b ?_ (hok:=by simpa using hI1);exact⟨[],a+1,rfl,(by simp only[go_sem,Mach.cells,Int.natCast_add,Int.natCast_one]<;>rfl),⟨by omega,hnx hcd⟩,by omega⟩
   ·refine EvC.ct ?_ (by simp only[go_sem,ho,d1,d2,hb]<;>rfl);refine EvC.a ?_;refine EvC.rz ?_;simp only[go_sem];rw[if_pos (hap hcd)]
 ·have ho':decide (x.2=y.2)=false:=decide_eq_false ho;clear hbo;have hpg:(List.range m.rows.length)[x.1.toNat]?=some x.1.toNat:=List.getElem?_range (by omega);have hug:(List.range m.rows.length)[y.1.toNat]?=some y.1.toNat:=List.getElem?_range (by omega);refine EvC.d mixed ?_ (h:=by simp only[go_sem,ho,ho',decide_not,hpg,hug,mrow,boolC,List.length_map,List.length_range]<;>rfl) (hok:=by simp;try omega);refine EvC.ct ?_ (by simp only[go_sem,ho]<;>rfl);refine EvC.a ?_;refine EvC.rz ?_;simp only[go_sem];rw[if_pos (hap (by simp[condM,ho]))]
def iterM(m:Mach):Nat→Mtx
 | 0=>fun _ _=>false
 | k+1=>fun s t=>iterM m k s t||apartB m (iterM m k) s t
def mtab(n:Nat)(M:Mtx)(i:Nat):List (List AV):=(List.range i).map (mrow .unk n M)
theorem mtab_len(n:Nat)(M:Mtx)(i:Nat):(mtab n M i).length=i:=by simp[mtab]
@[go_sem] theorem norefs_mtab(n:Nat)(M:Mtx)(i:Nat):(mtab n M i).all AV.norefs=true:=norefs_mrow _ _ _ _
theorem mtab_get{n:Nat}{M:Mtx}{i k:Nat}(h:k<i):(mtab n M i)[k]?=some (mrow .unk n M k):=by
 rw[mtab,List.getElem?_map,List.getElem?_range h];rfl
theorem mtab_succ(n:Nat)(M:Mtx)(i:Nat):mtab n M i++[mrow .unk n M i]=mtab n M (i+1):=by
 rw[mtab,mtab,List.range_succ,List.map_append];rfl
@[go_sem] theorem mtab_ren(n:Nat)(M:Mtx)(i:Nat)(ρ:List (Nat×Nat)):(mtab n M i).map (fun c=>c.map (AV.ren ρ))=mtab n M i:=by
 rw[mtab,List.map_map];refine List.map_congr_left fun k _=>?_;simp only[Function.comp,mrow,List.map_cons,List.map_nil];rfl
set_option maxHeartbeats 8000000 in
theorem marked_is{m:Mach}(hv:WV m)(k:Nat)(hk:k<1000000):PureIs prog 105 [.ag m.cells,.sc (.int .i64 k)] (.sl false (mtab m.rows.length (iterM m k) m.rows.length) .unk):=by
 have hrw:=hv.rows;obtain⟨n,hn⟩:∃n,n=m.rows.length:=⟨_,rfl⟩;have hz:∀M:Mtx,∀s,(∀t<n,M s t=false)→List.replicate n [AV.sc (.bool false)]=((List.range n).map (M s)).map boolC:=fun M s h=>by
  rw[List.map_map];refine List.ext_getElem (by simp) fun i h1 h2=>?_;simp[boolC,h i (by simpa using h2)]
 have htn:((n:Nat):Int).toNat=n:=Int.toNat_natCast n;refine PureIs.of1 3 [4,5,6,7,8,9,10,11,17,27,32,42,23,38] func105 ntmps105 results105 fun _=>?_;refine EvC.a ?_ (by simp only[go_sem,Mach.cells]<;>rfl);refine EvC.z 0 ?_;refine EvC.a ?_ (by simp only[go_sem,←hn]<;>rfl);refine EvC.a ?_;refine EvC.seq ?_;refine EvC.a ?_;refine EvC.block ?_;refine EvC.thaw 6 (by simp only[go_sem]<;>rfl) ?_;obtain⟨M0,hM0⟩:∃M0,M0=iterM m 0:=⟨_,rfl⟩;refine EvC.loopS (σ:=Nat) (fun i=>⟨[(1,.sc (.int .i64 k)),(2,.ia m.cells),(5,.sc (.int .i64 n)),(6,.tl 0 i (i==0)),(7,.sc (.int .i64 i))],[],[(0,.arr 1 (mtab n M0 i) false)],1⟩) (fun i=>n-i) (fun i=>i≤n) [1,2,5,6,7] 1 ?_ ?_
 ·refine⟨[(6,0)],0,rfl,(by simp only[mtab,List.range_zero,List.map_nil];simp only[go_sem,Mach.cells]<;>rfl),Nat.zero_le _⟩
 intro i hi;have hml:=mtab_len n M0 i;refine EvC.seq ?_;refine EvC.a ?_;refine EvC.cd (fun hc=>?_) (fun hc=>?_);rotate_left
 ·refine EvC.exit ?_
  obtain rfl:i=n:=by have:¬i<n:=by simpa using hc
                     omega
  have hn0:(i==0)=false:=by simp;omega
  refine EvC.frz 0 (by simp only[go_sem,hn0,hml]<;>rfl) ?_;clear hc;refine EvC.seq ?_;refine EvC.a ?_;refine EvC.block ?_;refine EvC.loopS (σ:=Nat) (fun r=>⟨[(1,.sc (.int .i64 k)),(2,.ia m.cells),(5,.sc (.int .i64 i)),(6,.sl false (mtab i (iterM m r) i) .unk),(8,.sc (.int .i64 r))],[],[],0⟩) (fun r=>k-r) (fun r=>r≤k) [1,2,5,6,8] 0 ?_ ?_
  ·exact⟨[],0,rfl,(by rw[←hM0];simp only[go_sem]<;>rfl),Nat.zero_le _⟩
  intro r hr;obtain⟨M,hM⟩:∃M,M=iterM m r:=⟨_,rfl⟩;obtain⟨M',hM'⟩:∃M',M'=iterM m (r+1):=⟨_,rfl⟩;have hMM:∀s t,M' s t=(M s t||apartB m M s t):=fun s t=>by rw[hM',hM];rfl
  rw[←hM];refine EvC.seq ?_;refine EvC.a ?_;refine EvC.cd (fun hc=>?_) (fun hc=>?_);rotate_left
  ·refine EvC.exit ?_
   obtain rfl:r=k:=by have:¬r<k:=by simpa using hc
                      omega
   refine EvC.a ?_;refine EvC.rz ?_;simp only[go_sem];rw[hM,hn]
  have hrk:r<k:=by simpa using hc
  clear hc;refine EvC.skip ?_;refine EvC.seq ?_;refine EvC.block ?_;refine EvC.a ?_;refine EvC.seq ?_;refine EvC.a ?_;refine EvC.block ?_;refine EvC.thaw 3 (by simp only[go_sem]<;>rfl) ?_;refine EvC.loopS (σ:=Nat) (fun s=>⟨[(1,.sc (.int .i64 k)),(2,.ia m.cells),(5,.sc (.int .i64 i)),(6,.sl false (mtab i M i) .unk),(8,.sc (.int .i64 r)),(9,.tl 0 s (s==0)),(10,.sc (.int .i64 s))],[],[(0,.arr 1 (mtab i M' s) false)],1⟩) (fun s=>i-s) (fun s=>s≤i) [1,2,5,6,8,9,10] 1 ?_ ?_
  ·refine⟨[(3,0)],0,rfl,(by simp only[mtab,List.range_zero,List.map_nil];simp only[go_sem,mtab]<;>rfl),Nat.zero_le _⟩
  intro s hs;have hml':=mtab_len i M' s;refine EvC.seq ?_;refine EvC.a ?_;refine EvC.cd (fun hc=>?_) (fun hc=>?_);rotate_left
  ·refine EvC.exit ?_
   obtain rfl:s=i:=by have:¬s<i:=by simpa using hc
                      omega
   refine EvC.frz 0 (by simp only[go_sem,hn0,hml']<;>rfl) ?_;refine EvC.b ?_;have hI9:inI64 ((r:Int)+1)=true:=inI64_of (by omega) (by omega);refine EvC.b ?_ (hok:=by simpa using hI9);exact⟨[],r+1,rfl,(by rw[←hM'];simp only[go_sem,Int.natCast_add,Int.natCast_one]<;>rfl),hrk,by omega⟩
  have hsi:s<i:=by simpa using hc
  clear hc;refine EvC.skip ?_;refine EvC.seq ?_;refine EvC.block ?_;have hzi:List.replicate i [AV.sc (.bool false)]=(List.replicate i false).map boolC:=by simp[boolC]
  refine EvC.a ?_ (by simp only[go_sem,htn,hml',hzi,List.length_map,List.length_replicate]<;>rfl) (by simp[room_eq,AV.norefs,AV.noref,hml'];omega);refine EvC.a ?_;have hgl:∀c:List AV,(mtab i M' s++[c])[s]?=some c:=fun c=>by rw[List.getElem?_append_right (by omega),hml',Nat.sub_self];rfl
  have hst:∀c d:List AV,(mtab i M' s++[c]).set s d=mtab i M' s++[d]:=fun c d=>by
   have:=set_mid (mtab i M' s) [] c d;rw[hml']at this;exact this
  have hll:∀c:List AV,(mtab i M' s++[c]).length=s+1:=fun c=>by simp[hml']
  refine EvC.block ?_;refine EvC.loopS (σ:=Nat×List Bool) (fun g=>⟨[(1,.sc (.int .i64 k)),(2,.ia m.cells),(5,.sc (.int .i64 i)),(6,.sl false (mtab i M i) .unk),(8,.sc (.int .i64 r)),(9,.tl 0 (s+1) false),(10,.sc (.int .i64 s)),(11,.sc (.int .i64 g.1))],[],[(0,.arr 1 (mtab i M' s++[[.tl 1 i false]]) false),(1,.arr 1 (g.2.map boolC) false)],2⟩) (fun g=>i-g.1)
   (fun g=>g.1≤i∧g.2=(List.range g.1).map (M' s)++List.replicate (i-g.1) false) [1,2,5,6,8,9,10,11] 2 ?_ ?_
  ·refine⟨[(0,0),(6,1)],(0,List.replicate i false),rfl,(by simp only[go_sem]<;>rfl),Nat.zero_le _,rfl⟩
  rintro⟨t,B⟩ ⟨t1,t2⟩;simp only at t1 t2;have hBl:B.length=i:=by rw[t2];simp;omega
  refine EvC.seq ?_;refine EvC.a ?_;refine EvC.cd (fun hc=>?_) (fun hc=>?_);rotate_left
  ·refine EvC.exit ?_
   obtain rfl:t=i:=by have:¬t<i:=by simpa using hc
                      omega
   have hB:B=(List.range t).map (M' s):=by rw[t2];simp
   subst hB;refine EvC.frz 1 (by simp only[go_sem,List.length_map,List.length_range]<;>rfl) ?_;refine EvC.snapE 0 s (by simp only[go_sem,hgl,hst,List.length_map,List.length_range]<;>rfl) ?_;have hI5:inI64 ((s:Int)+1)=true:=inI64_of (by omega) (by omega);have hne:(s+1==0)=false:=rfl;refine EvC.b ?_ (hok:=by simpa using hI5);refine⟨[(0,0)],s+1,rfl,?_,hsi,by omega⟩;rw[←mtab_succ];simp only[go_sem,Int.natCast_add,Int.natCast_one,hne,mrow]<;>rfl
  have hti:t<i:=by simpa using hc
  clear hc;have hr1:i-t=(i-(t+1))+1:=by omega
  have hBt:B[t]?=some false:=by
   rw[t2,List.getElem?_append_right (by simp),hr1];simp
  have hnew:∀b,M' s t=b→B.set t b=(List.range (t+1)).map (M' s)++List.replicate (i-(t+1)) false:=fun b hb=>by
   rw[t2,hr1,List.replicate_succ];have:=set_mid ((List.range t).map (M' s)) (List.replicate (i-(t+1)) false) false b;rw[List.length_map,List.length_range]at this;rw[this,List.range_succ,List.map_append];simp[hb]
  have hset:∀b,(B.map boolC).set t [.sc (.bool b)]=(B.set t b).map boolC:=fun b=>by
   rw[show [AV.sc (.bool b)]=boolC b from rfl,←List.map_set]
  have hgM:(mtab i M i)[s]?=some (mrow .unk i M s):=mtab_get hsi;have hrt:(List.range i)[t]?=some t:=List.getElem?_range hti;have hIt:inI64 ((t:Int)+1)=true:=inI64_of (by omega) (by omega);have hap:=apart_is hv M .unk .unk false s t (by omega) (by omega);rw[←hn]at hap;have hms:=hMM s t;refine EvC.skip ?_;refine EvC.seq ?_;refine EvC.block ?_;obtain⟨b,hb⟩:∃b,M s t=b:=⟨_,rfl⟩;cases b
  ·rw[hb,Bool.false_or]at hms;obtain⟨b,hb2⟩:∃b,apartB m M s t=b:=⟨_,rfl⟩;rw[hb2]at hms hap;have hap':PureIs prog 109 [.ag m.cells,.sl false (mtab i M i) .unk,.sc (.int .i64 s),.sc (.int .i64 t)] (.sc (.int .i64 (if b=true then 1 else 0))):=hap;cases b
   ·simp only[Bool.false_eq_true,if_false]at hap';refine EvC.k1LD mixed ?_ (h1:=by simp only[go_sem,hgl,hll,hgM,mrow,hrt,boolC,hb,Int.toNat_natCast,mtab_len,List.length_map,List.length_range,Mach.cells]<;>rfl) (k1:=by simp[hBl];try omega) (c1:=.cg hap') (h2:=by simp only[go_sem,hBl,hBt,hset,boolC,Int.toNat_natCast,List.length_map]<;>rfl) (k2:=by simp[hBl];try omega);refine EvC.b ?_ (hok:=by simpa using hIt);exact⟨[(0,0),(1,1)],(t+1,B.set t false),rfl,(by simp only[go_sem,Int.natCast_add,Int.natCast_one]<;>rfl),⟨hti,hnew _ hms⟩,by simp only;omega⟩
   ·simp only[if_true]at hap';refine EvC.k1LD mixed ?_ (h1:=by simp only[go_sem,hgl,hll,hgM,mrow,hrt,boolC,hb,Int.toNat_natCast,mtab_len,List.length_map,List.length_range,Mach.cells]<;>rfl) (k1:=by simp[hBl];try omega) (c1:=.cg hap') (h2:=by simp only[go_sem,hBl,hBt,hset,boolC,Int.toNat_natCast,List.length_map]<;>rfl) (k2:=by simp[hBl];try omega);refine EvC.b ?_ (hok:=by simpa using hIt);exact⟨[(0,0),(1,1)],(t+1,B.set t true),rfl,(by simp only[go_sem,Int.natCast_add,Int.natCast_one]<;>rfl),⟨hti,hnew _ hms⟩,by simp only;omega⟩
  ·rw[hb,Bool.true_or]at hms;apply EvC.drw mixed
   ·apply Tr.run
    ·simp only[go_sem,hgl,hll,hgM,mrow,hrt,boolC,hb,Int.toNat_natCast,mtab_len,List.length_map,List.length_range]<;>rfl
    ·simp[hBl];try omega
    apply Tr.cons
    ·exact .skipv (.sc (.int .i64 0)) rfl rfl (by simp only[go_sem]<;>rfl) (by simp only[go_sem]<;>rfl)
    apply Tr.done
    ·simp only[go_sem,hBl,hBt,hset,boolC,Int.toNat_natCast,List.length_map]<;>rfl
    ·simp[hBl];try omega
   ·kernel_rfl
   refine EvC.b ?_ (hok:=by simpa using hIt);exact⟨[(0,0),(1,1)],(t+1,B.set t true),rfl,(by simp only[go_sem,Int.natCast_add,Int.natCast_one]<;>rfl),⟨hti,hnew _ hms⟩,by simp only;omega⟩
 have hin:i<n:=by simpa using hc
 clear hc;refine EvC.skip ?_;refine EvC.seq ?_;refine EvC.block ?_;have hzi:=hz M0 i (fun t _=>by rw[hM0];rfl);refine EvC.b ?_ (by simp only[go_sem,htn,hml,hzi,List.length_map,List.length_range]<;>rfl) (by simp[room_eq,AV.norefs,AV.noref,hml];omega);have hgl:∀c:List AV,(mtab n M0 i++[c])[i]?=some c:=fun c=>by rw[List.getElem?_append_right (by omega),hml,Nat.sub_self];rfl
 have hst:∀c d:List AV,(mtab n M0 i++[c]).set i d=mtab n M0 i++[d]:=fun c d=>by
  have:=set_mid (mtab n M0 i) [] c d;rw[hml]at this;exact this
 refine EvC.frz 6 (by simp only[go_sem,List.length_map,List.length_range]<;>rfl) ?_;refine EvC.snapE 0 i (by simp only[go_sem,hgl,hst,List.length_map,List.length_range]<;>rfl) ?_;have hI1:inI64 ((i:Int)+1)=true:=inI64_of (by omega) (by omega);have hne:(i+1==0)=false:=rfl;refine EvC.b ?_ (hok:=by simpa using hI1);refine⟨[(0,0)],i+1,rfl,?_,hin,by omega⟩;rw[←mtab_succ];simp only[go_sem,Int.natCast_add,Int.natCast_one,hne,mrow]<;>rfl
def sumK(k:Nat):Nat→Nat
 | 0=>0
 | n+1=>sumK k n+k^n
def rank(k:Nat):List Int→Nat
 | []=>0
 | a::w=>(a.toNat+1)*k^w.length+rank k w
def WOk(k:Nat)(w:List Int):Prop:=∀a∈w,0≤a∧a<k
theorem WOk.tail{k:Nat}{a:Int}{w:List Int}(h:WOk k (a::w)):WOk k w:=fun x hx=>h x (List.mem_cons_of_mem _ hx)
theorem WOk.head{k:Nat}{a:Int}{w:List Int}(h:WOk k (a::w)):0≤a∧a<k:=h a List.mem_cons_self
theorem WOk.cons{k:Nat}{a:Int}{w:List Int}(ha:0≤a∧a<k)(h:WOk k w):WOk k (a::w):=fun x hx=>by
 rcases List.mem_cons.1 hx with rfl|hx
 ·exact ha
 ·exact h x hx
theorem rank_ge{k:Nat}:∀(w:List Int),sumK k w.length≤rank k w
 | []=>Nat.le_refl _
 | a::w=>by
   have h1:=rank_ge (k:=k) w;have h2:1*k^w.length≤(a.toNat+1)*k^w.length:=Nat.mul_le_mul_right _ (by omega);simp only[rank,List.length_cons,sumK];omega
theorem rank_lt{k:Nat}:∀{w:List Int},WOk k w→rank k w<sumK k (w.length+1)
 | [],_=>by simp[rank,sumK]
 | a::w,h=>by
   have h1:=rank_lt h.tail;have h2:(a.toNat+1)*k^w.length≤k*k^w.length:=Nat.mul_le_mul_right _ (by have:=h.head;omega);have h3:k^(w.length+1)=k*k^w.length:=by rw[Nat.pow_succ,Nat.mul_comm]
   rw[List.length_cons,sumK,h3];simp only[rank];omega
theorem sumK_mono{k:Nat}:∀{a b:Nat},a≤b→sumK k a≤sumK k b
 | a,0,h=>by obtain rfl:a=0:=by omega
             exact Nat.le_refl _
 | a,b+1,h=>by
   by_cases h1:a=b+1
   ·rw[h1];exact Nat.le_refl _
   ·have:=sumK_mono (k:=k) (show a≤b by omega);simp only[sumK];omega
theorem rank_len{k:Nat}{w v:List Int}(hw:WOk k w)(h:w.length<v.length):rank k w<rank k v:=
 Nat.lt_of_lt_of_le (rank_lt hw) (Nat.le_trans (sumK_mono h) (rank_ge v))
theorem rank_head{k:Nat}{a b:Int}{w v:List Int}(hl:w.length=v.length)(hw:WOk k w)(hab:a.toNat<b.toNat):rank k (a::w)<rank k (b::v):=by
 have h1:=rank_lt hw;have h2:=rank_ge (k:=k) v;simp only[rank];rw[hl]at h1⊢;rw[sumK]at h1;have h3:(a.toNat+1+1)*k^v.length≤(b.toNat+1)*k^v.length:=Nat.mul_le_mul_right _ (by omega);rw[Nat.succ_mul]at h3;omega
theorem rank_inj{k:Nat}:∀{w v:List Int},WOk k w→WOk k v→rank k w=rank k v→w=v
 | w,v,hw,hv,h=>by
   have hl:w.length=v.length:=by
    by_cases h1:w.length<v.length
    ·have:=rank_len hw h1;omega
    ·by_cases h2:v.length<w.length
     ·have:=rank_len hv h2;omega
     ·omega
   match w,v with
   | [],[]=>rfl
   | [],_::_=>simp at hl
   | _::_,[]=>simp at hl
   | a::w,b::v=>
     have hl':w.length=v.length:=by simpa using hl
     have h1:¬a.toNat<b.toNat:=fun h1=>by have:=rank_head hl' hw.tail h1;omega
     have h2:¬b.toNat<a.toNat:=fun h2=>by have:=rank_head hl'.symm hv.tail h2;omega
     have hab:a=b:=by have:=hw.head;have:=hv.head;omega
     subst hab;have:rank k w=rank k v:=by simp only[rank,hl']at h;omega
     rw[rank_inj hw.tail hv.tail this]
theorem rank_lt_len{k:Nat}{v w:List Int}(hw:WOk k w)(h:rank k v≤rank k w):v.length≤w.length:=by
 by_cases h1:w.length<v.length
 ·have:=rank_len hw h1;omega
 ·omega
def Alike(m:Mach)(k s t:Nat):Prop:=∀v,WOk m.ins.toNat v→v.length≤k→runR m s v=runR m t v
theorem alike_succ{m:Mach}(hv:WV m){k:Nat}(hk:∀s t,s<m.rows.length→t<m.rows.length→Alike m k s t→Alike m (k+1) s t){s t:Nat}(hs:s<m.rows.length)(ht:t<m.rows.length)(h:Alike m k s t):∀j,Alike m (k+j) s t
 | 0=>h
 | j+1=>by
   intro v hvo hvl;have h1:=hk s t hs ht h
   match v,hvo with
   | [],_=>rfl
   | b::v,hvo=>
     have hb:=hvo.head;obtain⟨b,rfl⟩:∃n:Nat,b=(n:Int):=⟨b.toNat,by omega⟩;have hbl:b<m.ins.toNat:=by omega
     have ho:(ex (rowN m s) b).2=(ex (rowN m t) b).2:=by
      have:=h1 [(b:Int)] (fun x hx=>by simp at hx;omega) (by simp);rw[run_cons,run_cons]at this;exact(List.cons.inj this).1
     rw[run_cons,run_cons,ho];congr 1;rcases ex_bothW hv hs ht hbl ho with⟨e1,e2⟩|⟨p,q,e1,e2,hp,hq⟩
     ·rw[e1,e2]
     ·rw[e1,e2];have h2:Alike m k p q:=fun u hu hul=>by
       have:=h1 ((b:Int)::u) (hu.cons (by omega)) (by simp;omega);rw[run_cons,run_cons,e1,e2]at this;exact(List.cons.inj this).2
      exact alike_succ hv hk hp hq h2 j v hvo.tail (by simp at hvl;omega)
theorem countP_lt{α:Type}{p q:α→Bool}:∀{l:List α},(∀x∈l,p x=true→q x=true)→(∃x∈l,q x=true∧p x=false)→l.countP p<l.countP q
 | [],_,⟨x,h,_⟩=>by cases h
 | y::l,hpq,⟨x,hx,h1,h2⟩=>by
   have hm:l.countP p≤l.countP q:=List.countP_mono_left fun x hx=>hpq x (List.mem_cons_of_mem _ hx);rw[List.countP_cons,List.countP_cons];rcases List.mem_cons.1 hx with rfl|hx
   ·rw[h1,h2];simp;omega
   ·have:=countP_lt (fun x hx=>hpq x (List.mem_cons_of_mem _ hx)) ⟨x,hx,h1,h2⟩;have h3:=hpq y List.mem_cons_self;by_cases h4:p y=true
    ·rw[if_pos h4,if_pos (h3 h4)];omega
    ·rw[if_neg h4];split<;>omega
open Classical in
noncomputable def leadB(m:Mach)(k:Nat)(s:Nat):Bool:=decide (∀t<s,¬Alike m k t s)
noncomputable def cntL(m:Mach)(k:Nat):Nat:=(List.range m.rows.length).countP (leadB m k)
theorem Alike.symm{m:Mach}{k s t:Nat}(h:Alike m k s t):Alike m k t s:=fun v h1 h2=>(h v h1 h2).symm
theorem Alike.trans{m:Mach}{k s t u:Nat}(h:Alike m k s t)(h':Alike m k t u):Alike m k s u:=fun v h1 h2=>(h v h1 h2).trans (h' v h1 h2)
theorem Alike.le{m:Mach}{k j s t:Nat}(h:Alike m k s t)(hj:j≤k):Alike m j s t:=fun v h1 h2=>h v h1 (by omega)
theorem lead_of(m:Mach)(k:Nat):∀s,∃c,c≤s∧Alike m k c s∧leadB m k c=true:=fun s=>by
 induction s using Nat.strongRecOn with
 | _ s ih=>
   by_cases h:∃t,t<s∧Alike m k t s
   ·obtain⟨t,h1,h2⟩:=h;obtain⟨c,h3,h4,h5⟩:=ih t h1;exact⟨c,by omega,h4.trans h2,h5⟩
   ·exact⟨s,Nat.le_refl _,fun _ _ _=>rfl,by simp only[leadB,decide_eq_true_eq];exact fun t h1 h2=>h ⟨t,h1,h2⟩⟩
theorem cntL_grows{m:Mach}{k:Nat}(h:¬ ∀s t,s<m.rows.length→t<m.rows.length→Alike m k s t→Alike m (k+1) s t):cntL m k<cntL m (k+1):=by
 refine countP_lt (fun s _ hs=>?_) ?_
 ·simp only[leadB,decide_eq_true_eq]at hs⊢;exact fun t h1 h2=>hs t h1 (h2.le (by omega))
 ·simp only[Classical.not_forall]at h;obtain⟨s,t,hs,ht,h1,h2⟩:=h;obtain⟨c,c1,c2,c3⟩:=lead_of m k s;have:∃u,u<m.rows.length∧Alike m k c u∧¬Alike m (k+1) c u:=by
   by_cases h3:Alike m (k+1) c s
   ·exact⟨t,ht,c2.trans h1,fun h4=>h2 (h3.symm.trans h4)⟩
   ·exact⟨s,hs,c2,h3⟩
  obtain⟨u,hu,u1,u2⟩:=this;obtain⟨d,d1,d2,d3⟩:=lead_of m (k+1) u;have hcd:Alike m k c d:=u1.trans (d2.le (by omega)).symm;have hne:c≠d:=fun e=>u2 (by rw[e];exact d2);refine⟨d,List.mem_range.2 (by omega),d3,?_⟩;have hlt:c<d:=by
   by_cases h5:c<d
   ·exact h5
   ·have h6:d<c:=by omega
    simp only[leadB,decide_eq_true_eq]at c3;exact absurd hcd.symm (c3 d h6)
  rw[Bool.eq_false_iff];intro h7;simp only[leadB,decide_eq_true_eq]at h7;exact h7 c hlt hcd
theorem alike_all{m:Mach}(hv:WV m){k s t:Nat}(hk:m.rows.length≤k+1)(hs:s<m.rows.length)(ht:t<m.rows.length)(h:Alike m k s t):∀v,WOk m.ins.toNat v→runR m s v=runR m t v:=by
 have hN:=hv.rows;have hex:∃j,j+1≤m.rows.length∧∀s t,s<m.rows.length→t<m.rows.length→Alike m j s t→Alike m (j+1) s t:=by
  by_cases hx:∃j,j+1≤m.rows.length∧∀s t,s<m.rows.length→t<m.rows.length→Alike m j s t→Alike m (j+1) s t
  ·exact hx
  ·exfalso;have hg:∀j,j≤m.rows.length→j+1≤cntL m j:=fun j=>by
    induction j with
    | zero=>
      intro _;have:0<cntL m 0:=List.countP_pos_iff.2 ⟨0,List.mem_range.2 (by omega),by simp[leadB]⟩;omega
    | succ j ih=>
      intro hj;have h1:=ih (by omega);have h2:=cntL_grows (m:=m) (k:=j) fun h=>hx ⟨j,hj,h⟩;omega
   have h1:=hg m.rows.length (Nat.le_refl _);have h2:cntL m m.rows.length≤m.rows.length:=by
    have:=List.countP_le_length (p:=leadB m m.rows.length) (l:=List.range m.rows.length);simpa[cntL]using this
   omega
 obtain⟨j,hj,hst⟩:=hex;intro v hvo;exact alike_succ hv hst hs ht (h.le (by omega)) v.length v hvo (by omega)
theorem iterM_is{m:Mach}(hv:WV m):∀(k s t:Nat),s<m.rows.length→t<m.rows.length→(iterM m k s t=false↔Alike m k s t)
 | 0,s,t,_,_=>⟨fun _ v _ hl=>by obtain rfl:v=[]:=List.length_eq_zero_iff.1 (by omega);rfl,fun _=>rfl⟩
 | k+1,s,t,hs,ht=>by
   have hins:=hv.ins;simp only[iterM,Bool.or_eq_false_iff,iterM_is hv k s t hs ht];have hcond:∀b,b<m.ins.toNat→(condM (iterM m k) (ex (rowN m s) b) (ex (rowN m t) b)=false↔∀v,WOk m.ins.toNat v→v.length≤k→runR m s ((b:Int)::v)=runR m t ((b:Int)::v)):=fun b hb=>by
    by_cases ho:(ex (rowN m s) b).2=(ex (rowN m t) b).2
    ·rcases ex_bothW hv hs ht hb ho with⟨e1,e2⟩|⟨p,q,e1,e2,hp,hq⟩
     ·refine⟨fun _ v _ _=>?_,fun _=>by simp[condM,ho,e1]⟩;rw[run_cons,run_cons,ho,e1,e2]
     ·have h1:condM (iterM m k) (ex (rowN m s) b) (ex (rowN m t) b)=iterM m k p q:=by simp[condM,ho,e1,e2]
      rw[h1,iterM_is hv k p q hp hq];refine⟨fun h v h2 h3=>?_,fun h v h2 h3=>?_⟩
      ·rw[run_cons,run_cons,ho,e1,e2,h v h2 h3]
      ·have:=h v h2 h3;rw[run_cons,run_cons,e1,e2]at this;exact(List.cons.inj this).2
    ·refine⟨fun h=>by simp[condM,ho]at h,fun h=>?_⟩;have:=h [] (fun x hx=>by cases hx) (Nat.zero_le _);rw[run_cons,run_cons]at this;exact absurd (List.cons.inj this).1 ho
   constructor
   ·rintro⟨h1,h2⟩ v hvo hvl
    match v,hvo with
    | [],_=>rfl
    | b::v,hvo=>
      have hb:=hvo.head;obtain⟨b,rfl⟩:∃n:Nat,b=(n:Int):=⟨b.toNat,by omega⟩;rw[apartB,List.any_eq_false]at h2;have h3:=h2 b (List.mem_range.2 (by omega));exact(hcond b (by omega)).1 (by simpa using h3) v hvo.tail (by simp at hvl;omega)
   ·intro h;refine⟨h.le (by omega),?_⟩;rw[apartB,List.any_eq_false];intro b hb;have hb:=List.mem_range.1 hb;have:=(hcond b hb).2 fun v h2 h3=>h _ (h2.cons (by omega)) (by simp;omega);simp[this]
def lastF(M:Mtx)(l:List Int)(s:Nat):Nat→Int
 | 0=> -1
 | t+1=>if M s t=true then lastF M l s t else l[t]?.getD 0
def partS(M:Mtx):Nat→List Int×Int
 | 0=>([],0)
 | s+1=>if lastF M (partS M s).1 s s<0 then((partS M s).1++[(partS M s).2],(partS M s).2+1)else((partS M s).1++[lastF M (partS M s).1 s s],(partS M s).2)
theorem lastF_mem(M:Mtx)(l:List Int)(s:Nat):∀t,t≤l.length→lastF M l s t=-1∨lastF M l s t∈l
 | 0,_=>.inl rfl
 | t+1,h=>by
   simp only[lastF];split
   ·exact lastF_mem M l s t (by omega)
   ·right;rw[List.getElem?_eq_getElem (by omega)];exact List.getElem_mem _
theorem partS_ok(M:Mtx):∀s,(partS M s).1.length=s∧0≤(partS M s).2∧(partS M s).2≤s∧∀x∈(partS M s).1,0≤x∧x<(partS M s).2
 | 0=>by simp[partS]
 | s+1=>by
   obtain⟨h1,h2,h3,h4⟩:=partS_ok M s;have h5:=lastF_mem M (partS M s).1 s s (by omega);simp only[partS];split
   ·refine⟨by simp[h1],by simp only;omega,by simp only;omega,fun x hx=>?_⟩;simp only at hx⊢;rcases List.mem_append.1 hx with hx|hx
    ·have:=h4 x hx;omega
    ·simp at hx;omega
   ·refine⟨by simp[h1],by simp only;omega,by simp only;omega,fun x hx=>?_⟩;simp only at hx⊢;rcases List.mem_append.1 hx with hx|hx
    ·exact h4 x hx
    ·simp only[List.mem_singleton]at hx;rcases h5 with h5|h5
     ·omega
     ·rw[←hx]at h5;exact h4 x h5
set_option maxHeartbeats 4000000 in
theorem part_is(M:Mtx)(n:Nat)(hn:n<1000)(nl:Bool)(cq:Cp):PureIs prog 104 [.sl nl (mtab n M n) cq] (.sl (n==0) ((partS M n).1.map intC) .unk):=by
 refine PureIs.of1 1 [2,3,4,5,6,7,11,16,26,32] func104 ntmps104 results104 fun _=>?_;refine EvC.a ?_;refine EvC.a ?_;refine EvC.a ?_;refine EvC.seq ?_;refine EvC.a ?_;refine EvC.block ?_;have hml:=mtab_len n M n;refine EvC.loopS (σ:=Nat×List Int×Int) (fun g=>⟨[(0,.sl nl (mtab n M n) cq),(3,.tl 0 g.1 (g.1==0)),(4,.sc (.int .i64 g.2.2)),(5,.sc (.int .i64 g.1))],[],[(0,.arr 1 (g.2.1.map intC) true)],1⟩) (fun g=>n-g.1)
  (fun g=>g.1≤n∧g.2=partS M g.1) [0,3,4,5] 1 ?_ ?_
 ·exact⟨[(1,0)],(0,[],0),rfl,(by simp only[go_sem]<;>rfl),Nat.zero_le _,rfl⟩
 rintro⟨s,l,c⟩ ⟨h1,h2⟩;simp only at h1 h2;have hok:=partS_ok M s;rw[←h2]at hok;simp only at hok;obtain⟨k1,k2,k3,k4⟩:=hok;refine EvC.seq ?_;refine EvC.a ?_ (by simp only[go_sem,hml]<;>rfl);refine EvC.cd (fun hc=>?_) (fun hc=>?_);rotate_left
 ·refine EvC.exit ?_
  obtain rfl:s=n:=by have:¬s<n:=by simpa using hc
                     omega
  refine EvC.frz 0 (by simp only[go_sem,List.length_map,k1]<;>rfl) ?_;refine EvC.a ?_;refine EvC.rz ?_;simp only[go_sem];rw[←h2]
 have hs:s<n:=by simpa using hc
 clear hc;refine EvC.skip ?_;refine EvC.seq ?_;refine EvC.block ?_;refine EvC.a ?_;refine EvC.seq ?_;refine EvC.a ?_;refine EvC.block ?_;refine EvC.loopS (σ:=Nat×Int) (fun g=>⟨[(0,.sl nl (mtab n M n) cq),(3,.tl 0 s (s==0)),(4,.sc (.int .i64 c)),(5,.sc (.int .i64 s)),(6,.sc (.int .i64 g.2)),(7,.sc (.int .i64 g.1))],[],[(0,.arr 1 (l.map intC) true)],1⟩) (fun g=>s-g.1)
  (fun g=>g.1≤s∧g.2=lastF M l s g.1) [0,3,4,5,6,7] 1 ?_ ?_
 ·exact⟨[(0,0)],(0,-1),rfl,(by simp only[go_sem]<;>rfl),Nat.zero_le _,rfl⟩
 rintro⟨t,f⟩ ⟨j1,j2⟩;simp only at j1 j2;refine EvC.seq ?_;refine EvC.a ?_;refine EvC.cd (fun hc=>?_) (fun hc=>?_);rotate_left
 ·refine EvC.exit ?_
  obtain rfl:t=s:=by have:¬t<s:=by simpa using hc
                     omega
  clear hc;have hI5:inI64 ((t:Int)+1)=true:=inI64_of (by omega) (by omega);have hIc:inI64 (c+1)=true:=inI64_of (by omega) (by omega);have hne:(t+1==0)=false:=rfl;refine EvC.seq ?_;refine EvC.a ?_;refine EvC.cd (fun hc=>?_) (fun hc=>?_)
  ·have hf:f<0:=by simpa using hc
   refine EvC.a ?_;refine EvC.b ?_ (hok:=by exact hIc);refine EvC.b ?_ (by simp only[go_sem,List.length_map,k1]<;>rfl) (by simp[room_eq,AV.norefs,AV.noref,k1];omega);refine EvC.b ?_ (hok:=by simpa using hI5);refine⟨[(0,0)],(t+1,l++[c],c+1),rfl,(by simp only[go_sem,Int.natCast_add,Int.natCast_one,hne,List.map_append,List.map_cons,List.map_nil,intC]<;>rfl),⟨by simp only;omega,?_⟩,by simp only;omega⟩;simp only[partS,←h2,←j2];rw[if_pos hf]
  ·have hf:¬f<0:=by simpa using hc
   refine EvC.skip ?_;refine EvC.b ?_ (by simp only[go_sem,List.length_map,k1]<;>rfl) (by simp[room_eq,AV.norefs,AV.noref,k1];omega);refine EvC.b ?_ (hok:=by simpa using hI5);refine⟨[(0,0)],(t+1,l++[f],c),rfl,(by simp only[go_sem,Int.natCast_add,Int.natCast_one,hne,List.map_append,List.map_cons,List.map_nil,intC]<;>rfl),⟨by simp only;omega,?_⟩,by simp only;omega⟩;simp only[partS,←h2,←j2];rw[if_neg hf]
 have ht:t<s:=by simpa using hc
 clear hc;have hgM:(mtab n M n)[s]?=some (mrow .unk n M s):=mtab_get hs;have hrt:(List.range n)[t]?=some t:=List.getElem?_range (by omega);have hlt:l[t]?=some l[t]:=List.getElem?_eq_getElem (by omega);have hI7:inI64 ((t:Int)+1)=true:=inI64_of (by omega) (by omega);generalize l[t]=x at hlt;refine EvC.skip ?_;refine EvC.seq ?_;refine EvC.block ?_;obtain⟨b,hb⟩:∃b,M s t=b:=⟨_,rfl⟩;refine EvC.a ?_ (by simp only[go_sem,hgM,mrow,hrt,boolC,hb,Int.toNat_natCast,hml,List.length_map,List.length_range]<;>rfl) (by simp;try omega);cases b
 ·refine EvC.ct ?_;refine EvC.b ?_ (by simp only[go_sem,hlt,intC,k1,Int.toNat_natCast,List.length_map]<;>rfl) (by simp[k1];try omega);refine EvC.b ?_ (hok:=by simpa using hI7);refine⟨[(0,0)],(t+1,x),rfl,(by simp only[go_sem,Int.natCast_add,Int.natCast_one]<;>rfl),⟨by simp only;omega,?_⟩,by simp only;omega⟩;simp[lastF,hb,hlt]
 ·refine EvC.cs ?_;refine EvC.b ?_ (hok:=by simpa using hI7);refine⟨[(0,0)],(t+1,f),rfl,(by simp only[go_sem,Int.natCast_add,Int.natCast_one]<;>rfl),⟨by simp only;omega,?_⟩,by simp only;omega⟩;simp[lastF,hb,j2]
theorem lastF_spec(M:Mtx)(l:List Int)(s:Nat):∀t,t≤l.length→(∃u,u<t∧M s u=false∧l[u]?=some (lastF M l s t))∨((∀u<t,M s u=true)∧lastF M l s t=-1)
 | 0,_=>.inr ⟨fun u h=>by omega,rfl⟩
 | t+1,h=>by
   simp only[lastF];by_cases hb:M s t=true
   ·rw[if_pos hb];rcases lastF_spec M l s t (by omega)with⟨u,h1,h2,h3⟩|⟨h1,h2⟩
    ·exact .inl ⟨u,by omega,h2,h3⟩
    ·refine .inr ⟨fun u hu=>?_,h2⟩;by_cases e:u=t
     ·rw[e];exact hb
     ·exact h1 u (by omega)
   ·rw[if_neg hb];refine .inl ⟨t,by omega,by simpa using hb,?_⟩;rw[List.getElem?_eq_getElem (by omega)];rfl
theorem partS_eq(M:Mtx)(n:Nat)(hr:∀s<n,M s s=false)(hy:∀s t,s<n→t<n→M s t=false→M t s=false)(ht:∀s t u,s<n→t<n→u<n→M s t=false→M t u=false→M s u=false):
  ∀s,s≤n→∀i j:Nat,i<s→j<s→((partS M s).1[i]?=(partS M s).1[j]?↔M i j=false)
 | 0,_,i,j,hi,_=>by omega
 | s+1,hs,i,j,hi,hj=>by
   have ih:=partS_eq M n hr hy ht s (by omega);obtain⟨h1,h2,h3,h4⟩:=partS_ok M s;obtain⟨x,hx,hP⟩:∃x,(∀i<s,(partS M s).1[i]?=some x↔M i s=false)∧(partS M (s+1)).1=(partS M s).1++[x]:=by
    rcases lastF_spec M (partS M s).1 s s (by omega)with⟨u,k1,k2,k3⟩|⟨k1,k2⟩
    ·have hm:=List.mem_of_getElem? k3;have:=h4 _ hm;refine⟨_,fun i hi=>?_,by simp only[partS];rw[if_neg (by omega)]⟩;rw[←k3,ih i u hi k1];exact⟨fun h=>ht i u s (by omega) (by omega) (by omega) h (hy _ _ (by omega) (by omega) k2),fun h=>ht i s u (by omega) (by omega) (by omega) h k2⟩
    ·refine⟨(partS M s).2,fun i hi=>⟨fun h=>?_,fun h=>?_⟩,by simp only[partS];rw[if_pos (by omega)]⟩
     ·have:=h4 _ (List.mem_of_getElem? h);omega
     ·have:=hy _ _ (by omega) (by omega) h;rw[k1 i hi]at this;cases this
   rw[hP];have hgs:∀i<s,((partS M s).1++[x])[i]?=(partS M s).1[i]?:=fun i hi=>List.getElem?_append_left (by omega);have hgn:((partS M s).1++[x])[s]?=some x:=by rw[List.getElem?_append_right (by omega),h1,Nat.sub_self];rfl
   by_cases ei:i=s<;>by_cases ej:j=s
   ·subst ei;subst ej;exact⟨fun _=>hr j (by omega),fun _=>rfl⟩
   ·subst ei;rw[hgn,hgs j (by omega)];refine⟨fun h=>hy _ _ (by omega) (by omega) ((hx j (by omega)).1 h.symm),fun h=>((hx j (by omega)).2 (hy _ _ (by omega) (by omega) h)).symm⟩
   ·subst ej;rw[hgn,hgs i (by omega)];exact hx i (by omega)
   ·rw[hgs i (by omega),hgs j (by omega)];exact ih i j (by omega) (by omega)
def classL(m:Mach):List Int:=(partS (iterM m m.rows.length) m.rows.length).1
theorem classL_len(m:Mach):(classL m).length=m.rows.length:=(partS_ok _ _).1
theorem classL_eq{m:Mach}(hv:Valid m){i j:Nat}(hi:i<m.rows.length)(hj:j<m.rows.length):(classL m)[i]?=(classL m)[j]?↔∀v,WOk m.ins.toNat v→runR m i v=runR m j v:=by
 have h:=iterM_is hv.w m.rows.length;rw[classL,partS_eq (iterM m m.rows.length) m.rows.length (fun s hs=>(h s s hs hs).2 fun _ _ _=>rfl) (fun s t hs ht e=>(h t s ht hs).2 ((h s t hs ht).1 e).symm)
  (fun s t u hs ht hu e e'=>(h s u hs hu).2 (((h s t hs ht).1 e).trans ((h t u ht hu).1 e'))) _ (Nat.le_refl _) i j hi hj,h i j hi hj]
 exact⟨fun h=>alike_all hv.w (by omega) hi hj h,fun h v h1 _=>h v h1⟩
theorem rounds_is{m:Mach}(hv:Valid m):PureIs prog 95 [.ag m.cells,.sc (.int .i64 m.rows.length)] (.sl false ((classL m).map intC) .unk):=by
 have hrw:=hv.rows;have h1:=marked_is hv.w m.rows.length (by omega);have h2:=part_is (iterM m m.rows.length) m.rows.length (by omega) false .unk;have hn0:(m.rows.length==0)=false:=beq_eq_false_iff_ne.2 (by omega);rw[hn0]at h2;refine PureIs.of1 3 [4] func95 ntmps95 results95 fun _=>?_;refine EvC.a ?_ (by simp only[go_sem,Mach.cells]<;>rfl);refine EvC.k2 ?_ (h1:=by simp only[go_sem,Mach.cells]<;>rfl) (c1:=.ca h1) (h2:=by simp only[go_sem,Mach.cells]<;>rfl) (c2:=.ca h2);refine EvC.rz ?_;simp only[go_sem];rfl
theorem classes_is{m:Mach}(hv:Valid m):PureIs prog 79 [.ag m.cells] (.sl false ((classL m).map intC) .unk):=by
 refine PureIs.of1 3 [] func79 ntmps79 results79 fun _=>?_;refine EvC.a ?_ (by simp only[go_sem,Mach.cells]<;>rfl);refine EvC.k1 ?_ (h1:=by simp only[go_sem,Mach.cells]<;>rfl) (c1:=.ca (rounds_is hv));refine EvC.rz ?_;simp only[go_sem]
def preB(a b:List Int):Bool:=decide (a.length<b.length)&&decide (cmpL a (b.take a.length)=0)
set_option maxHeartbeats 4000000 in
theorem prefix53_is(na nb:Bool)(a b:List Int)(ca cb:Cp)(hl:a.length<1000000):
  PureIs prog 53 [.sl na (a.map intC) ca,.sl nb (b.map intC) cb] (.sc (.bool (preB a b))):=by
 have hla:(a.map intC).length=a.length:=List.length_map _;have hlb:(b.map intC).length=b.length:=List.length_map _;refine PureIs.of1 2 [4] func53 ntmps53 results53 fun _=>?_;refine EvC.a ?_;by_cases h:a.length<b.length
 ·have hd:decide ((a.length:Int)<b.length)=true:=decide_eq_true (by omega);have ht:(b.map intC).take a.length=(b.take a.length).map intC:=(List.map_take ..).symm;have hc:=fun cq=>compare65_is na nb a (b.take a.length) ca cq hl;refine EvC.k1 ?_ (h1:=by simp only[go_sem,hla,hlb,hd,ht]<;>rfl) (k1:=by simp[intC];omega) (c1:=.cg (hc _)) (h2:=by simp only[go_sem,hla,hlb,hd,ht]<;>rfl);refine EvC.rz ?_;simp only[go_sem];rw[preB,decide_eq_true h,Bool.true_and]
 ·have hd:decide ((a.length:Int)<b.length)=false:=decide_eq_false (by omega);apply EvC.s1
  ·apply Tr.run
   ·simp only[go_sem,hla,hlb,hd]<;>rfl
   ·simp
   apply Tr.cons
   ·exact .skipv (.sc (.int .i64 0)) rfl rfl (by simp only[go_sem]<;>rfl) (by simp only[go_sem]<;>rfl)
   apply Tr.done
   ·simp only[go_sem,hla,hlb,hd]<;>rfl
   ·simp
  refine EvC.rz ?_;simp only[go_sem];rw[preB,decide_eq_false h,Bool.false_and]
theorem full19_is(nl:Bool)(l:List RW)(c:Cp)(hl:l.length<1000000)(hne:l≠[]):
  PureIs prog 19 [.sl nl (l.map rwC) c] (.sl nl (l.map rwC) c):=by
 have hll:(l.map rwC).length=l.length:=List.length_map _;have h0:decide ((l.length:Int)=0)=false:=decide_eq_false (by cases l with|nil=>exact absurd rfl hne|cons=>simp;omega);refine PureIs.of1 1 [2,5] func19 ntmps19 results19 fun _=>?_;refine EvC.a ?_;refine EvC.seq ?_;refine EvC.a ?_ (by simp only[go_sem,hll]<;>rfl);refine EvC.cs ?_ (by simp only[go_sem,h0]<;>rfl);refine EvC.a ?_;refine EvC.rz ?_;simp only[go_sem]
def anyPre(l:List RW)(x:RW):Bool:=l.any fun y=>preB x.2.1 y.2.1
def redW(l:List RW):List RW:=l.filter fun x=>!anyPre l x
set_option maxHeartbeats 4000000 in
theorem reduce18_new(nl:Bool)(l:List RW)(c:Cp)(hl:l.length<1000000)(hw:∀x∈l,x.2.1.length<1000000)(hne:0<(redW l).length):
  PureNew prog 18 [.sl nl (l.map rwC) c] 1 ((redW l).map rwC):=by
 have hll:(l.map rwC).length=l.length:=List.length_map _;obtain⟨R,hR⟩:∃R:Nat→List RW,R=fun i=>(l.take i).filter fun x=>!anyPre l x:=⟨_,rfl⟩;have hR0:R 0=[]:=by rw[hR];rfl
 have hRl:∀i,(R i).length≤l.length:=fun i=>by
  rw[hR];exact Nat.le_trans (List.length_filter_le _ _) (by simp;omega)
 have hRs:∀i x,l[i]?=some x→R (i+1)=if anyPre l x then R i else R i++[x]:=fun i x h=>by
  obtain⟨h1,h2⟩:=List.getElem?_eq_some_iff.1 h;rw[hR];simp only;rw[List.take_succ_eq_append_getElem h1,h2,List.filter_append,List.filter_cons,List.filter_nil];cases anyPre l x<;>simp
 have hRe:R l.length=redW l:=by rw[hR];simp only[List.take_length];rfl
 clear hR;refine PureNew.of (nv:=1) (hid:=[2,3,4,5,6,10,16,32]) func18 rfl (by kernel_rfl) (by simp[ntmps18]) fun _=>?_;rw[ntmps18,results18];refine EvC.a ?_;refine EvC.a ?_;refine EvC.thaw 1 (by simp only[go_sem]<;>rfl) ?_;refine EvC.seq ?_;refine EvC.a ?_;refine EvC.block ?_;refine EvC.loopS (σ:=Nat) (fun i=>⟨[(0,.sl nl (l.map rwC) c),(3,.tl 0 (R i).length (decide ((R i).length=0))),(4,.sc (.int .i64 i))],[],wM (R i),1⟩) (fun i=>l.length-i) (fun i=>i≤l.length) [0,3,4] 1 ?_ ?_
 ·exact⟨[(1,0)],0,rfl,(by rw[hR0,wM];simp only[go_sem,List.length_nil,List.map_nil,Int.natCast_zero]<;>rfl),Nat.zero_le _⟩
 intro i hi;refine EvC.seq ?_;refine EvC.a ?_ (by simp only[go_sem,hll]<;>rfl);refine EvC.cd (fun hc=>?_) (fun hc=>?_);rotate_left
 ·refine EvC.exit ?_;have hi2:i=l.length:=by have:¬i<l.length:=(by simpa using hc);omega
  subst hi2;rw[hRe];obtain⟨V,hV⟩:∃V,V=redW l:=⟨_,rfl⟩;rw[←hV];have hVn:=norefs_rw V;have hVc:(V.map rwC).length=V.length:=List.length_map _;have hd:decide (V.length=0)=false:=decide_eq_false (by rw[hV];omega);rw[hd];refine EvC.a ?_;refine EvC.ret ⟨.inl rfl,_,0,(by simp only[go_sem]<;>rfl),.inl (by simp only[go_sem,hVc]<;>rfl),(by simp only[go_sem,wM]<;>rfl),by rw[hVc,hV];omega,hVn⟩
 have hil:i<l.length:=by simpa using hc
 clear hc;have hge:l[i]?=some (l[i]'hil):=List.getElem?_eq_getElem hil;have hwm:=hw _ (List.getElem_mem hil);have hRs:=hRs i _ hge;generalize l[i]'hil=x at hge hwm hRs;have hxg:=rw_get hge;have hit:(i:Int).toNat=i:=Int.toNat_natCast i;have hRi:=hRl i;obtain⟨V,hV⟩:∃V,V=R i:=⟨_,rfl⟩;rw[←hV]at hRs hRi⊢;have hVl:(V.map rwC).length=V.length:=List.length_map _;have hVn:=norefs_rw V;generalize hem:decide (V.length=0)=em;refine EvC.skip ?_;refine EvC.seq ?_;refine EvC.block ?_;refine EvC.a ?_;refine EvC.seq ?_;refine EvC.a ?_;refine EvC.block ?_;refine EvC.loopS (σ:=Nat) (fun k=>⟨[(0,.sl nl (l.map rwC) c),(3,.tl 0 V.length em),(4,.sc (.int .i64 i)),(5,.sc (.bool (anyPre (l.take k) x))),(6,.sc (.int .i64 k))],[],wM V,1⟩) (fun k=>l.length-k) (fun k=>k≤l.length) [0,3,4,5,6] 1 ?_ ?_
 ·have hz:anyPre (l.take 0) x=false:=rfl;exact⟨[(0,0)],0,rfl,(by simp only[go_sem,hz,hVn,hVl,wM,Int.natCast_zero]<;>rfl),Nat.zero_le _⟩
 intro k hk;refine EvC.seq ?_;refine EvC.a ?_ (by simp only[go_sem,hll]<;>rfl);refine EvC.cd (fun hc=>?_) (fun hc=>?_);rotate_left
 ·refine EvC.exit ?_;have hk2:k=l.length:=by have:¬k<l.length:=(by simpa using hc);omega
  subst hk2;rw[List.take_length];refine EvC.a ?_;cases hp:anyPre l x with
  | false=>
    rw[hp,if_neg Bool.false_ne_true]at hRs;have hm:V.map rwC++[[.sl x.1 (x.2.1.map intC) x.2.2]]=(R (i+1)).map rwC:=by rw[hRs,List.map_append];rfl
    have he:decide ((R (i+1)).length=0)=false:=by rw[hRs];simp
    have hle:(R (i+1)).length=V.length+1:=by rw[hRs];simp
    have hRn:=norefs_rw (R (i+1));have hRc:((R (i+1)).map rwC).length=(R (i+1)).length:=List.length_map _;refine EvC.ct ?_;refine EvC.b ?_ (by simp only[go_sem,hxg,hit,hll,hVl,hVn,wM,hm]<;>rfl) (by simp[room_eq,hVl,hVn];try omega);refine EvC.bi ?_;exact⟨[(0,0)],i+1,rfl,(by rw[he,hle];simp only[go_sem,wM,hRn,hRc,Int.natCast_add,Int.natCast_one]<;>rfl),hil,by omega⟩
  | true=>
    rw[hp,if_pos rfl]at hRs;refine EvC.cs ?_;refine EvC.bi ?_;exact⟨[(0,0)],i+1,rfl,(by rw[hRs,hem];simp only[go_sem,wM,hVn,hVl,Int.natCast_add,Int.natCast_one]<;>rfl),hil,by omega⟩
 have hkl:k<l.length:=by simpa using hc
 clear hc;have hgk:l[k]?=some (l[k]'hkl):=List.getElem?_eq_getElem hkl;have hAs:anyPre (l.take (k+1)) x=(anyPre (l.take k) x||preB x.2.1 (l[k]'hkl).2.1):=by
  rw[List.take_succ_eq_append_getElem hkl];simp only[anyPre,List.any_append,List.any_cons,List.any_nil,Bool.or_false]
 generalize l[k]'hkl=y at hgk hAs;have hyg:=rw_get hgk;have hkt:(k:Int).toNat=k:=Int.toNat_natCast k;have hcall:=prefix53_is x.1 y.1 x.2.1 y.2.1 x.2.2 y.2.2 hwm;refine EvC.skip ?_;refine EvC.seq ?_;refine EvC.block ?_;cases hp:anyPre (l.take k) x with
 | true=>
   rw[hp,Bool.true_or]at hAs;apply EvC.drw mixed
   ·apply Tr.run
    ·simp only[go_sem,hxg,hyg,hit,hkt,hll]<;>rfl
    ·simp
    apply Tr.cons
    ·exact .skipv (.sc (.bool false)) rfl rfl (by simp only[go_sem]<;>rfl) (by simp only[go_sem]<;>rfl)
    apply Tr.done
    ·simp only[go_sem,hxg,hyg,hit,hkt,hll]<;>rfl
    ·simp
   ·kernel_rfl
   refine EvC.bi ?_;exact⟨[(0,0)],k+1,rfl,(by rw[hAs];simp only[go_sem,wM,hVn,hVl,Int.natCast_add,Int.natCast_one]<;>rfl),hkl,by omega⟩
 | false=>
   rw[hp,Bool.false_or]at hAs;refine EvC.k1LD mixed ?_ (h1:=by simp only[go_sem,hxg,hyg,hit,hkt,hll]<;>rfl) (k1:=by simp;try omega) (c1:=.cg hcall) (h2:=by simp only[go_sem,hxg,hyg,hit,hkt,hll]<;>rfl);refine EvC.bi ?_;exact⟨[(0,0)],k+1,rfl,(by rw[hAs];simp only[go_sem,wM,hVn,hVl,Int.natCast_add,Int.natCast_one]<;>rfl),hkl,by omega⟩
def catR(a:List Int)(V:List RW)(B:List RW):List RW:=B.foldl (fun V y=>insW V (false,a++y.2.1,.unk)) V
def catL(V:List RW)(A B:List RW):List RW:=A.foldl (fun V x=>catR x.2.1 V B) V
def catW(A B:List RW):List RW:=catL [] A B
theorem catR_srt{a:List Int}:∀{B V:List RW},SrtW V→SrtW (catR a V B)
 | [],_,h=>h
 | y::B,V,h=>catR_srt (B:=B) (insW_srt h)
theorem catL_srt{B:List RW}:∀{A V:List RW},SrtW V→SrtW (catL V A B)
 | [],_,h=>h
 | x::A,V,h=>catL_srt (A:=A) (catR_srt h)
theorem catR_len{a:List Int}:∀{B V:List RW},(catR a V B).length≤V.length+B.length
 | [],_=>by simp[catR]
 | y::B,V=>by
   have h1:=catR_len (a:=a) (B:=B) (V:=insW V (false,a++y.2.1,.unk));have h2:=(insW_len (false,a++y.2.1,.unk) V).1;simp only[catR,List.foldl_cons,List.length_cons]at h1⊢;omega
theorem catL_len{B:List RW}:∀{A V:List RW},(catL V A B).length≤V.length+A.length*B.length
 | [],_=>by simp[catL]
 | x::A,V=>by
   have h1:=catL_len (B:=B) (A:=A) (V:=catR x.2.1 V B);have h2:=catR_len (a:=x.2.1) (B:=B) (V:=V);simp only[catL,List.foldl_cons,List.length_cons,Nat.succ_mul]at h1⊢;omega
theorem catR_mem{a:List Int}{z:RW}:∀{B V:List RW},z∈catR a V B→z∈V∨∃y∈B,z=(false,a++y.2.1,.unk)
 | [],_,h=>.inl h
 | y::B,V,h=>by
   rcases catR_mem (B:=B) h with h|⟨w,hw,e⟩
   ·rcases insW_mem h with h|h
    ·exact .inr ⟨y,List.mem_cons_self,h⟩
    ·exact .inl h
   ·exact .inr ⟨w,List.mem_cons_of_mem _ hw,e⟩
theorem catL_mem{B:List RW}{z:RW}:∀{A V:List RW},z∈catL V A B→z∈V∨∃x∈A,∃y∈B,z=(false,x.2.1++y.2.1,.unk)
 | [],_,h=>.inl h
 | x::A,V,h=>by
   rcases catL_mem (A:=A) h with h|⟨w,hw,y,hy,e⟩
   ·rcases catR_mem h with h|⟨y,hy,e⟩
    ·exact .inl h
    ·exact .inr ⟨x,List.mem_cons_self,y,hy,e⟩
   ·exact .inr ⟨w,List.mem_cons_of_mem _ hw,y,hy,e⟩
theorem catR_snoc(a:List Int)(V B:List RW)(y:RW):catR a V (B++[y])=insW (catR a V B) (false,a++y.2.1,.unk):=by simp[catR]
theorem catL_snoc(V A B:List RW)(x:RW):catL V (A++[x]) B=catR x.2.1 (catL V A B) B:=by simp[catL]
set_option maxHeartbeats 8000000 in
theorem concat16_is(an bn:Bool)(A B:List RW)(ac bc:Cp)(hl:A.length*B.length+B.length<100000)(hla:A.length<100000)(ha:∀x∈A,x.2.1.length<400000)(hb:∀x∈B,x.2.1.length<400000):
  PureIs prog 16 [.sl an (A.map rwC) ac,.sl bn (B.map rwC) bc] (.sl (catW A B).isEmpty ((catW A B).map rwC) .unk):=by
 have hAl:(A.map rwC).length=A.length:=List.length_map _;have hBl:(B.map rwC).length=B.length:=List.length_map _;obtain⟨R,hR⟩:∃R:Nat→List RW,R=fun i=>catL [] (A.take i) B:=⟨_,rfl⟩;have hR0:R 0=[]:=by rw[hR];rfl
 have hRl:∀i,i≤A.length→(R i).length+B.length<100000:=fun i hi=>by
  rw[hR];have h1:=catL_len (B:=B) (A:=A.take i) (V:=[]);rw[List.length_take,Nat.min_eq_left hi]at h1;have h2:=Nat.mul_le_mul_right B.length hi;simp only[List.length_nil]at h1⊢;omega
 have hRm:∀i,∀z∈R i,z.2.1.length<800000:=fun i z hz=>by
  rw[hR]at hz;rcases catL_mem hz with h|⟨x,hx,y,hy,rfl⟩
  ·cases h
  ·have:=ha x (List.mem_of_mem_take hx);have:=hb y hy;simp;omega
 have hRo:∀i,SrtW (R i):=fun i=>by rw[hR];exact catL_srt List.Pairwise.nil
 have hRs:∀i x,A[i]?=some x→R (i+1)=catR x.2.1 (R i) B:=fun i x h=>by
  obtain⟨h1,h2⟩:=List.getElem?_eq_some_iff.1 h;rw[hR];simp only;rw[List.take_succ_eq_append_getElem h1,h2,catL_snoc]
 have hRe:R A.length=catW A B:=by rw[hR];simp only[List.take_length];rfl
 clear hR;refine PureIs.of1 2 [4,5,6,7,11,17,20,31] func16 ntmps16 results16 fun _=>?_;refine EvC.a ?_;refine EvC.a ?_;refine EvC.thaw 1 (by simp only[go_sem]<;>rfl) ?_;refine EvC.seq ?_;refine EvC.a ?_;refine EvC.block ?_;refine EvC.loopS (σ:=Nat) (fun i=>⟨[(0,.sl an (A.map rwC) ac),(1,.sl bn (B.map rwC) bc),(5,.tl 0 (R i).length (decide ((R i).length=0))),(6,.sc (.int .i64 i))],[],wM (R i),1⟩) (fun i=>A.length-i) (fun i=>i≤A.length) [0,1,5,6] 1 ?_ ?_
 ·exact⟨[(1,0)],0,rfl,(by rw[hR0,wM];simp only[go_sem,List.length_nil,List.map_nil,Int.natCast_zero]<;>rfl),Nat.zero_le _⟩
 intro i hi;refine EvC.seq ?_;refine EvC.a ?_ (by simp only[go_sem,hAl]<;>rfl);refine EvC.cd (fun hc=>?_) (fun hc=>?_);rotate_left
 ·refine EvC.exit ?_;have hi2:i=A.length:=by have:¬i<A.length:=(by simpa using hc);omega
  subst hi2;rw[hRe];obtain⟨V,hV⟩:∃V,V=catW A B:=⟨_,rfl⟩;rw[←hV];have hVn:=norefs_rw V;have hVc:(V.map rwC).length=V.length:=List.length_map _;have hVe:V.isEmpty=decide (V.length=0):=by cases V<;>simp
  rw[hVe];generalize decide (V.length=0)=e;refine EvC.frz 0 (by simp only[go_sem,wM,hVn,hVc]<;>rfl) ?_;refine EvC.a ?_;refine EvC.rz ?_;simp only[go_sem]
 have hil:i<A.length:=by simpa using hc
 clear hc;have hge:A[i]?=some (A[i]'hil):=List.getElem?_eq_getElem hil;have hxm:=ha _ (List.getElem_mem hil);have hRs:=hRs i _ hge;generalize A[i]'hil=x at hge hxm hRs;have hxg:=rw_get hge;have hit:(i:Int).toNat=i:=Int.toNat_natCast i;have hRi:=hRl i hi;have hRo:=hRo i;have hRm:=hRm i;obtain⟨U,hU⟩:∃U,U=R i:=⟨_,rfl⟩;rw[←hU]at hRs hRi hRo hRm⊢;obtain⟨C,hC⟩:∃C:Nat→List RW,C=fun k=>catR x.2.1 U (B.take k):=⟨_,rfl⟩;have hC0:C 0=U:=by rw[hC];rfl
 have hCe:C B.length=R (i+1):=by rw[hC,hRs];simp only[List.take_length]
 have hCl:∀k,k≤B.length→(C k).length<100000:=fun k hk=>by
  rw[hC];have h1:=catR_len (a:=x.2.1) (B:=B.take k) (V:=U);rw[List.length_take,Nat.min_eq_left hk]at h1;simp only;omega
 have hCm:∀k,∀z∈C k,z.2.1.length<1000000:=fun k z hz=>by
  rw[hC]at hz;rcases catR_mem hz with h|⟨y,hy,rfl⟩
  ·have:=hRm z h;omega
  ·have:=hb y (List.mem_of_mem_take hy);simp;omega
 have hCo:∀k,SrtW (C k):=fun k=>by rw[hC];exact catR_srt hRo
 have hCs:∀k y,B[k]?=some y→C (k+1)=insW (C k) (false,x.2.1++y.2.1,.unk):=fun k y h=>by
  obtain⟨h1,h2⟩:=List.getElem?_eq_some_iff.1 h;rw[hC];simp only;rw[List.take_succ_eq_append_getElem h1,h2,catR_snoc]
 clear hC hRs;have hUn:=norefs_rw U;have hUc:(U.map rwC).length=U.length:=List.length_map _;refine EvC.skip ?_;refine EvC.seq ?_;refine EvC.block ?_;refine EvC.a ?_;refine EvC.block ?_;refine EvC.loopS (σ:=Nat) (fun k=>⟨[(0,.sl an (A.map rwC) ac),(1,.sl bn (B.map rwC) bc),(5,.tl 0 (C k).length (decide ((C k).length=0))),(6,.sc (.int .i64 i)),(7,.sc (.int .i64 k))],[],wM (C k),1⟩) (fun k=>B.length-k) (fun k=>k≤B.length) [0,1,5,6,7] 1 ?_ ?_
 ·exact⟨[(0,0)],0,rfl,(by rw[hC0];simp only[go_sem,hUn,hUc,wM,Int.natCast_zero]<;>rfl),Nat.zero_le _⟩
 intro k hk;refine EvC.seq ?_;refine EvC.a ?_ (by simp only[go_sem,hBl]<;>rfl);refine EvC.cd (fun hc=>?_) (fun hc=>?_);rotate_left
 ·refine EvC.exit ?_;have hk2:k=B.length:=by have:¬k<B.length:=(by simpa using hc);omega
  subst hk2;rw[hCe];have hVn:=norefs_rw (R (i+1));have hVc:((R (i+1)).map rwC).length=(R (i+1)).length:=List.length_map _;generalize hee:decide ((R (i+1)).length=0)=e;refine EvC.bi ?_;exact⟨[(0,0)],i+1,rfl,(by rw[hee];simp only[go_sem,wM,hVn,hVc,Int.natCast_add,Int.natCast_one]<;>rfl),hil,by omega⟩
 have hkl:k<B.length:=by simpa using hc
 clear hc;have hgk:B[k]?=some (B[k]'hkl):=List.getElem?_eq_getElem hkl;have hym:=hb _ (List.getElem_mem hkl);have hCs:=hCs k _ hgk;generalize B[k]'hkl=y at hgk hym hCs;have hyg:=rw_get hgk;have hkt:(k:Int).toNat=k:=Int.toNat_natCast k;have hCk:=hCl k hk;have hCo:=hCo k;have hCm:=hCm k;generalize C k=V at hCk hCo hCm hCs;have hVn:=norefs_rw V;have hVc:(V.map rwC).length=V.length:=List.length_map _;have hap:x.2.1.map intC++y.2.1.map intC=(x.2.1++y.2.1).map intC:=(List.map_append ..).symm;have hxn:(x.2.1.map intC++y.2.1.map intC).all AV.norefs=true:=by rw[hap];exact norefs_intC _
 have hxl:(x.2.1.map intC++y.2.1.map intC).length=x.2.1.length+y.2.1.length:=by simp
 have hx1:List.take (x.2.1.length+y.2.1.length) (x.2.1.map intC++y.2.1.map intC)=x.2.1.map intC++y.2.1.map intC:=List.take_of_length_le (by rw[hxl];exact Nat.le_refl _);refine EvC.skip ?_;refine EvC.seq ?_;refine EvC.block ?_;apply EvC.drt mixed
 ·apply TrTo.run
  ·simp only[go_sem,hxg,hyg,hit,hkt,hAl,hBl,hap,List.nil_append,List.length_map]<;>rfl
  ·simp[room_eq,intC];try omega
  exact TrTo.here
 ·kernel_rfl
 ·kernel_rfl
 ·kernel_rfl
 ·kernel_rfl
 obtain⟨w,hw⟩:∃w,w=x.2.1++y.2.1:=⟨_,rfl⟩;have hwl:w.length<1000000:=by rw[hw];simp;omega
 rw[←hw]at hap hCs;refine XR.frz 11 (by simp only[go_sem,wM,List.length_map,hxn,hxl,hx1]<;>rfl) ?_;refine XR.gcTo ⟨[(0,.sl an (A.map rwC) ac),(1,.sl bn (B.map rwC) bc),(6,.sc (.int .i64 i)),(7,.sc (.int .i64 k)),(20,.tl 0 V.length (decide (V.length=0))),(31,.sl false (w.map intC) .unk)],[],wM V,1⟩ [0,1,6,7,20,31] [(0,0)] rfl (by simp only[go_sem,wM,hVn,hVc,hap]<;>rfl) ?_;apply XR.callI rfl rfl (by simp only[go_sem]<;>rfl) (by simp only[go_sem]<;>rfl) (by simp only[go_sem]<;>rfl);refine(put_body V hCo (by omega) hCm false w .unk hwl).mono fun r M z h=>?_;obtain⟨rfl,rfl⟩:=h;rw[←hCs];have hle:=(insW_len (false,w,.unk) V).2;rw[←hCs]at hle;have hdz:decide ((C (k+1)).length=0)=false:=decide_eq_false (by omega);have hSn:=norefs_rw (C (k+1));have hSc:((C (k+1)).map rwC).length=(C (k+1)).length:=List.length_map _;apply XR.done
 ·simp only[go_sem]<;>rfl
 ·simp
 refine EvC.bi ?_;exact⟨[(0,0)],k+1,rfl,(by rw[hdz];simp only[go_sem,wM,hSn,hSc,Int.natCast_add,Int.natCast_one]<;>rfl),hkl,by omega⟩
def oneS(n:Nat)(w:List Int):List RW:=(List.range n).map fun(s:Nat)=>(false,w++[(s:Int)],.unk)
def moreS(n:Nat)(O:List RW):List RW:=O.flatMap fun r=>oneS n r.2.1
def exW(n:Nat):Nat→List RW
 | 0=>[(false,[],.unk)]
 | k+1=>moreS n (exW n k)
theorem oneS_len(n:Nat)(w:List Int):(oneS n w).length=n:=by simp[oneS]
theorem moreS_len(n:Nat):∀O:List RW,(moreS n O).length=O.length*n
 | []=>by simp[moreS]
 | r::O=>by
   have:=moreS_len n O;simp only[moreS,List.flatMap_cons,List.length_append,oneS_len,List.length_cons,Nat.succ_mul]at this⊢;omega
theorem moreS_word{n:Nat}{O:List RW}{z:RW}(h:z∈moreS n O):∃r∈O,∃s:Nat,s<n∧z=(false,r.2.1++[(s:Int)],.unk):=by
 simp only[moreS,oneS,List.mem_flatMap,List.mem_map,List.mem_range]at h;obtain⟨r,hr,s,hs,rfl⟩:=h;exact⟨r,hr,s,hs,rfl⟩
theorem exW_word{n:Nat}:∀{k:Nat} {z:RW},z∈exW n k→z.2.1.length=k
 | 0,z,h=>by simp[exW]at h;subst h;rfl
 | k+1,z,h=>by
   obtain⟨r,hr,s,_,rfl⟩:=moreS_word h;have:=exW_word hr;simp;omega
set_option maxHeartbeats 8000000 in
theorem exact50_is(n k:Nat)(hn:n≤16)(hn1:1≤n)(hk:k≤1):PureIs prog 50 [.sc (.int .i64 n),.sc (.int .i64 k)] (.sl false ((exW n k).map rwC) .unk):=by
 refine PureIs.of1 2 [4,5,6,7,8,9,14,20,25] func50 ntmps50 results50 fun _=>?_;refine EvC.a ?_;refine EvC.a ?_;refine EvC.unkV 5 (by simp only[go_sem]<;>rfl) ?_;refine EvC.seq ?_;refine EvC.a ?_;refine EvC.block ?_;refine EvC.loopS (σ:=Nat) (fun i=>⟨[(0,.sc (.int .i64 n)),(1,.sc (.int .i64 k)),(5,.sl false ((exW n i).map rwC) .unk),(6,.sc (.int .i64 i))],[],[],0⟩) (fun i=>k-i) (fun i=>i≤k) [0,1,5,6] 0 ?_ ?_
 ·exact⟨[],0,rfl,(by simp only[go_sem,Int.natCast_zero]<;>rfl),Nat.zero_le _⟩
 intro i hi;refine EvC.seq ?_;refine EvC.a ?_;refine EvC.cd (fun hc=>?_) (fun hc=>?_);rotate_left
 ·refine EvC.exit ?_;obtain rfl:i=k:=by have:¬i<k:=(by simpa using hc);omega
  refine EvC.a ?_;refine EvC.rz ?_;simp only[go_sem]
 have hik:i<k:=by simpa using hc
 clear hc;obtain⟨O,hO⟩:∃O,O=exW n i:=⟨_,rfl⟩;have hOs:exW n (i+1)=moreS n O:=by rw[hO];rfl
 have hOw:∀z∈O,z.2.1.length=i:=fun z hz=>exW_word (by rw[hO]at hz;exact hz);have hOlen:O.length≤1:=by
  obtain rfl:i=0:=by omega
  rw[hO];simp[exW]
 rw[←hO];have hOl:(O.map rwC).length=O.length:=List.length_map _;have hOn:=norefs_rw O;refine EvC.skip ?_;refine EvC.seq ?_;refine EvC.block ?_;refine EvC.a ?_;refine EvC.thaw 3 (by simp only[go_sem]<;>rfl) ?_;refine EvC.seq ?_;refine EvC.a ?_;refine EvC.block ?_;refine EvC.loopS (σ:=Nat) (fun j=>⟨[(0,.sc (.int .i64 n)),(1,.sc (.int .i64 k)),(5,.sl false (O.map rwC) .unk),(6,.sc (.int .i64 i)),(7,.tl 0 (moreS n (O.take j)).length (decide ((moreS n (O.take j)).length=0))),(8,.sc (.int .i64 j))],[],wM (moreS n (O.take j)),1⟩) (fun j=>O.length-j) (fun j=>j≤O.length) [0,1,5,6,7,8] 1 ?_ ?_
 ·have hz:moreS n (O.take 0)=[]:=by simp[moreS]
  exact⟨[(3,0)],0,rfl,(by rw[hz,wM];simp only[go_sem,hOn,List.length_nil,List.map_nil,Int.natCast_zero]<;>rfl),Nat.zero_le _⟩
 intro j hj;refine EvC.seq ?_;refine EvC.a ?_ (by simp only[go_sem,hOl]<;>rfl);refine EvC.cd (fun hc=>?_) (fun hc=>?_);rotate_left
 ·refine EvC.exit ?_;obtain rfl:j=O.length:=by have:¬j<O.length:=(by simpa using hc);omega
  rw[List.take_length,←hOs];obtain⟨V,hV⟩:∃V,V=exW n (i+1):=⟨_,rfl⟩;rw[←hV];have hVn:=norefs_rw V;have hVc:(V.map rwC).length=V.length:=List.length_map _;generalize hee:decide (V.length=0)=e;refine EvC.frz 0 (by simp only[go_sem,wM,hVn,hVc]<;>rfl) ?_;refine EvC.b ?_;refine EvC.bi ?_;have hef:e=false∨V=[]:=by
   rw[←hee];cases V with
   | nil=>exact .inr rfl
   | cons=>exact .inl (by simp)
  have hV0:e=false:=by
   rcases hef with h|h
   ·exact h
   ·exfalso;have h2:V.length=O.length*n:=by rw[hV,hOs,moreS_len]
    have h3:O.length=1:=by
     obtain rfl:i=0:=by omega
     rw[hO];rfl
    rw[h,h3]at h2;simp at h2;omega
  exact⟨[],i+1,rfl,(by rw[←hV,hV0];simp only[go_sem,Int.natCast_add,Int.natCast_one]<;>rfl),hik,by omega⟩
 have hjl:j<O.length:=by simpa using hc
 clear hc;have hge:O[j]?=some (O[j]'hjl):=List.getElem?_eq_getElem hjl;have hwm:=hOw _ (List.getElem_mem hjl);have hTs:moreS n (O.take (j+1))=moreS n (O.take j)++oneS n (O[j]'hjl).2.1:=by
  rw[List.take_succ_eq_append_getElem hjl];simp only[moreS,List.flatMap_append,List.flatMap_cons,List.flatMap_nil,List.append_nil]
 have hTl:(moreS n (O.take j)).length≤16:=by
  rw[moreS_len,List.length_take];have:min j O.length=0:=by omega
  rw[this];omega
 generalize O[j]'hjl=x at hge hwm hTs;have hxg:=rw_get hge;have hjt:(j:Int).toNat=j:=Int.toNat_natCast j;obtain⟨U,hU⟩:∃U,U=moreS n (O.take j):=⟨_,rfl⟩;rw[←hU]at hTs hTl⊢;have hUn:=norefs_rw U;have hUc:(U.map rwC).length=U.length:=List.length_map _;refine EvC.skip ?_;refine EvC.seq ?_;refine EvC.block ?_;refine EvC.a ?_;refine EvC.block ?_;refine EvC.loopS (σ:=Nat) (fun s=>⟨[(0,.sc (.int .i64 n)),(1,.sc (.int .i64 k)),(5,.sl false (O.map rwC) .unk),(6,.sc (.int .i64 i)),(7,.tl 0 (U++oneS s x.2.1).length (decide ((U++oneS s x.2.1).length=0))),(8,.sc (.int .i64 j)),(9,.sc (.int .i64 s))],[],wM (U++oneS s x.2.1),1⟩) (fun s=>n-s) (fun s=>s≤n) [0,1,5,6,7,8,9] 1 ?_ ?_
 ·have hz:U++oneS 0 x.2.1=U:=by simp[oneS]
  exact⟨[(0,0)],0,rfl,(by rw[hz,wM];simp only[go_sem,hUn,hUc,hOn,Int.natCast_zero]<;>rfl),Nat.zero_le _⟩
 intro s hs;refine EvC.seq ?_;refine EvC.a ?_;have hos:∀s,oneS (s+1) x.2.1=oneS s x.2.1++[(false,x.2.1++[(s:Int)],.unk)]:=fun s=>by simp[oneS,List.range_succ]
 refine EvC.cd (fun hc=>?_) (fun hc=>?_);rotate_left
 ·refine EvC.exit ?_;obtain rfl:s=n:=by have:¬s<n:=(by simpa using hc);omega
  rw[←hTs];obtain⟨V,hV⟩:∃V,V=moreS s (O.take (j+1)):=⟨_,rfl⟩;rw[←hV];have hVn:=norefs_rw V;have hVc:(V.map rwC).length=V.length:=List.length_map _;have hVL:U.length+(oneS s x.2.1).length=V.length:=by rw[hV,hTs,List.length_append]
  refine EvC.bi ?_;exact⟨[(0,0)],j+1,rfl,(by simp only[hVL,←hV];generalize decide (V.length=0)=e;simp only[go_sem,wM,hOn,hVn,hVc,Int.natCast_add,Int.natCast_one]<;>rfl),hjl,by omega⟩
 have hsn:s<n:=by simpa using hc
 clear hc;obtain⟨V,hV⟩:∃V,V=U++oneS s x.2.1:=⟨_,rfl⟩;have hVs:U++oneS (s+1) x.2.1=V++[(false,x.2.1++[(s:Int)],.unk)]:=by rw[hos,hV,List.append_assoc]
 have hVl:V.length≤32:=by rw[hV,List.length_append,oneS_len];omega
 rw[←hV];have hVn:=norefs_rw V;have hVc:(V.map rwC).length=V.length:=List.length_map _;obtain⟨W,hW⟩:∃W,W=U++oneS (s+1) x.2.1:=⟨_,rfl⟩;rw[←hW]at hVs;have hm:V.map rwC++[[.sl false (x.2.1.map intC++[[.sc (.int .i64 s)]]) .unk]]=W.map rwC:=by rw[hVs,List.map_append];simp[rwC,intC]
 have hWl:W.length=V.length+1:=by rw[hVs];simp
 have hWd:decide (W.length=0)=false:=decide_eq_false (by omega);have hWn:=norefs_rw W;have hWc:(W.map rwC).length=W.length:=List.length_map _;refine EvC.skip ?_;refine EvC.seq ?_;refine EvC.block ?_;have hxl:(x.2.1.map intC).length=x.2.1.length:=List.length_map _;have hxn:=norefs_intC x.2.1;have hyl:(x.2.1.map intC++[[AV.sc (.int .i64 s)]]).length=x.2.1.length+1:=by simp
 have hyt:(x.2.1.map intC++[[AV.sc (.int .i64 s)]]).take (x.2.1.length+1)=x.2.1.map intC++[[AV.sc (.int .i64 s)]]:=List.take_of_length_le (by rw[hyl];exact Nat.le_refl _);have hyn:(x.2.1.map intC++[[AV.sc (.int .i64 s)]]).all AV.norefs=true:=by rw[List.all_append,hxn];rfl
 refine EvC.rt 10 (by simp only[go_sem,hxg,hjt,hOl,hxl,wM]<;>rfl) ?_ ?_
 ·simp[room_eq,intC];try omega
 refine XR.frz 10 (by simp only[go_sem,hyl,hyt,hyn,wM]<;>rfl) ?_;simp only[List.drop_succ_cons,List.drop_zero];refine XR.done (by simp only[go_sem,hVn,hVc,hm,wM]<;>rfl) (by simp[room_eq,hVc];exact⟨by rw[hV,List.length_append],by omega⟩) ?_;refine EvC.bi ?_;exact⟨[(0,0)],s+1,rfl,(by rw[←hW,hWd,hWl];simp only[go_sem,wM,hOn,hWn,hWc,Int.natCast_add,Int.natCast_one]<;>rfl),hsn,by omega⟩
def uptoW(n i:Nat):List RW:=(List.range i).flatMap (exW n)
theorem exW_pos{n:Nat}(h:1≤n):∀k,0<(exW n k).length
 | 0=>by simp[exW]
 | k+1=>by rw[exW,moreS_len];exact Nat.mul_pos (exW_pos h k) (by omega)
theorem uptoW_succ(n i:Nat):uptoW n (i+1)=uptoW n i++exW n i:=by simp[uptoW,List.range_succ]
set_option maxHeartbeats 8000000 in
theorem upto15_is(n k:Nat)(hn:n≤16)(hn1:1≤n)(hk:k≤1):PureIs prog 15 [.sc (.int .i64 n),.sc (.int .i64 k)] (.sl false ((uptoW n (k+1)).map rwC) .unk):=by
 have hlen:∀i,i≤k+1→(uptoW n i).length≤40:=fun i hi=>by
  have h0:(exW n 0).length=1:=rfl;have h1:(exW n 1).length=n:=by rw[exW,moreS_len];simp[exW]
  rcases(show i=0∨i=1∨i=2 by omega)with rfl|rfl|rfl
  ·simp[uptoW]
  ·rw[uptoW_succ];simp[uptoW,h0]
  ·rw[uptoW_succ,uptoW_succ];simp[uptoW,h0,h1];omega
 refine PureIs.of1 2 [4,5,6,9] func15 ntmps15 results15 fun _=>?_;refine EvC.a ?_;refine EvC.a ?_;refine EvC.thaw 1 (by simp only[go_sem]<;>rfl) ?_;refine EvC.seq ?_;refine EvC.a ?_;refine EvC.block ?_;refine EvC.loopS (σ:=Nat) (fun i=>⟨[(0,.sc (.int .i64 n)),(1,.sc (.int .i64 k)),(5,.tl 0 (uptoW n i).length (decide ((uptoW n i).length=0))),(6,.sc (.int .i64 i))],[],wM (uptoW n i),1⟩) (fun i=>k+1-i) (fun i=>i≤k+1) [0,1,5,6] 1 ?_ ?_
 ·have hz:uptoW n 0=[]:=rfl;exact⟨[(1,0)],0,rfl,(by rw[hz,wM];simp only[go_sem,List.length_nil,List.map_nil,Int.natCast_zero]<;>rfl),Nat.zero_le _⟩
 intro i hi;have hil:=hlen i hi;refine EvC.seq ?_;refine EvC.a ?_;by_cases hik:i≤k;rotate_left
 ·obtain rfl:i=k+1:=by omega
  have hpos:0<(uptoW n (k+1)).length:=by rw[uptoW_succ,List.length_append];have:=exW_pos hn1 k;omega
  obtain⟨V,hV⟩:∃V,V=uptoW n (k+1):=⟨_,rfl⟩;rw[←hV]at hpos⊢;have hVn:=norefs_rw V;have hVc:(V.map rwC).length=V.length:=List.length_map _;refine EvC.cf ?_ (by simp only[go_sem,decide_eq_false (show ¬(k:Int)+((1:Nat):Int)≤k by omega)]<;>rfl);refine EvC.exit ?_;have hd:decide (V.length=0)=false:=decide_eq_false (by omega);rw[hd];refine EvC.frz 0 (by simp only[go_sem,wM,hVn,hVc]<;>rfl) ?_;refine EvC.a ?_;refine EvC.rz ?_;simp only[go_sem]
 refine EvC.ct ?_ (by simp only[go_sem,decide_eq_true (show(i:Int)≤k by omega)]<;>rfl);have hq:=exact50_is n i hn hn1 (by omega);have hpos:=exW_pos hn1 i;have hs:=uptoW_succ n i;have hl2:=hlen (i+1) (by omega);obtain⟨W,hW⟩:∃W,W=uptoW n (i+1):=⟨_,rfl⟩;obtain⟨X,hX⟩:∃X,X=exW n i:=⟨_,rfl⟩;obtain⟨V,hV⟩:∃V,V=uptoW n i:=⟨_,rfl⟩;rw[←hX]at hq hpos;rw[←hV]at hil⊢;rw[←hW]at hl2;rw[←hW,←hV,←hX]at hs;have hVn:=norefs_rw V;have hVc:(V.map rwC).length=V.length:=List.length_map _;have hWn:=norefs_rw W;have hWc:(W.map rwC).length=W.length:=List.length_map _;have hm:V.map rwC++X.map rwC=W.map rwC:=by rw[hs,List.map_append]
 have hXc:(X.map rwC).length=X.length:=List.length_map _
 have hXe:(X.map rwC).isEmpty=false:=by cases X with
  | nil=>simp at hpos
  | cons=>rfl
 have hVX:V.length+X.length=W.length:=by rw[hs,List.length_append]
 refine EvC.skip ?_;refine EvC.seq ?_;refine EvC.block ?_;refine EvC.k1L ?_ (h1:=by simp only[go_sem,hVn,hVc,hXc,hm,hVX,wM]<;>rfl) (k1:=by simp;try omega) (c1:=.ca hq) (h2:=by simp only[go_sem,hVn,hVc,hXc,hm,hVX,wM]<;>rfl) (k2:=by simp[room_eq,hVc,hXc,rwC];try omega);refine EvC.bi ?_;have hd:decide (W.length=0)=false:=decide_eq_false (by omega);exact⟨[(0,0)],i+1,rfl,(by rw[←hW,hd];simp only[go_sem,wM,hWn,hWc,hXe,Bool.and_false,Int.natCast_add,Int.natCast_one]<;>rfl),by omega,by omega⟩
theorem rank_zeros{k:Nat}:∀(n:Nat),rank k (List.replicate n 0)=sumK k n
 | 0=>rfl
 | n+1=>by simp[List.replicate_succ,rank,rank_zeros n,sumK];omega
theorem rank_incr{k:Nat}(hk:1≤k):∀{w:List Int},WOk k w→
  ((incrW k w).2=true→(incrW k w).1=List.replicate w.length 0∧rank k w+1=sumK k (w.length+1))∧((incrW k w).2=false→(incrW k w).1.length=w.length∧rank k (incrW k w).1=rank k w+1)
 | [],_=>by simp[incrW,rank,sumK]
 | x::w,h=>by
   obtain⟨h1,h2⟩:=rank_incr hk h.tail;have hx:=h.head;unfold incrW;by_cases hc:(incrW k w).2=true
   ·obtain⟨e1,e2⟩:=h1 hc;rw[if_pos hc];rw[sumK]at e2;by_cases hx1:x+1<k
    ·rw[if_pos hx1];refine⟨fun h=>(by cases h),fun _=>?_⟩;simp only[e1];refine⟨by simp,?_⟩;have:(x+1).toNat=x.toNat+1:=by omega
     simp only[rank,List.length_replicate,rank_zeros,this];rw[Nat.succ_mul (x.toNat+1)];omega
    ·rw[if_neg hx1];refine⟨fun _=>?_,fun h=>by cases h⟩;simp only[e1];refine⟨by simp[List.replicate_succ],?_⟩;have:x.toNat+1=k:=by omega
     simp only[rank,this,List.length_cons,sumK];rw[Nat.pow_succ,Nat.mul_comm (k^w.length) k];omega
   ·rw[if_neg hc];refine⟨fun h=>(by cases h),fun _=>?_⟩;obtain⟨e1,e2⟩:=h2 (by simpa using hc);simp only[rank,List.length_cons,e1,e2];exact⟨trivial,by omega⟩
theorem rank_next{k:Nat}(hk:1≤k){w:List Int}(h:WOk k w):rank k (nextW k w)=rank k w+1:=by
 obtain⟨h1,h2⟩:=rank_incr hk h;unfold nextW;by_cases hc:(incrW k w).2=true
 ·obtain⟨e1,e2⟩:=h1 hc;rw[if_pos hc,e1,e2,show([0]:List Int)=List.replicate 1 0 from rfl,List.replicate_append_replicate,rank_zeros]
 ·rw[if_neg hc];exact(h2 (by simpa using hc)).2
theorem rank_at{k:Nat}(hk:1≤k):∀n,WOk k (wordAt k n)∧rank k (wordAt k n)=n
 | 0=>⟨by simp[WOk,wordAt],rfl⟩
 | n+1=>by
   obtain⟨h1,h2⟩:=rank_at hk n;refine⟨wordAt_ok (by omega) (n+1),?_⟩;rw[wordAt,rank_next hk h1,h2]
theorem at_rank{k:Nat}(hk:1≤k){w:List Int}(h:WOk k w):wordAt k (rank k w)=w:=by
 obtain⟨h1,h2⟩:=rank_at hk (rank k w);exact rank_inj h1 h h2
theorem cmpI_rank{k:Nat}:∀{a b:List Int},WOk k a→WOk k b→a.length=b.length→(cmpI a b<0↔rank k a<rank k b)
 | [],[],_,_,_=>by simp[cmpI]
 | [],_::_,_,_,h=>by simp at h
 | _::_,[],_,_,h=>by simp at h
 | x::a,y::b,ha,hb,h=>by
   have hl:a.length=b.length:=by simpa using h
   have hx:=ha.head;have hy:=hb.head;unfold cmpI;by_cases h1:x<y
   ·rw[if_pos h1];exact⟨fun _=>rank_head hl ha.tail (by omega),fun _=>by omega⟩
   ·rw[if_neg h1];by_cases h2:y<x
    ·rw[if_pos h2];have:=rank_head hl.symm hb.tail (a:=y) (b:=x) (by omega);exact⟨fun h=>by omega,fun h=>by omega⟩
    ·rw[if_neg h2,cmpI_rank ha.tail hb.tail hl];obtain rfl:x=y:=by omega
     simp only[rank,hl];omega
theorem cmpL_rank{k:Nat}{a b:List Int}(ha:WOk k a)(hb:WOk k b):cmpL a b<0↔rank k a<rank k b:=by
 unfold cmpL;by_cases h:a.length=b.length
 ·rw[if_pos h];exact cmpI_rank ha hb h
 ·rw[if_neg h];by_cases h1:a.length<b.length
  ·rw[if_pos h1];exact⟨fun _=>rank_len ha h1,fun _=>by omega⟩
  ·rw[if_neg h1];have:=rank_len hb (w:=b) (v:=a) (by omega);exact⟨fun h=>by omega,fun h=>by omega⟩
theorem less72_is(na nb:Bool)(a b:List Int)(ca cb:Cp)(hl:a.length<1000000):
  PureIs prog 72 [.sl na (a.map intC) ca,.sl nb (b.map intC) cb] (.sc (.int .i64 (if cmpL a b<0 then 1 else 0))):=by
 refine PureIs.of1 2 [4,5,10,15,19,30,39] func72 ntmps72 results72 fun _=>?_;refine EvC.a ?_;refine EvC.seq ?_;refine EvC.a ?_ (by simp only[go_sem,List.length_map]<;>rfl);unfold cmpL;by_cases hlen:a.length=b.length;rotate_left
 ·have hd:decide ((a.length:Int)=(b.length:Int))=false:=decide_eq_false (by omega);rw[if_neg hlen];refine EvC.ct ?_ (by simp only[go_sem,hd]<;>rfl);refine EvC.seq ?_;refine EvC.a ?_ (by simp only[go_sem,List.length_map]<;>rfl);by_cases hlt:a.length<b.length
  ·have h2:decide ((a.length:Int)<(b.length:Int))=true:=decide_eq_true (by omega);refine EvC.ct ?_ (by simp only[go_sem,h2]<;>rfl);refine EvC.a ?_;rw[if_pos hlt];refine EvC.rz ?_;simp only[go_sem]
  ·have h2:decide ((a.length:Int)<(b.length:Int))=false:=decide_eq_false (by omega);refine EvC.cs ?_ (by simp only[go_sem,h2]<;>rfl);refine EvC.a ?_;rw[if_neg hlt];refine EvC.rz ?_;simp only[go_sem]
 have hd:decide ((a.length:Int)=(b.length:Int))=true:=decide_eq_true (by omega);rw[if_pos hlen];refine EvC.cs ?_ (by simp only[go_sem,hd]<;>rfl);refine EvC.seq ?_;refine EvC.a ?_;refine EvC.block ?_;refine EvC.loopS (σ:=Nat) (fun i=>⟨[(0,.sl na (a.map intC) ca),(1,.sl nb (b.map intC) cb),(5,.sc (.int .i64 i))],[],[],0⟩) (fun i=>a.length-i) (fun i=>i≤a.length∧cmpI a b=cmpI (a.drop i) (b.drop i)) [0,1,5] 0 ?_ ?_
 ·exact⟨[],0,rfl,(by simp only[go_sem,Int.natCast_zero]<;>rfl),Nat.zero_le _,rfl⟩
 rintro i ⟨hi,hinv⟩;refine EvC.seq ?_;refine EvC.a ?_ (by simp only[go_sem,List.length_map]<;>rfl);refine EvC.cd (fun hc=>?_) (fun hc=>?_);rotate_left
 ·
  refine EvC.exit ?_
  obtain rfl:a.length=i:=by have:¬i<a.length:=by simpa using hc
                            omega
  have h0:cmpI a b=0:=by rw[hinv,List.drop_length,hlen,List.drop_length];rfl
  rw[h0];refine EvC.a ?_;refine EvC.rz ?_;simp only[go_sem]
 have hil:i<a.length:=by simpa using hc
 clear hc;have he:a[i]?=some (a[i]'hil):=List.getElem?_eq_getElem hil;have hf:b[i]?=some (b[i]'(by omega)):=List.getElem?_eq_getElem (by omega);generalize a[i]'hil=x at he;generalize b[i]'(by omega)=y at hf;rw[list_step he,list_step hf,cmpI]at hinv;have hin:(i:Int).toNat=i:=Int.toNat_natCast i;refine EvC.skip ?_;refine EvC.seq ?_;refine EvC.block ?_;refine EvC.d mixed ?_ (h:=by simp only[go_sem,he,hf,intC,hin,List.length_map]<;>rfl) (hok:=by simp;try omega);by_cases hxy:x=y
 ·have d1:decide (x=y)=true:=decide_eq_true hxy;refine EvC.cs ?_ (by simp only[go_sem,d1]<;>rfl);subst hxy;rw[if_neg (Int.lt_irrefl x),if_neg (Int.lt_irrefl x)]at hinv;refine EvC.bi ?_;exact⟨[],i+1,rfl,(by simp only[go_sem,Int.natCast_add,Int.natCast_one]<;>rfl),⟨hil,hinv⟩,by omega⟩
 have d1:decide (x=y)=false:=decide_eq_false hxy;refine EvC.ct ?_ (by simp only[go_sem,d1]<;>rfl);refine EvC.seq ?_;refine EvC.d mixed ?_ (h:=by simp only[go_sem,he,hf,intC,hin,List.length_map]<;>rfl) (hok:=by simp;try omega);by_cases hlt:x<y
 ·have d2:decide (x<y)=true:=decide_eq_true hlt;refine EvC.ct ?_ (by simp only[go_sem,d2]<;>rfl);refine EvC.a ?_;rw[hinv,if_pos hlt];refine EvC.rz ?_;simp only[go_sem]
 have d2:decide (x<y)=false:=decide_eq_false hlt;refine EvC.cs ?_ (by simp only[go_sem,d2]<;>rfl);refine EvC.a ?_;have hz:¬cmpI a b<0:=by rw[hinv,if_neg hlt,if_pos (by omega)];omega
 rw[if_neg hz];refine EvC.rz ?_;simp only[go_sem]
def fstI(m:Mach)(k t:Nat):Option Nat:=(List.range k).find? fun j=>decide (afterR m 0 (wordAt m.ins j)=(t:Int))
def fstR(m:Mach)(k t:Nat):RW:=match fstI m k t with
 | some j=>(false,wordAt m.ins j,.unk)
 | none=>(true,[],.zer)
def fstW(m:Mach)(k:Nat):List RW:=(List.range m.rows.length).map (fstR m k)
def fstB(m:Mach)(k:Nat):List Bool:=(List.range m.rows.length).map fun t=>(fstI m k t).isSome
theorem fstI_succ(m:Mach)(k t:Nat):fstI m (k+1) t=(fstI m k t).or (if afterR m 0 (wordAt m.ins k)=(t:Int)then some k else none):=by
 unfold fstI;rw[List.range_succ,List.find?_append];congr 1;by_cases h:afterR m 0 (wordAt m.ins k)=(t:Int)<;>simp[h]
theorem map_set_range{α:Type}{f g:Nat→α}{n t:Nat}(h:∀x,x≠t→f x=g x):((List.range n).map f).set t (g t)=(List.range n).map g:=by
 apply List.ext_getElem
 ·simp
 intro i h1 h2;rw[List.getElem_set];by_cases e:t=i
 ·subst e;simp
 ·rw[if_neg e];simp only[List.getElem_map,List.getElem_range];exact h i fun e'=>e e'.symm
theorem fst_old{m:Mach}{k t:Nat}(ha:afterR m 0 (wordAt m.ins k)=(t:Int))(h:(fstI m k t).isSome=true):∀x,fstI m (k+1) x=fstI m k x:=fun x=>by
 rw[fstI_succ,ha];by_cases e:x=t
 ·subst e;obtain⟨j,hj⟩:=Option.isSome_iff_exists.1 h;rw[hj];rfl
 ·rw[if_neg (by omega),Option.or_none]
theorem fst_new{m:Mach}{k t:Nat}(ha:afterR m 0 (wordAt m.ins k)=(t:Int))(h:(fstI m k t).isSome=false):(∀x,x≠t→fstI m k x=fstI m (k+1) x)∧fstI m (k+1) t=some k:=by
 refine⟨fun x hx=>?_,?_⟩
 ·rw[fstI_succ,ha,if_neg (by omega),Option.or_none]
 ·rw[fstI_succ,ha,if_pos rfl];cases hf:fstI m k t with
  | none=>rfl
  | some j=>rw[hf]at h;cases h
structure Prp (m:Mach):Prop where
 v:Valid m
 tot:∀s i:Nat,s<m.rows.length→(i:Int)<m.ins→∃t:Nat,t<m.rows.length∧(ex (rowN m s) i).1=(t:Int)
 pre:∀t:Nat,0<t→t<m.rows.length→∃s i:Nat,s<t∧(i:Int)<m.ins∧(ex (rowN m s) i).1=(t:Int)
theorem WOk.nat{k:Nat}{a:Int}{w:List Int}(h:WOk k (a::w)):∃i:Nat,a=(i:Int)∧i<k:=by
 have:=h.head;exact⟨a.toNat,by omega,by omega⟩
theorem WOk.app{k:Nat}{a b:List Int}(ha:WOk k a)(hb:WOk k b):WOk k (a++b):=fun x hx=>by
 rcases List.mem_append.1 hx with h|h
 ·exact ha x h
 ·exact hb x h
theorem WOk.left{k:Nat}{a b:List Int}(h:WOk k (a++b)):WOk k a:=fun x hx=>h x (List.mem_append_left _ hx)
theorem WOk.right{k:Nat}{a b:List Int}(h:WOk k (a++b)):WOk k b:=fun x hx=>h x (List.mem_append_right _ hx)
theorem WOk.one{k i:Nat}(h:i<k):WOk k [(i:Int)]:=fun x hx=>by simp at hx;omega
theorem WOk.nil(k:Nat):WOk k []:=fun x hx=>by cases hx
theorem after_cons(m:Mach)(s a:Nat)(w:List Int):afterR m s ((a:Int)::w)=afterR m (ex (rowN m s) a).1 w:=by rw[afterR,step_ex]
theorem after_app(m:Mach):∀(a b:List Int) (s:Int),afterR m s (a++b)=afterR m (afterR m s a) b
 | [],_,_=>rfl
 | x::a,b,s=>by rw[List.cons_append,afterR,after_app m a b];rfl
theorem run_app(m:Mach):∀(a b:List Int) (s:Int),runR m s (a++b)=runR m s a++runR m (afterR m s a) b
 | [],_,_=>rfl
 | x::a,b,s=>by rw[List.cons_append,runR,run_app m a b];rfl
theorem run_len(m:Mach):∀(w:List Int) (s:Int),(runR m s w).length=w.length
 | [],_=>rfl
 | x::w,s=>by rw[runR,List.length_cons,List.length_cons,run_len m w]
variable {m:Mach}
theorem Prp.after(h:Prp m):∀{w:List Int} {s:Nat},WOk m.ins.toNat w→s<m.rows.length→∃t:Nat,t<m.rows.length∧afterR m s w=(t:Int)
 | [],s,_,hs=>⟨s,hs,rfl⟩
 | a::w,s,hw,hs=>by
   obtain⟨i,rfl,hi⟩:=hw.nat;obtain⟨t,ht,e⟩:=h.tot s i hs (by omega);rw[after_cons,e];exact h.after hw.tail ht
theorem Prp.zero(h:Prp m):0<m.rows.length:=h.v.rows.1
theorem Prp.aft(h:Prp m){w:List Int}(hw:WOk m.ins.toNat w):∃t:Nat,t<m.rows.length∧afterR m 0 w=(t:Int):=h.after (s:=0) hw h.zero
theorem Prp.reach(h:Prp m):∀t:Nat,t<m.rows.length→∃w,WOk m.ins.toNat w∧w.length≤t∧afterR m 0 w=(t:Int):=fun t=>by
 induction t using Nat.strongRecOn with
 | _ t ih=>
   intro ht;by_cases h0:t=0
   ·subst h0;exact⟨[],WOk.nil _,Nat.le_refl _,rfl⟩
   obtain⟨s,i,hs,hi,e⟩:=h.pre t (by omega) ht;obtain⟨w,h1,h2,h3⟩:=ih s hs (by omega);refine⟨w++[(i:Int)],h1.app (WOk.one (by omega)),by simp;omega,?_⟩;rw[after_app,h3,after_cons,e];rfl
theorem rw_range_find{n i:Nat}{p:Nat→Bool}(h:(List.range n).find? p=some i):i<n∧p i=true∧∀j,j<i→p j=false:=by
 obtain⟨h1,l1,l2,h2,h3⟩:=List.find?_eq_some_iff_append.1 h;have hl:=congrArg List.length h2;simp only[List.length_range,List.length_append,List.length_cons]at hl;have hi:i=l1.length:=by
  have h4:(List.range n)[l1.length]?=some i:=by rw[h2,List.getElem?_append_right (Nat.le_refl _),Nat.sub_self];rfl
  rw[List.getElem?_range (by omega)]at h4;simpa using h4.symm
 refine⟨by omega,h1,fun j hj=>?_⟩;have h4:(List.range n)[j]?=some j:=List.getElem?_range (by omega);rw[h2,List.getElem?_append_left (by omega)]at h4;have:=h3 j (List.mem_of_getElem? h4);simpa using this
def kAll(m:Mach):Nat:=sumK m.ins.toNat m.rows.length
def accW(m:Mach)(t:Nat):List Int:=match fstI m (kAll m) t with
 | some j=>wordAt m.ins j
 | none=>[]
structure AccOk (m:Mach) (t:Nat) (w:List Int):Prop where
 ok:WOk m.ins.toNat w
 to:afterR m 0 w=(t:Int)
 len:w.length≤t
 least:∀v,WOk m.ins.toNat v→afterR m 0 v=(t:Int)→rank m.ins.toNat w≤rank m.ins.toNat v
theorem Valid.insN(h:Valid m):(m.ins.toNat:Int)=m.ins∧1≤m.ins.toNat∧m.ins.toNat≤16:=by have:=h.ins;omega
theorem Prp.acc(h:Prp m){t:Nat}(ht:t<m.rows.length):(∃j,fstI m (kAll m) t=some j∧accW m t=wordAt m.ins j)∧AccOk m t (accW m t):=by
 obtain⟨hK,h1,_⟩:=h.v.insN;obtain⟨w,w1,w2,w3⟩:=h.reach t ht;have hat:wordAt m.ins (rank m.ins.toNat w)=w:=by rw[←hK];exact at_rank h1 w1
 have hlt:rank m.ins.toNat w<kAll m:=Nat.lt_of_lt_of_le (rank_lt w1) (sumK_mono (by omega));cases hf:fstI m (kAll m) t with
 | none=>
   have hf':=hf;unfold fstI at hf';rw[List.find?_eq_none]at hf';exact absurd (by rw[hat];simpa using w3) (hf' (rank m.ins.toNat w) (List.mem_range.2 hlt))
 | some j=>
   obtain⟨j1,j2,j3⟩:=rw_range_find hf;have ha:accW m t=wordAt m.ins j:=by unfold accW;rw[hf]
   have j2:afterR m 0 (wordAt m.ins j)=(t:Int):=by simpa using j2
   obtain⟨r1,r2⟩:=rank_at h1 j;rw[hK]at r1 r2;have hle:∀v,WOk m.ins.toNat v→afterR m 0 v=(t:Int)→j≤rank m.ins.toNat v:=fun v v1 v2=>by
    refine Nat.le_of_not_lt fun hv=>?_;have:=j3 _ hv;have e:=at_rank h1 v1;rw[hK]at e;rw[e]at this;simp[v2]at this
   refine⟨⟨j,rfl,ha⟩,?_⟩;rw[ha];refine⟨r1,j2,?_,fun v v1 v2=>by rw[r2];exact hle v v1 v2⟩;have:=rank_lt_len (v:=wordAt m.ins j) w1 (by rw[r2];exact hle w w1 w3);omega
def accL(m:Mach):List RW:=(List.range m.rows.length).map fun t=>(false,accW m t,.unk)
theorem Prp.fstW(h:Prp m):fstW m (kAll m)=accL m:=List.map_congr_left fun t ht=>by
 obtain⟨⟨j,h1,h2⟩,_⟩:=h.acc (List.mem_range.1 ht);unfold fstR;rw[h1,h2]
theorem Prp.fstB(h:Prp m):fstB m (kAll m)=List.replicate m.rows.length true:=by
 rw[Avl.fstB,List.eq_replicate_iff];refine⟨by simp,fun b hb=>?_⟩;obtain⟨t,ht,rfl⟩:=List.mem_map.1 hb;obtain⟨⟨j,h1,_⟩,_⟩:=h.acc (List.mem_range.1 ht);rw[h1];rfl
theorem Prp.words(h:Prp m):(∀j,j<kAll m→(wordAt m.ins j).length<m.rows.length)∧m.rows.length≤(wordAt m.ins (kAll m)).length:=by
 obtain⟨hK,h1,_⟩:=h.v.insN;rw[←hK];refine⟨fun j hj=>?_,?_⟩
 ·obtain⟨k1,k2⟩:=rank_at h1 j;refine Nat.lt_of_not_le fun hle=>?_;have:=rank_ge (k:=m.ins.toNat) (wordAt m.ins.toNat j);have:=sumK_mono (k:=m.ins.toNat) hle;unfold kAll at hj;omega
 ·obtain⟨k1,k2⟩:=rank_at h1 (kAll m);refine Nat.le_of_not_lt fun hlt=>?_;have:=rank_lt k1;have:=sumK_mono (k:=m.ins.toNat) (show(wordAt m.ins.toNat (kAll m)).length+1≤m.rows.length by omega);have e:kAll m=sumK m.ins.toNat m.rows.length:=rfl;omega
theorem Prp.word(h:Prp m)(j:Nat):WOk m.ins.toNat (wordAt m.ins j):=by
 obtain⟨hK,h1,_⟩:=h.v.insN;rw[←hK];exact(rank_at h1 j).1
def ltS(m:Mach)(x s:Nat):Bool:=decide (cmpL (accW m x) (accW m s)<0)
def insO(lt:Nat→Nat→Bool):List Nat→Nat→List Nat
 | [],s=>[s]
 | x::O,s=>if lt x s=true then x::insO lt O s else s::x::O
def ordO(m:Mach)(k:Nat):List Nat:=(List.range k).foldl (insO (ltS m)) []
theorem ordO_succ(m:Mach)(k:Nat):ordO m (k+1)=insO (ltS m) (ordO m k) k:=by simp[ordO,List.range_succ]
theorem insO_app{lt:Nat→Nat→Bool}{s:Nat}:∀{A:List Nat} (B:List Nat),(∀a∈A,lt a s=true)→insO lt (A++B) s=A++insO lt B s
 | [],B,_=>rfl
 | a::A,B,h=>by
   rw[List.cons_append,insO,if_pos (h a List.mem_cons_self),insO_app B fun b hb=>h b (List.mem_cons_of_mem _ hb)];rfl
theorem insO_mem{lt:Nat→Nat→Bool}{s z:Nat}:∀{O:List Nat},z∈insO lt O s↔z=s∨z∈O
 | []=>by simp[insO]
 | x::O=>by
   rw[insO];split
   ·rw[List.mem_cons,insO_mem,List.mem_cons];exact⟨fun h=>by rcases h with h|h|h<;>simp[h],fun h=>by rcases h with h|h|h<;>simp[h]⟩
   ·rw[List.mem_cons]
theorem insO_len{lt:Nat→Nat→Bool}{s:Nat}:∀{O:List Nat},(insO lt O s).length=O.length+1
 | []=>rfl
 | x::O=>by
   rw[insO];split
   ·rw[List.length_cons,insO_len,List.length_cons]
   ·rfl
theorem ordO_len(m:Mach):∀k,(ordO m k).length=k
 | 0=>rfl
 | k+1=>by rw[ordO_succ,insO_len,ordO_len m k]
theorem ordO_mem(m:Mach):∀k x,x∈ordO m k↔x<k
 | 0,x=>by simp[ordO]
 | k+1,x=>by rw[ordO_succ,insO_mem,ordO_mem m k];omega
def rk(m:Mach)(s:Nat):Nat:=rank m.ins.toNat (accW m s)
theorem Prp.lt(h:Prp m){x s:Nat}(hx:x<m.rows.length)(hs:s<m.rows.length):ltS m x s=true↔rk m x<rk m s:=by
 have h1:=(h.acc hx).2.ok;have h2:=(h.acc hs).2.ok;unfold ltS;rw[decide_eq_true_eq,cmpL_rank h1 h2];rfl
theorem Prp.inj(h:Prp m){x s:Nat}(hx:x<m.rows.length)(hs:s<m.rows.length)(e:rk m x=rk m s):x=s:=by
 have h1:=(h.acc hx).2;have h2:=(h.acc hs).2;have:=rank_inj h1.ok h2.ok e;have h3:=h1.to;rw[this,h2.to]at h3;omega
theorem Prp.insO(h:Prp m){s:Nat}(hs:s<m.rows.length):∀{O:List Nat},(∀x∈O,x<m.rows.length∧x≠s)→O.Pairwise (fun x y=>rk m x<rk m y)→(insO (ltS m) O s).Pairwise (fun x y=>rk m x<rk m y)
 | [],_,_=>List.pairwise_singleton _ _
 | x::O,hO,hp=>by
   obtain⟨h1,h2⟩:=List.pairwise_cons.1 hp;obtain⟨x1,x2⟩:=hO x List.mem_cons_self;rw[Avl.insO];split
   ·rename_i c;have c:=(h.lt x1 hs).1 c;refine List.pairwise_cons.2 ⟨fun z hz=>?_,h.insO hs (fun y hy=>hO y (List.mem_cons_of_mem _ hy)) h2⟩;rcases insO_mem.1 hz with rfl|hz
    ·exact c
    ·exact h1 z hz
   ·rename_i c;have hlt:rk m s<rk m x:=by
     have c:¬rk m x<rk m s:=fun h'=>c ((h.lt x1 hs).2 h');have:rk m x≠rk m s:=fun e=>x2 (h.inj x1 hs e);omega
    refine List.pairwise_cons.2 ⟨fun z hz=>?_,hp⟩;rcases List.mem_cons.1 hz with rfl|hz
    ·exact hlt
    ·have:=h1 z hz;omega
theorem Prp.ord(h:Prp m):∀k,k≤m.rows.length→(ordO m k).Pairwise fun x y=>rk m x<rk m y
 | 0,_=>List.Pairwise.nil
 | k+1,hk=>by
   rw[ordO_succ];refine h.insO (by omega) (fun x hx=>?_) (h.ord k (by omega));have:=(ordO_mem m k x).1 hx;omega
theorem Prp.rk_zero(h:Prp m):rk m 0=0:=by
 have h1:=(h.acc h.zero).2.least [] (WOk.nil _) rfl;unfold rk;simp only[rank]at h1;omega
theorem fst_step{m:Mach}{k t:Nat}(ha:afterR m 0 (wordAt m.ins k)=(t:Int))(ht:t<m.rows.length):
  ∃b,(fstB m k)[t]?=some b∧(b=true→fstB m (k+1)=fstB m k∧fstW m (k+1)=fstW m k)∧(b=false→(fstB m k).set t true=fstB m (k+1)∧(fstW m k).set t (false,wordAt m.ins k,.unk)=fstW m (k+1)):=by
 refine⟨(fstI m k t).isSome,by simp[fstB,ht],fun hb=>?_,fun hb=>?_⟩
 ·have h:=fst_old ha hb;refine⟨List.map_congr_left fun x _=>by rw[h x],List.map_congr_left fun x _=>by unfold fstR;rw[h x]⟩
 ·obtain⟨h1,h2⟩:=fst_new ha hb;have e1:(fstI m (k+1) t).isSome=true:=by rw[h2];rfl
  have e2:fstR m (k+1) t=(false,wordAt m.ins k,.unk):=by unfold fstR;rw[h2]
  refine⟨?_,?_⟩
  ·rw[←e1];exact map_set_range (g:=fun t=>(fstI m (k+1) t).isSome) fun x hx=>by rw[h1 x hx]
  ·rw[←e2];exact map_set_range (g:=fstR m (k+1)) fun x hx=>by unfold fstR;rw[h1 x hx]
theorem fstB_len(m:Mach)(k:Nat):(fstB m k).length=m.rows.length:=by simp[fstB]
theorem fstW_len(m:Mach)(k:Nat):(fstW m k).length=m.rows.length:=by simp[fstW]
theorem fst_zero(m:Mach):fstB m 0=List.replicate m.rows.length false∧fstW m 0=List.replicate m.rows.length (true,[],.zer):=by
 constructor
 ·rw[fstB,List.eq_replicate_iff];refine⟨by simp,fun b hb=>?_⟩;obtain⟨t,_,rfl⟩:=List.mem_map.1 hb;rfl
 ·rw[fstW,List.eq_replicate_iff];refine⟨by simp,fun b hb=>?_⟩;obtain⟨t,_,rfl⟩:=List.mem_map.1 hb;rfl
set_option maxHeartbeats 4000000 in
theorem paths91_is{m:Mach}(h:Prp m):PureIs prog 91 [.ag m.cells,.sc (.int .i64 0)] (.tu [.sl false ((accL m).map rwC) .full,.sl false ((List.replicate m.rows.length true).map boolC) .full]):=by
 have hv:=h.v;have hrw:=hv.rows;have hins:=hv.ins;obtain⟨hw1,hw2⟩:=h.words;refine PureIs.of1 3 [4,5,6,7,8,9,13,17,24,41] func91 ntmps91 results91 fun _=>?_;refine EvC.a ?_ (by simp only[go_sem,Mach.cells]<;>rfl);refine EvC.z 0 ?_;refine EvC.a ?_ (by simp only[go_sem,Mach.cells]<;>rfl) (by simp[room_eq];omega);refine EvC.a ?_ (by simp only[go_sem,Mach.cells]<;>rfl) (by simp[room_eq];omega);refine EvC.seq ?_;refine EvC.a ?_;refine EvC.block ?_;refine EvC.unkV 8 (by simp only[go_sem]<;>rfl) ?_;refine EvC.loopS (σ:=Nat) (fun k=>⟨[(1,.sc (.int .i64 0)),(2,.ia m.cells),(6,.tv 1 m.rows.length 0 m.rows.length (.val m.rows.length)),(7,.tv 0 m.rows.length 0 m.rows.length (.val m.rows.length)),(8,.sl false ((wordAt m.ins k).map intC) .unk)],[],[(0,.arr 1 ((fstB m k).map boolC) false),(1,.arr 1 ((fstW m k).map rwC) false)],2⟩) (fun k=>kAll m-k) (fun k=>k≤kAll m) [1,2,6,7,8] 2 ?_ ?_
 ·have z:=fst_zero m;have e0:wordAt m.ins 0=[]:=rfl;have e1:boolC false=[.sc (.bool false)]:=rfl;have e2:rwC (true,[],.zer)=[.sl true [] .zer]:=rfl;have n1:(List.replicate m.rows.length [AV.sc (.bool false)]).all AV.norefs=true:=by simp[AV.norefs,AV.noref]
  have n2:(List.replicate m.rows.length [AV.sl true [] .zer]).all AV.norefs=true:=by simp[AV.norefs,AV.noref]
  exact⟨[(11,0),(6,1)],0,rfl,(by rw[z.1,z.2,e0,List.map_replicate,List.map_replicate,e1,e2];simp only[go_sem,Mach.cells,n1,n2]<;>rfl),Nat.zero_le _⟩
 intro k hk;have hwk:=h.word k;have hlk:k<kAll m→(wordAt m.ins k).length<m.rows.length:=hw1 k;obtain⟨t,ht,hat⟩:=h.aft hwk;obtain⟨b,hb,hb1,hb2⟩:=fst_step hat ht;have hnext:nextW m.ins (wordAt m.ins k)=wordAt m.ins (k+1):=rfl;have hBl:((fstB m k).map boolC).length=m.rows.length:=by rw[List.length_map,fstB_len]
 have hWl:((fstW m k).map rwC).length=m.rows.length:=by rw[List.length_map,fstW_len]
 have hBn:=norefs_bool (fstB m k);have hWn:=norefs_rw (fstW m k);refine EvC.seq ?_;refine EvC.a ?_ (by simp only[go_sem,Mach.cells]<;>rfl);refine EvC.cd (fun hc=>?_) (fun hc=>?_);rotate_left
 ·refine EvC.exit ?_;have hkK:k=kAll m:=by
   have hge:¬(wordAt m.ins k).length<m.rows.length:=(by simpa using hc);by_cases hlt:k<kAll m
   ·exact absurd (hlk hlt) hge
   ·omega
  subst hkK;have e1:=h.fstW;have e2:=h.fstB;rw[e1,e2];have nB:=norefs_bool (List.replicate m.rows.length true);have nW:=norefs_rw (accL m);have lW:(accL m).length=m.rows.length:=by simp[accL]
  have lB:(List.replicate m.rows.length true).length=m.rows.length:=List.length_replicate;refine EvC.frz 0 (by simp only[go_sem,lB,nB,nW]<;>rfl) ?_;refine EvC.frz 1 (by simp only[go_sem,lW,nW]<;>rfl) ?_;refine EvC.a ?_;refine EvC.rz ?_;simp only[go_sem]
 have hkl:k<kAll m:=by
  refine Nat.lt_of_not_le fun hle=>?_;obtain rfl:k=kAll m:=by omega
  have:(wordAt m.ins (kAll m)).length<m.rows.length:=by simpa using hc
  omega
 clear hc;have hlen:=hlk hkl;refine EvC.skip ?_;refine EvC.seq ?_;refine EvC.block ?_;refine EvC.k1 ?_ (h1:=by simp only[go_sem,Mach.cells]<;>rfl) (c1:=.ca (after22_is hv (wordAt m.ins k) 0 false .unk (by omega) (fun x hx=>by have:=hwk x hx;omega) (by omega)));rw[hat];have hbg:((fstB m k).map boolC)[t]?=some [.sc (.bool b)]:=by rw[List.getElem?_map,hb];rfl
 have htn:((t:Nat):Int).toNat=t:=Int.toNat_natCast t;have hge:decide ((0:Int)≤(t:Int))=true:=decide_eq_true (by omega);refine EvC.g ?_ (h:=by simp only[go_sem,hbg,htn,hge,hBl]<;>rfl) (hok:=by simp;try omega);obtain⟨w0,hw0⟩:∃w,(fstW m k)[t]?=some w:=⟨_,List.getElem?_eq_getElem (by rw[fstW_len];exact ht)⟩;have hwg:((fstW m k).map rwC)[t]?=some [.sl w0.1 (w0.2.1.map intC) w0.2.2]:=rw_get hw0;have hns:nextW m.ins (wordAt m.ins k)=wordAt m.ins (k+1):=rfl;have hnx:=next98_is false (wordAt m.ins k) .unk m.ins (by omega) fun x hx=>by have:=hwk x hx;omega
 rw[hns]at hnx;cases b with
 | true=>
   obtain⟨f1,f2⟩:=hb1 rfl;refine EvC.cs ?_;refine EvC.k1L ?_ (h1:=by simp only[go_sem,Mach.cells]<;>rfl) (c1:=.ca hnx);exact⟨[(0,0),(1,1)],k+1,rfl,(by rw[f1,f2];simp only[go_sem,Mach.cells,hBn,hWn]<;>rfl),by omega,by omega⟩
 | false=>
   obtain⟨f1,f2⟩:=hb2 rfl;have hBn':=norefs_bool (fstB m (k+1));have hWn':=norefs_rw (fstW m (k+1));have g1:((fstB m k).map boolC).set t [.sc (.bool true)]=(fstB m (k+1)).map boolC:=by rw[←f1,List.map_set];rfl
   have g2:((fstW m k).map rwC).set t [.sl false ((wordAt m.ins k).map intC) .unk]=(fstW m (k+1)).map rwC:=by rw[←f2,List.map_set];rfl
   refine EvC.ct ?_;refine EvC.a ?_ (by simp only[go_sem,hbg,htn,hge,hBl,g1]<;>rfl) (by simp;try omega);refine EvC.b ?_ (by simp only[go_sem,hwg,htn,hge,hWl,g2]<;>rfl) (by simp;try omega);refine EvC.k1L ?_ (h1:=by simp only[go_sem,Mach.cells]<;>rfl) (c1:=.ca hnx);exact⟨[(0,0),(1,1)],k+1,rfl,(by simp only[go_sem,Mach.cells,hBn',hWn']<;>rfl),by omega,by omega⟩
theorem access71_is{m:Mach}(h:Prp m):PureIs prog 71 [.ag m.cells] (.tu [.sl false ((accL m).map rwC) .full,.sl false ((List.replicate m.rows.length true).map boolC) .full]):=by
 refine PureIs.of1 4 [] func71 ntmps71 results71 fun _=>?_;refine EvC.a ?_ (by simp only[go_sem,Mach.cells]<;>rfl);refine EvC.k1 ?_ (h1:=by simp only[go_sem,Mach.cells]<;>rfl) (c1:=.ca (paths91_is h));refine EvC.rz ?_;simp only[go_sem]
end Go.Avl
