/-
  Lemmas.
-/
import Derived.Test.YthfacnlkecjodaaGreatPart9
set_option linter.unusedSimpArgs false
set_option linter.unusedVariables false
set_option linter.unnecessarySimpa false
set_option linter.deprecated false
namespace Go.Avl
open Go Go.Proofs.Tryz
set_option maxRecDepth 10000
theorem norefs_nat(l:List Nat):(l.map natC).all AV.norefs=true:=by simp[List.all_eq_true,natC,AV.norefs,AV.noref]
theorem insO_at{lt:Nat→Nat→Bool}{O:List Nat}{s k:Nat}(hk:k≤O.length)(h:∀a∈O.take k,lt a s=true)(hn:∀x,O[k]?=some x→lt x s=false):insO lt O s=O.take k++s::O.drop k:=by
 have:=insO_app (lt:=lt) (s:=s) (A:=O.take k) (O.drop k) h;rw[List.take_append_drop]at this;rw[this];congr 1;by_cases hl:k<O.length
 ·have hd:O.drop k=O[k]::O.drop (k+1):=List.drop_eq_getElem_cons hl;rw[hd,insO,if_neg (by rw[hn _ (List.getElem?_eq_getElem hl)];exact Bool.false_ne_true)]
 ·rw[List.drop_eq_nil_of_le (by omega)];rfl
set_option maxHeartbeats 4000000 in
theorem order39_is{m:Mach}(h:Prp m):PureIs prog 39 [.ag m.cells] (.sl false ((ordO m m.rows.length).map natC) .unk):=by
 have hv:=h.v;have hrw:=hv.rows;have hins:=hv.ins;have lW:((accL m).map rwC).length=m.rows.length:=by simp[accL]
 refine PureIs.of1 9 [17,24,43] func39 ntmps39 results39 fun _=>?_;refine EvC.a ?_ (by simp only[go_sem,Mach.cells]<;>rfl);refine EvC.z 0 ?_;refine EvC.k1 ?_ (h1:=by simp only[go_sem,Mach.cells]<;>rfl) (c1:=.ca (access71_is h));refine EvC.a ?_;refine EvC.frz 9 (by simp only[go_sem]<;>rfl) ?_;refine EvC.unkV 5 (by simp only[go_sem]<;>rfl) ?_;refine EvC.seq ?_;refine EvC.a ?_;refine EvC.block ?_;refine EvC.loopS (σ:=Nat) (fun s=>⟨[(3,.sl false ((accL m).map rwC) .full),(4,.sl false ((List.replicate m.rows.length true).map boolC) .full),(5,.sl (decide (s=0)) ((ordO m s).map natC) .unk),(6,.sc (.int .i64 s))],[],[],0⟩) (fun s=>m.rows.length-s) (fun s=>s≤m.rows.length) [3,4,5,6] 0 ?_ ?_
 ·exact⟨[],0,rfl,(by simp only[go_sem,ordO,Int.natCast_zero]<;>rfl),Nat.zero_le _⟩
 intro s hs;refine EvC.seq ?_;refine EvC.a ?_ (by simp only[go_sem,lW]<;>rfl);refine EvC.cd (fun hc=>?_) (fun hc=>?_);rotate_left
 ·refine EvC.exit ?_;obtain rfl:s=m.rows.length:=by have:¬s<m.rows.length:=(by simpa using hc);omega
  have hd:decide (m.rows.length=0)=false:=decide_eq_false (by omega);rw[hd];refine EvC.a ?_;refine EvC.rz ?_;simp only[go_sem]
 have hsl:s<m.rows.length:=by simpa using hc
 clear hc;have hss:=ordO_succ m s;have hOl:=ordO_len m s;have hOm:=ordO_mem m s;generalize ordO m s=O at hss hOl hOm;have hst:((s:Nat):Int).toNat=s:=Int.toNat_natCast s;have hbg:((List.replicate m.rows.length true).map boolC)[s]?=some [.sc (.bool true)]:=by rw[List.getElem?_map,List.getElem?_replicate,if_pos hsl];rfl
 have hbl:((List.replicate m.rows.length true).map boolC).length=m.rows.length:=by simp
 have hwg:∀x,x<m.rows.length→((accL m).map rwC)[x]?=some [.sl false ((accW m x).map intC) .unk]:=fun x hx=>rw_get (w:=(false,accW m x,.unk)) (by simp[accL,hx]);have hal:∀x,x<m.rows.length→(accW m x).length<1000000:=fun x hx=>by have:=(h.acc hx).2.len;omega
 have hsg:=hwg s hsl;refine EvC.skip ?_;refine EvC.seq ?_;refine EvC.block ?_;refine EvC.seq ?_;refine EvC.a ?_ (by simp only[go_sem,hbg,hst,hbl]<;>rfl) (by simp;try omega);refine EvC.cs ?_;refine EvC.a ?_;refine EvC.seq ?_;refine EvC.block ?_;have hOc:(O.map natC).length=s:=by rw[List.length_map,hOl]
 refine EvC.loopS (σ:=Nat) (fun k=>⟨[(3,.sl false ((accL m).map rwC) .full),(4,.sl false ((List.replicate m.rows.length true).map boolC) .full),(5,.sl (decide (s=0)) (O.map natC) .unk),(6,.sc (.int .i64 s)),(7,.sc (.int .i64 k))],[],[],0⟩) (fun k=>s-k) (fun k=>k≤s∧∀a∈O.take k,ltS m a s=true) [3,4,5,6,7] 0 ?_ ?_
 ·exact⟨[],0,rfl,(by simp only[go_sem,Int.natCast_zero]<;>rfl),Nat.zero_le _,by simp⟩
 rintro k ⟨hk,hka⟩;refine EvC.seq ?_;have hkt:((k:Nat):Int).toNat=k:=Int.toNat_natCast k;have hE:∀x:List AV,x∈O.map natC→x.length=1∧AV.norefs x=true:=fun x hx=>by
  obtain⟨y,_,rfl⟩:=List.mem_map.1 hx;exact⟨rfl,rfl⟩
 have hT1:∀x,x∈List.take k (O.map natC)→x.length=1:=fun x hx=>(hE x (List.mem_of_mem_take hx)).1;have hT2:∀x,x∈List.take k (O.map natC)→AV.norefs x=true:=fun x hx=>(hE x (List.mem_of_mem_take hx)).2;have hD1:∀x,x∈List.drop k (O.map natC)→x.length=1:=fun x hx=>(hE x (List.mem_of_mem_drop hx)).1;have hD2:∀x,x∈List.drop k (O.map natC)→AV.norefs x=true:=fun x hx=>(hE x (List.mem_of_mem_drop hx)).2;have hSl:((ordO m (s+1)).map natC).length=s+1:=by rw[List.length_map,ordO_len]
 have hcn:=norefs_nat (ordO m (s+1));have hd1:decide (s+1=0)=false:=rfl;have hcl:(List.take k (O.map natC)).length+1+(List.drop k (O.map natC)).length=s+1:=by rw[List.length_take,List.length_drop,hOc];omega
 have hcatO:insO (ltS m) O s=O.take k++s::O.drop k→List.take k (O.map natC)++[[AV.sc (.int .i64 (s:Int))]]++List.drop k (O.map natC)=(ordO m (s+1)).map natC:=fun e=>by
  rw[hss,e,List.map_append,List.map_cons,List.map_take,List.map_drop,List.append_assoc];rfl
 by_cases hkl:k<s;rotate_left
 ·obtain rfl:k=s:=by omega
  have hnone:O[k]?=none:=List.getElem?_eq_none (by omega);have d0:decide ((k:Int)<(k:Int))=false:=decide_eq_false (by omega);have hg0:=hwg 0 (by omega);apply EvC.seq;apply EvC.drw mixed
  ·apply Tr.run
   ·simp only[go_sem,hnone,hg0,hsg,hst,hOc,hOl,d0,lW]<;>rfl
   ·simp;try omega
   apply Tr.cons
   ·exact .skipv (.ia [.sc (.int .i64 0)]) rfl rfl (by simp only[go_sem]<;>rfl) (by simp only[go_sem]<;>rfl)
   apply Tr.run
   ·simp only[go_sem,hnone,hg0,hsg,hst,hOc,hOl,d0,lW]<;>rfl
   ·simp;try omega
   apply Tr.cons
   ·exact .skipv (.sc (.int .i64 0)) rfl rfl (by simp only[go_sem]<;>rfl) (by simp only[go_sem]<;>rfl)
   apply Tr.done
   ·simp only[go_sem,hnone,hg0,hsg,hst,hOc,hOl,d0,lW]<;>rfl
   ·simp
  ·kernel_rfl
  refine EvC.cf ?_;refine EvC.exit ?_;have htk:O.take k=O:=List.take_of_length_le (by omega);rw[htk]at hka;have hcat:=hcatO (insO_at (by omega) (by rw[htk];exact hka) fun x hx=>by rw[hnone]at hx;cases hx);refine EvC.a ?_;refine EvC.a ?_ (hok:=by simp[room_eq];exact⟨⟨fun x _=>rfl,by omega⟩,⟨by omega,hT1⟩,hT2⟩);refine EvC.a ?_ (hok:=by simp[room_eq];omega);refine EvC.b ?_ (hok:=by simp[room_eq];exact⟨⟨fun x _=>rfl,by omega⟩,⟨by omega,hD1⟩,hD2⟩);refine EvC.frz 19 (by simp only[go_sem,hcat,hcl,hcn,hSl]<;>rfl) ?_;refine EvC.bi ?_;exact⟨[],k+1,rfl,(by simp only[go_sem,hd1,Int.natCast_add,Int.natCast_one]<;>rfl),hsl,by omega⟩
 have hgO:O[k]?=some (O[k]'(by omega)):=List.getElem?_eq_getElem (by omega);have hxn:=(hOm _).1 (List.getElem_mem (show k<O.length by omega));have htk1:O.take (k+1)=O.take k++[O[k]'(by omega)]:=List.take_succ_eq_append_getElem (by omega);generalize hxe:O[k]'(by omega)=x at hgO hxn htk1;have hgx:=hwg x (by omega);have hxt:((x:Nat):Int).toNat=x:=Int.toNat_natCast x;have d1:decide ((k:Int)<(s:Int))=true:=decide_eq_true (by omega);refine EvC.k1D mixed ?_ (h1:=by simp only[go_sem,hgO,natC,hgx,hsg,hxt,hst,hkt,hOc,hOl,d1,lW]<;>rfl) (k1:=by simp;try omega) (c1:=.cg (less72_is false false (accW m x) (accW m s) .unk .unk (hal x (by omega)))) (h2:=by simp only[go_sem,hgO,natC,hgx,hsg,hxt,hst,hkt,hOc,hOl,d1,lW]<;>rfl);by_cases hlt:cmpL (accW m x) (accW m s)<0
 ·rw[if_pos hlt];refine EvC.cr ?_;refine EvC.block ?_;refine EvC.bi ?_;exact⟨[],k+1,rfl,(by simp only[go_sem,Int.natCast_add,Int.natCast_one]<;>rfl),⟨hkl,fun a ha=>by
   rw[htk1]at ha;rcases List.mem_append.1 ha with ha|ha
   ·exact hka a ha
   ·rw[List.mem_singleton.1 ha];exact decide_eq_true hlt⟩,by omega⟩
 ·rw[if_neg hlt];refine EvC.cf ?_;refine EvC.exit ?_;have hcat:=hcatO (insO_at (by omega) hka fun y hy=>by
   rw[hgO]at hy;obtain rfl:=Option.some.inj hy;exact decide_eq_false hlt)
  refine EvC.a ?_;refine EvC.a ?_ (hok:=by simp[room_eq];exact⟨⟨fun x _=>rfl,by omega⟩,⟨by omega,hT1⟩,hT2⟩);refine EvC.a ?_ (hok:=by simp[room_eq];omega);refine EvC.b ?_ (hok:=by simp[room_eq];exact⟨⟨fun x _=>rfl,by omega⟩,⟨by omega,hD1⟩,hD2⟩);refine EvC.frz 19 (by simp only[go_sem,hcat,hcl,hcn,hSl]<;>rfl) ?_;refine EvC.bi ?_;exact⟨[],s+1,rfl,(by simp only[go_sem,hd1,Int.natCast_add,Int.natCast_one]<;>rfl),hsl,by omega⟩
theorem Prp.edge{m:Mach}(h:Prp m){s i:Nat}(hs:s<m.rows.length)(hi:i<m.ins.toNat):
  ∃(r:Row) (t:Nat) (o:Int),m.rows[s]?=some r∧r.2[i]?=some ((t:Int),o)∧ex (rowN m s) i=((t:Int),o)∧t<m.rows.length∧r.2.length=m.ins.toNat∧0≤o∧o<m.outs:=by
 have hin:=h.v.ins;obtain⟨t,ht,e⟩:=h.tot s i hs (by omega);have h1:m.rows[s]?=some m.rows[s]:=List.getElem?_eq_getElem hs;have hl:(m.rows[s]).2.length=m.ins.toNat:=by have:=row_len h.v hs;simp only[rowN,h1,Option.map_some,Option.getD_some]at this;exact this
 have h2:(m.rows[s]).2[i]?=some (m.rows[s]).2[i]:=List.getElem?_eq_getElem (by omega);have h3:ex (rowN m s) i=(m.rows[s]).2[i]:=by simp only[ex,rowN,h1,Option.map_some,Option.getD_some,h2]
 have h4:=exr_fits h.v hs hi;rw[h3]at e h4;refine⟨m.rows[s],t,((m.rows[s]).2[i]).2,h1,?_,?_,ht,hl,by omega,by omega⟩
 ·rw[h2,←e]
 ·rw[h3,←e]
structure RchI (m:Mach) (s i:Nat) (B:List Bool):Prop where
 len:B.length=m.rows.length
 at':∀t,t<m.rows.length→(t=0∨∃s' i':Nat,s'<t∧(i':Int)<m.ins∧(ex (rowN m s') i').1=(t:Int)∧(s'<s∨(s'=s∧i'<i)))→B[t]?=some true
theorem RchI.row{m:Mach}{s:Nat}{B:List Bool}(h:RchI m s m.ins.toNat B):RchI m (s+1) 0 B:=
 ⟨h.len,fun t ht hp=>h.at' t ht (by
  rcases hp with hp|⟨s',i',p1,p2,p3,p4⟩
  ·exact .inl hp
  ·exact .inr ⟨s',i',p1,p2,p3,by omega⟩)⟩
theorem RchI.self{m:Mach}(h:Prp m){s i:Nat}(hs:s<m.rows.length){B:List Bool}(hB:RchI m s i B):B[s]?=some true:=by
 refine hB.at' s hs ?_;by_cases h0:s=0
 ·exact .inl h0
 ·obtain⟨s',i',p1,p2,p3⟩:=h.pre s (by omega) hs;exact .inr ⟨s',i',p1,p2,p3,.inl p1⟩
theorem RchI.all{m:Mach}(h:Prp m){B:List Bool}(hB:RchI m m.rows.length 0 B):B=List.replicate m.rows.length true:=by
 rw[List.eq_replicate_iff];refine⟨hB.len,fun b hb=>?_⟩;obtain⟨t,ht,rfl⟩:=List.mem_iff_getElem.1 hb;have hl:=hB.len;have h1:B[t]?=some true:=hB.at' t (by omega) (by
  by_cases h0:t=0
  ·exact .inl h0
  ·obtain⟨s',i',p1,p2,p3⟩:=h.pre t (by omega) (by omega);exact .inr ⟨s',i',p1,p2,p3,.inl (by omega)⟩)
 rw[List.getElem?_eq_getElem ht]at h1;exact Option.some.inj h1
theorem RchI.set{m:Mach}{s i t:Nat}{B:List Bool}(hB:RchI m s i B)(e:(ex (rowN m s) i).1=(t:Int))(ht:t<m.rows.length):RchI m s (i+1) (B.set t true):=by
 refine⟨by rw[List.length_set,hB.len],fun u hu hp=>?_⟩;rw[List.getElem?_set];by_cases h1:t=u
 ·rw[if_pos h1,if_pos (by rw[hB.len];exact ht)]
 ·rw[if_neg h1];refine hB.at' u hu ?_;rcases hp with hp|⟨s',i',p1,p2,p3,p4⟩
  ·exact .inl hp
  ·refine .inr ⟨s',i',p1,p2,p3,?_⟩;rcases p4 with p4|⟨p4,p5⟩
   ·exact .inl p4
   ·by_cases hi:i'=i
    ·subst p4 hi;rw[e]at p3;omega
    ·exact .inr ⟨p4,by omega⟩
theorem RchI.start{m:Mach}{B:List Bool}(hl:B.length=m.rows.length)(h0:B[0]?=some true):RchI m 0 0 B:=⟨hl,fun t _ hp=>by
 rcases hp with rfl|⟨s',i',p1,p2,p3,p4⟩
 ·exact h0
 ·omega⟩
set_option maxHeartbeats 4000000 in
theorem reached80_is{m:Mach}(h:Prp m):PureIs prog 80 [.ag m.cells,.sc (.int .i64 0)] (.sl false ((List.replicate m.rows.length true).map boolC) .full):=by
 have hv:=h.v;have hrw:=hv.rows;have hins:=hv.ins;refine PureIs.of1 3 [4,5,6,7,8,9,13,21,28,34,53] func80 ntmps80 results80 fun _=>?_;refine EvC.a ?_ (by simp only[go_sem,Mach.cells]<;>rfl);refine EvC.z 0 ?_;refine EvC.a ?_ (by simp only[go_sem,Mach.cells]<;>rfl) (by simp[room_eq];omega);have hr0:(List.replicate m.rows.length [AV.sc (.bool false)])[0]?=some [.sc (.bool false)]:=by rw[List.getElem?_replicate,if_pos (by omega)]
 refine EvC.a ?_ (by simp only[go_sem,hr0]<;>rfl) (by simp;omega);refine EvC.seq ?_;refine EvC.a ?_;refine EvC.block ?_;refine EvC.loopS (σ:=Nat×List Bool) (fun g=>⟨[(2,.ia m.cells),(5,.tv 0 m.rows.length 0 m.rows.length (.val m.rows.length)),(6,.sc (.int .i64 g.1))],[],[(0,.arr 1 (g.2.map boolC) false)],1⟩) (fun g=>m.rows.length-g.1)
  (fun g=>g.1≤m.rows.length∧g.2.length=m.rows.length∧g.2[0]?=some true∧(1≤g.1→g.2=List.replicate m.rows.length true)) [2,5,6] 1 ?_ ?_
 ·have e0:(List.replicate m.rows.length [AV.sc (.bool false)]).set 0 [.sc (.bool true)]=((List.replicate m.rows.length false).set 0 true).map boolC:=by rw[List.map_set,List.map_replicate];rfl
  have n0:=norefs_bool ((List.replicate m.rows.length false).set 0 true);refine⟨[(5,0)],(0,(List.replicate m.rows.length false).set 0 true),rfl,(by rw[e0];simp only[go_sem,Mach.cells,n0]<;>rfl),Nat.zero_le _,by simp,?_,fun h=>by cases h⟩;rw[List.getElem?_set,if_pos rfl,if_pos (by simp;omega)]
 rintro⟨k,B⟩ ⟨hk,hB1,hB2,hB3⟩;simp only at hk hB1 hB2 hB3;have hBn:=norefs_bool B;refine EvC.seq ?_;refine EvC.a ?_ (by simp only[go_sem,Mach.cells]<;>rfl);refine EvC.cd (fun hc=>?_) (fun hc=>?_);rotate_left
 ·refine EvC.exit ?_;have hkn:k=m.rows.length:=by have:¬k<m.rows.length:=(by simpa using hc);omega
  have hBe:=hB3 (by omega);refine EvC.frz 0 (by simp only[go_sem,hB1,hBn]<;>rfl) ?_;refine EvC.a ?_;refine EvC.rz ?_;simp only[go_sem];rw[hBe]
 have hkl:k<m.rows.length:=by simpa using hc
 clear hc hB3;refine EvC.skip ?_;refine EvC.seq ?_;refine EvC.block ?_;refine EvC.a ?_;refine EvC.block ?_;refine EvC.loopS (σ:=Nat×List Bool) (fun g=>⟨[(2,.ia m.cells),(5,.tv 0 m.rows.length 0 m.rows.length (.val m.rows.length)),(6,.sc (.int .i64 k)),(7,.sc (.int .i64 g.1))],[],[(0,.arr 1 (g.2.map boolC) false)],1⟩) (fun g=>m.rows.length-g.1)
  (fun g=>g.1≤m.rows.length∧RchI m g.1 0 g.2) [2,5,6,7] 1 ?_ ?_
 ·exact⟨[(0,0)],(0,B),rfl,(by simp only[go_sem,Mach.cells,hBn]<;>rfl),Nat.zero_le _,RchI.start hB1 hB2⟩
 clear hB1 hB2 hBn;rintro⟨s,B⟩ ⟨hs,hB⟩;simp only at hs hB;have hBn:=norefs_bool B;refine EvC.seq ?_;refine EvC.a ?_ (by simp only[go_sem,Mach.cells]<;>rfl);refine EvC.cd (fun hc=>?_) (fun hc=>?_);rotate_left
 ·refine EvC.exit ?_;have hsn:s=m.rows.length:=by have:¬s<m.rows.length:=(by simpa using hc);omega
  rw[hsn]at hB;have hBa:=hB.all h;refine EvC.bi ?_;exact⟨[(0,0)],(k+1,B),rfl,(by simp only[go_sem,Mach.cells,hBn,Int.natCast_add,Int.natCast_one]<;>rfl),⟨hkl,hB.len,by rw[hBa,List.getElem?_replicate,if_pos (by omega)],fun _=>hBa⟩,by simp only;omega⟩
 have hsl:s<m.rows.length:=by simpa using hc
 clear hc;refine EvC.skip ?_;refine EvC.seq ?_;refine EvC.block ?_;refine EvC.a ?_;refine EvC.block ?_;refine EvC.loopS (σ:=Nat×List Bool) (fun g=>⟨[(2,.ia m.cells),(5,.tv 0 m.rows.length 0 m.rows.length (.val m.rows.length)),(6,.sc (.int .i64 k)),(7,.sc (.int .i64 s)),(8,.sc (.int .i64 g.1))],[],[(0,.arr 1 (g.2.map boolC) false)],1⟩) (fun g=>m.ins.toNat-g.1)
  (fun g=>g.1≤m.ins.toNat∧RchI m s g.1 g.2) [2,5,6,7,8] 1 ?_ ?_
 ·exact⟨[(0,0)],(0,B),rfl,(by simp only[go_sem,Mach.cells,hBn]<;>rfl),Nat.zero_le _,hB⟩
 clear hBn hB;rintro⟨i,B⟩ ⟨hi,hB⟩;simp only at hi hB;have hBn:=norefs_bool B;refine EvC.seq ?_;refine EvC.a ?_ (by simp only[go_sem,Mach.cells]<;>rfl);refine EvC.cd (fun hc=>?_) (fun hc=>?_);rotate_left
 ·refine EvC.exit ?_;have hin:i=m.ins.toNat:=by have:¬(i:Int)<m.ins:=(by simpa using hc);omega
  rw[hin]at hB;refine EvC.bi ?_;exact⟨[(0,0)],(s+1,B),rfl,(by simp only[go_sem,Mach.cells,hBn,Int.natCast_add,Int.natCast_one]<;>rfl),⟨hsl,hB.row⟩,by simp only;omega⟩
 have hil:(i:Int)<m.ins:=by simpa using hc
 clear hc;obtain⟨r,t,o,hr,he,hx,ht,hrl,_⟩:=h.edge hsl (i:=i) (by omega);have hself:=hB.self h hsl;have hst:((s:Nat):Int).toNat=s:=Int.toNat_natCast s;have hit:((i:Nat):Int).toNat=i:=Int.toNat_natCast i;have htt:((t:Nat):Int).toNat=t:=Int.toNat_natCast t;have hBl:(B.map boolC).length=m.rows.length:=by rw[List.length_map,hB.len]
 have hsg:(B.map boolC)[s]?=some [.sc (.bool true)]:=by rw[List.getElem?_map,hself];rfl
 have htg:∃b,(B.map boolC)[t]?=some [.sc (.bool b)]:=⟨B[t]'(by rw[hB.len];exact ht),by rw[List.getElem?_map,List.getElem?_eq_getElem (by rw[hB.len];exact ht)];rfl⟩;obtain⟨b,htg⟩:=htg;have hsB:=hB.set (by rw[hx]) ht;have hset:(B.map boolC).set t [.sc (.bool true)]=(B.set t true).map boolC:=by rw[List.map_set];rfl
 have hSn:=norefs_bool (B.set t true);have d1:decide ((0:Int)≤(t:Int))=true:=decide_eq_true (by omega);refine EvC.skip ?_;refine EvC.seq ?_;refine EvC.block ?_;refine EvC.a ?_ (by simp only[go_sem,Mach.cells,hr,rowC,he,edgeC,hst,hit,hrl]<;>rfl) (by simp;try omega);refine EvC.g ?_ (h:=by simp only[go_sem,hsg,hst,hBl,d1]<;>rfl) (hok:=by simp;try omega);refine EvC.ct ?_;refine EvC.b ?_ (by simp only[go_sem,htg,htt,hBl,hset]<;>rfl) (by simp;try omega);refine EvC.bi ?_;exact⟨[(0,0)],(i+1,B.set t true),rfl,(by simp only[go_sem,Mach.cells,hSn,Int.natCast_add,Int.natCast_one]<;>rfl),⟨by simp only;omega,hsB⟩,by simp only;omega⟩
def oA(O:List Nat)(j:Nat):Nat:=(O[j]?).getD 0
def pC(p:List Int)(s:Nat):Int:=(p[s]?).getD 0
def dupB(p:List Int)(O:List Nat)(k n:Nat):Bool:=(List.range n).any fun j=>decide (pC p (oA O j)=pC p (oA O k))
def firL(p:List Int)(O:List Nat)(k:Nat):List Nat:=((List.range k).filter fun j=>!dupB p O j j).map (oA O)
theorem dupB_succ(p:List Int)(O:List Nat)(k n:Nat):dupB p O k (n+1)=(dupB p O k n||decide (pC p (oA O n)=pC p (oA O k))):=by
 simp[dupB,List.range_succ]
theorem firL_succ(p:List Int)(O:List Nat)(k:Nat):firL p O (k+1)=if dupB p O k k=true then firL p O k else firL p O k++[oA O k]:=by
 unfold firL;rw[List.range_succ,List.filter_append,List.filter_cons,List.filter_nil];cases dupB p O k k<;>simp
theorem firL_len(p:List Int)(O:List Nat):∀k,(firL p O k).length≤k∧(1≤k→1≤(firL p O k).length)
 | 0=>⟨Nat.le_refl _,fun h=>by cases h⟩
 | k+1=>by
   obtain⟨h1,h2⟩:=firL_len p O k;rw[firL_succ];split
   ·rename_i c;refine⟨by omega,fun _=>h2 ?_⟩;rcases k with _|k
    ·simp[dupB]at c
    ·omega
   ·simp;omega
theorem firL_mem{p:List Int}{O:List Nat}{k x:Nat}(hk:k≤O.length)(h:x∈firL p O k):x∈O:=by
 obtain⟨j,hj,rfl⟩:=List.mem_map.1 h;have hj:=List.mem_range.1 (List.mem_filter.1 hj).1;unfold oA;rw[List.getElem?_eq_getElem (by omega)];exact List.getElem_mem _
def firstsL(m:Mach):List Nat:=firL (classL m) (ordO m m.rows.length) m.rows.length
theorem nat_at{O:List Nat}{j:Nat}(h:j<O.length):(O.map natC)[j]?=some [.sc (.int .i64 (oA O j:Nat))]:=by
 unfold oA;rw[List.getElem?_map,List.getElem?_eq_getElem h];rfl
theorem int_at{p:List Int}{s:Nat}(h:s<p.length):(p.map intC)[s]?=some [.sc (.int .i64 (pC p s))]:=by
 unfold pC;rw[List.getElem?_map,List.getElem?_eq_getElem h];rfl
set_option maxHeartbeats 4000000 in
theorem firsts47_is{m:Mach}(h:Prp m):PureIs prog 47 [.ag m.cells] (.sl false ((firstsL m).map natC) .unk):=by
 have hv:=h.v;have hrw:=hv.rows;have hOl:=ordO_len m m.rows.length;have hOm:=fun x=>(ordO_mem m m.rows.length x).1;have hpl:=classL_len m;have hcl:=classes_is hv;have hor:=order39_is h;unfold firstsL;generalize ordO m m.rows.length=O at hOl hOm hor;generalize classL m=p at hpl hcl;have hOc:(O.map natC).length=m.rows.length:=by rw[List.length_map,hOl]
 have hpc:(p.map intC).length=m.rows.length:=by rw[List.length_map,hpl]
 have hoA:∀j,j<m.rows.length→oA O j<m.rows.length:=fun j hj=>hOm _ (by
  unfold oA;rw[List.getElem?_eq_getElem (by omega)];exact List.getElem_mem _)
 refine PureIs.of1 9 [16,21,38,40] func47 ntmps47 results47 fun _=>?_;refine EvC.a ?_ (by simp only[go_sem,Mach.cells]<;>rfl);refine EvC.z 0 ?_;refine EvC.k1 ?_ (h1:=by simp only[go_sem,Mach.cells]<;>rfl) (c1:=.ca hcl);refine EvC.k1 ?_ (h1:=by simp only[go_sem,Mach.cells]<;>rfl) (c1:=.ca hor);refine EvC.a ?_;refine EvC.seq ?_;refine EvC.a ?_;refine EvC.block ?_;refine EvC.loopS (σ:=Nat) (fun k=>⟨[(3,.sl false (p.map intC) .unk),(4,.sl false (O.map natC) .unk),(5,.tl 0 (firL p O k).length (decide ((firL p O k).length=0))),(6,.sc (.int .i64 k))],[],[(0,.arr 1 ((firL p O k).map natC) true)],1⟩) (fun k=>m.rows.length-k) (fun k=>k≤m.rows.length) [3,4,5,6] 1 ?_ ?_
 ·have hz:firL p O 0=[]:=rfl;exact⟨[(8,0)],0,rfl,(by rw[hz];simp only[go_sem,List.length_nil,List.map_nil,Int.natCast_zero]<;>rfl),Nat.zero_le _⟩
 intro k hk;have hFl:=firL_len p O k;have hFs:=firL_succ p O k;have hFn:=norefs_nat (firL p O k);have hFc:((firL p O k).map natC).length=(firL p O k).length:=List.length_map _;refine EvC.seq ?_;refine EvC.a ?_ (by simp only[go_sem,hOc,hOl]<;>rfl);refine EvC.cd (fun hc=>?_) (fun hc=>?_);rotate_left
 ·refine EvC.exit ?_;obtain rfl:k=m.rows.length:=by have:¬k<m.rows.length:=(by simpa using hc);omega
  have hd:decide ((firL p O m.rows.length).length=0)=false:=decide_eq_false (by have:=hFl.2 (by omega);omega);rw[hd];refine EvC.frz 0 (by simp only[go_sem,hFc,hFn]<;>rfl) ?_;refine EvC.a ?_;refine EvC.rz ?_;simp only[go_sem]
 have hkl:k<m.rows.length:=by simpa using hc
 clear hc;have hkt:((k:Nat):Int).toNat=k:=Int.toNat_natCast k;have hgk:=nat_at (O:=O) (j:=k) (by omega);have hok:=hoA k hkl;have hpk:=int_at (p:=p) (s:=oA O k) (by omega);have hxt:((oA O k:Nat):Int).toNat=oA O k:=Int.toNat_natCast _;obtain⟨F,hF⟩:∃F,F=firL p O k:=⟨_,rfl⟩;rw[←hF]at hFl hFs hFn hFc⊢;generalize hem:decide (F.length=0)=em;refine EvC.skip ?_;refine EvC.seq ?_;refine EvC.block ?_;refine EvC.a ?_;refine EvC.seq ?_;refine EvC.a ?_;refine EvC.block ?_;refine EvC.loopS (σ:=Nat) (fun n=>⟨[(3,.sl false (p.map intC) .unk),(4,.sl false (O.map natC) .unk),(5,.tl 0 F.length em),(6,.sc (.int .i64 k)),(7,.sc (.int .i64 (if dupB p O k n=true then 1 else 0))),(8,.sc (.int .i64 n))],[],[(0,.arr 1 (F.map natC) true)],1⟩) (fun n=>k-n) (fun n=>n≤k) [3,4,5,6,7,8] 1 ?_ ?_
 ·have hz:dupB p O k 0=false:=rfl;exact⟨[(0,0)],0,rfl,(by rw[hz,if_neg Bool.false_ne_true];simp only[go_sem,hFn,Int.natCast_zero]<;>rfl),Nat.zero_le _⟩
 intro n hn;have hds:=dupB_succ p O k n;refine EvC.seq ?_;refine EvC.a ?_;refine EvC.cd (fun hc=>?_) (fun hc=>?_);rotate_left
 ·refine EvC.exit ?_;obtain rfl:n=k:=by have:¬n<k:=(by simpa using hc);omega
  cases hdk:dupB p O n n with
  | true=>
    rw[hdk,if_pos rfl]at hFs;rw[if_pos rfl];refine EvC.a ?_;refine EvC.cs ?_;refine EvC.bi ?_;exact⟨[(0,0)],n+1,rfl,(by rw[hFs,hem];simp only[go_sem,hFn,Int.natCast_add,Int.natCast_one]<;>rfl),hkl,by omega⟩
  | false=>
    rw[hdk,if_neg Bool.false_ne_true]at hFs;rw[if_neg Bool.false_ne_true];have hm:F.map natC++[[.sc (.int .i64 (oA O n:Nat))]]=(firL p O (n+1)).map natC:=by rw[hFs,List.map_append];rfl
    have hle:(firL p O (n+1)).length=F.length+1:=by rw[hFs];simp
    have he:decide ((firL p O (n+1)).length=0)=false:=by rw[hle];simp
    have hSn:=norefs_nat (firL p O (n+1));have hSc:((firL p O (n+1)).map natC).length=(firL p O (n+1)).length:=List.length_map _;refine EvC.a ?_;refine EvC.ct ?_;refine EvC.b ?_ (by simp only[go_sem,hgk,hkt,hOc,hOl,hFc,hFn,hm]<;>rfl) (by simp[room_eq,hFc];try omega);refine EvC.bi ?_;exact⟨[(0,0)],n+1,rfl,(by rw[he,hle];simp only[go_sem,hSn,hSc,Int.natCast_add,Int.natCast_one]<;>rfl),hkl,by omega⟩
 have hnk:n<k:=by simpa using hc
 clear hc;have hnt:((n:Nat):Int).toNat=n:=Int.toNat_natCast n;have hgn:=nat_at (O:=O) (j:=n) (by omega);have hon:=hoA n (by omega);have hpn:=int_at (p:=p) (s:=oA O n) (by omega);have hyt:((oA O n:Nat):Int).toNat=oA O n:=Int.toNat_natCast _;refine EvC.skip ?_;refine EvC.seq ?_;refine EvC.block ?_;refine EvC.d mixed ?_ (h:=by simp only[go_sem,hgk,hgn,hpk,hpn,hkt,hnt,hxt,hyt,hOc,hOl,hpc,hpl]<;>rfl) (hok:=by simp;try omega);by_cases he:pC p (oA O n)=pC p (oA O k)
 ·have d1:decide (pC p (oA O n)=pC p (oA O k))=true:=decide_eq_true he;rw[d1,Bool.or_true]at hds;refine EvC.ct ?_ (by simp only[go_sem,d1]<;>rfl);refine EvC.b ?_;refine EvC.bi ?_;exact⟨[(0,0)],n+1,rfl,(by rw[hds,if_pos rfl];simp only[go_sem,hFn,Int.natCast_add,Int.natCast_one]<;>rfl),hnk,by omega⟩
 ·have d1:decide (pC p (oA O n)=pC p (oA O k))=false:=decide_eq_false he;rw[d1,Bool.or_false]at hds;refine EvC.cs ?_ (by simp only[go_sem,d1]<;>rfl);refine EvC.bi ?_;exact⟨[(0,0)],n+1,rfl,(by rw[hds];simp only[go_sem,hFn,Int.natCast_add,Int.natCast_one]<;>rfl),hnk,by omega⟩
def lastP(p:List Int)(F:List Nat)(s:Nat):Nat→Int
 | 0=> -1
 | n+1=>if pC p (oA F n)=pC p s then(n:Int)else lastP p F s n
def mapTo(m:Mach)(s:Nat):List Int:=(List.range s).map fun x=>lastP (classL m) (firstsL m) x (firstsL m).length
set_option maxHeartbeats 4000000 in
theorem map48_is{m:Mach}(h:Prp m):PureIs prog 48 [.ag m.cells] (.sl false ((mapTo m m.rows.length).map intC) .unk):=by
 have hv:=h.v;have hrw:=hv.rows;have hpl:=classL_len m;have hcl:=classes_is hv;have hfi:=firsts47_is h;have hre:=reached80_is h;have hFl:=firL_len (classL m) (ordO m m.rows.length) m.rows.length;have hFm:∀x∈firstsL m,x<m.rows.length:=fun x hx=>(ordO_mem m m.rows.length x).1 (firL_mem (by rw[ordO_len];exact Nat.le_refl _) hx);rw[show firL (classL m) (ordO m m.rows.length) m.rows.length=firstsL m from rfl]at hFl;obtain⟨R,hR⟩:∃R:Nat→List Int,R=mapTo m:=⟨_,rfl⟩;rw[←hR];have hRs:∀s,R (s+1)=R s++[lastP (classL m) (firstsL m) s (firstsL m).length]:=fun s=>by rw[hR,mapTo,List.range_succ,List.map_append];rfl
 have hR0:R 0=[]:=by rw[hR];rfl
 have hRl:∀s,(R s).length=s:=fun s=>by rw[hR];simp[mapTo]
 clear hR;generalize firstsL m=F at hfi hFl hRs hFm;generalize classL m=p at hpl hcl hRs;have hFc:(F.map natC).length=F.length:=List.length_map _;have hpc:(p.map intC).length=m.rows.length:=by rw[List.length_map,hpl]
 have hbl:((List.replicate m.rows.length true).map boolC).length=m.rows.length:=by simp
 refine PureIs.of1 10 [19,25,45] func48 ntmps48 results48 fun _=>?_;refine EvC.a ?_ (by simp only[go_sem,Mach.cells]<;>rfl);refine EvC.z 0 ?_;refine EvC.k1 ?_ (h1:=by simp only[go_sem,Mach.cells]<;>rfl) (c1:=.ca hcl);refine EvC.k1 ?_ (h1:=by simp only[go_sem,Mach.cells]<;>rfl) (c1:=.ca hfi);refine EvC.k1 ?_ (h1:=by simp only[go_sem,Mach.cells]<;>rfl) (c1:=.ca hre);refine EvC.a ?_;refine EvC.seq ?_;refine EvC.a ?_;refine EvC.block ?_;refine EvC.loopS (σ:=Nat) (fun s=>⟨[(3,.sl false (p.map intC) .unk),(4,.sl false (F.map natC) .unk),(5,.sl false ((List.replicate m.rows.length true).map boolC) .full),(6,.tl 0 s (decide (s=0))),(7,.sc (.int .i64 s))],[],[(0,.arr 1 ((R s).map intC) true)],1⟩) (fun s=>m.rows.length-s) (fun s=>s≤m.rows.length) [3,4,5,6,7] 1 ?_ ?_
 ·exact⟨[(11,0)],0,rfl,(by rw[hR0];simp only[go_sem,List.map_nil,Int.natCast_zero]<;>rfl),Nat.zero_le _⟩
 intro s hs;have hRls:=hRl s;have hRn:=norefs_intC (R s);have hRc:((R s).map intC).length=s:=by rw[List.length_map,hRls]
 refine EvC.seq ?_;refine EvC.a ?_ (by simp only[go_sem,hpc,hpl]<;>rfl);refine EvC.cd (fun hc=>?_) (fun hc=>?_);rotate_left
 ·refine EvC.exit ?_;obtain rfl:s=m.rows.length:=by have:¬s<m.rows.length:=(by simpa using hc);omega
  have hd:decide (m.rows.length=0)=false:=decide_eq_false (by omega);rw[hd];refine EvC.frz 0 (by simp only[go_sem,hRc,hRn]<;>rfl) ?_;refine EvC.a ?_;refine EvC.rz ?_;simp only[go_sem]
 have hsl:s<m.rows.length:=by simpa using hc
 clear hc;have hst:((s:Nat):Int).toNat=s:=Int.toNat_natCast s;have hps:=int_at (p:=p) (s:=s) (by omega);have hbg:((List.replicate m.rows.length true).map boolC)[s]?=some [.sc (.bool true)]:=by rw[List.getElem?_map,List.getElem?_replicate,if_pos hsl];rfl
 have hRss:=hRs s;generalize hem:decide (s=0)=em;refine EvC.skip ?_;refine EvC.seq ?_;refine EvC.block ?_;refine EvC.a ?_;refine EvC.seq ?_;refine EvC.a ?_;refine EvC.block ?_;refine EvC.loopS (σ:=Nat) (fun n=>⟨[(3,.sl false (p.map intC) .unk),(4,.sl false (F.map natC) .unk),(5,.sl false ((List.replicate m.rows.length true).map boolC) .full),(6,.tl 0 s em),(7,.sc (.int .i64 s)),(8,.sc (.int .i64 (lastP p F s n))),(9,.sc (.int .i64 n))],[],[(0,.arr 1 ((R s).map intC) true)],1⟩) (fun n=>F.length-n) (fun n=>n≤F.length) [3,4,5,6,7,8,9] 1 ?_ ?_
 ·exact⟨[(0,0)],0,rfl,(by simp only[go_sem,lastP,hRn,Int.natCast_zero]<;>rfl),Nat.zero_le _⟩
 intro n hn;have hls:lastP p F s (n+1)=if pC p (oA F n)=pC p s then(n:Int)else lastP p F s n:=rfl;refine EvC.seq ?_;refine EvC.a ?_ (by simp only[go_sem,hFc]<;>rfl);refine EvC.cd (fun hc=>?_) (fun hc=>?_);rotate_left
 ·refine EvC.exit ?_;obtain rfl:n=F.length:=by have:¬n<F.length:=(by simpa using hc);omega
  have hm:(R s).map intC++[[.sc (.int .i64 (lastP p F s F.length))]]=(R (s+1)).map intC:=by rw[hRss,List.map_append];rfl
  have hSn:=norefs_intC (R (s+1));have hRl1:=hRl (s+1);have hd1:decide (s+1=0)=false:=rfl;refine EvC.b ?_ (by simp only[go_sem,hRc,hRn,hm,hRls]<;>rfl) (by simp[room_eq,hRls];try omega);refine EvC.bi ?_;exact⟨[(0,0)],s+1,rfl,(by rw[hd1];simp only[go_sem,hSn,hRl1,Int.natCast_add,Int.natCast_one]<;>rfl),hsl,by omega⟩
 have hnl:n<F.length:=by simpa using hc
 clear hc;have hnt:((n:Nat):Int).toNat=n:=Int.toNat_natCast n;have hgn:=nat_at (O:=F) (j:=n) hnl;have hon:=hFm (oA F n) (by unfold oA;rw[List.getElem?_eq_getElem hnl];exact List.getElem_mem _);have hpn:=int_at (p:=p) (s:=oA F n) (by omega);have hyt:((oA F n:Nat):Int).toNat=oA F n:=Int.toNat_natCast _;refine EvC.skip ?_;refine EvC.seq ?_;refine EvC.block ?_;refine EvC.d mixed ?_ (h:=by simp only[go_sem,hgn,hbg,hps,hpn,hst,hnt,hyt,hFc,hpc,hpl,hbl]<;>rfl) (hok:=by simp;try omega);by_cases he:pC p (oA F n)=pC p s
 ·rw[if_pos he]at hls;have d1:decide (pC p (oA F n)=pC p s)=true:=decide_eq_true he;refine EvC.ct ?_ (by simp only[go_sem,d1]<;>rfl);refine EvC.b ?_;refine EvC.bi ?_;exact⟨[(0,0)],n+1,rfl,(by rw[hls];simp only[go_sem,hRn,Int.natCast_add,Int.natCast_one]<;>rfl),hnl,by omega⟩
 ·rw[if_neg he]at hls;have d1:decide (pC p (oA F n)=pC p s)=false:=decide_eq_false he;refine EvC.cs ?_ (by simp only[go_sem,d1]<;>rfl);refine EvC.bi ?_;exact⟨[(0,0)],n+1,rfl,(by rw[hls];simp only[go_sem,hRn,Int.natCast_add,Int.natCast_one]<;>rfl),hnl,by omega⟩
def minE(m:Mach)(s i:Nat):Int×Int:=(pC (mapTo m m.rows.length) (ex (rowN m s) i).1.toNat,(ex (rowN m s) i).2)
def minR(m:Mach)(s i:Nat):List (Int×Int):=(List.range i).map (minE m s)
def minM(m:Mach):Mach:=⟨m.ins,m.outs,false,(firstsL m).map fun s=>(false,minR m s m.ins.toNat)⟩
set_option maxHeartbeats 8000000 in
theorem minimal13_is{m:Mach}(h:Prp m):PureIs prog 13 [.ag m.cells] (.ag (minM m).cells):=by
 have hv:=h.v;have hrw:=hv.rows;have hins:=hv.ins;have hfi:=firsts47_is h;have hma:=map48_is h;have hFl:=firL_len (classL m) (ordO m m.rows.length) m.rows.length;have hFm:∀x∈firstsL m,x<m.rows.length:=fun x hx=>(ordO_mem m m.rows.length x).1 (firL_mem (by rw[ordO_len];exact Nat.le_refl _) hx);rw[show firL (classL m) (ordO m m.rows.length) m.rows.length=firstsL m from rfl]at hFl;have hpl:(mapTo m m.rows.length).length=m.rows.length:=by simp[mapTo]
 have hRe:∀s i,minE m s i=(pC (mapTo m m.rows.length) (ex (rowN m s) i).1.toNat,(ex (rowN m s) i).2):=fun _ _=>rfl;unfold minM;generalize firstsL m=F at hfi hFl hFm;generalize mapTo m m.rows.length=p at hma hpl hRe;have hFc:(F.map natC).length=F.length:=List.length_map _;have hpc:(p.map intC).length=m.rows.length:=by rw[List.length_map,hpl]
 refine PureIs.of1 10 [18,22,28,44] func13 ntmps13 results13 fun _=>?_;refine EvC.a ?_ (by simp only[go_sem,Mach.cells]<;>rfl);refine EvC.z 0 ?_;refine EvC.k1 ?_ (h1:=by simp only[go_sem,Mach.cells]<;>rfl) (c1:=.ca hfi);refine EvC.k1 ?_ (h1:=by simp only[go_sem,Mach.cells]<;>rfl) (c1:=.ca hma);refine EvC.a ?_ (by simp only[go_sem,Mach.cells]<;>rfl);refine EvC.seq ?_;refine EvC.a ?_;refine EvC.ownC 13 2 1 (by simp only[go_sem]<;>rfl) ?_;refine EvC.block ?_;refine EvC.loopS (σ:=Nat) (fun k=>⟨[(1,.ia m.cells),(2,.rf 0 0),(3,.sl false (F.map natC) .unk),(4,.sl false (p.map intC) .unk),(5,.rf 1 0),(6,.sc (.int .i64 k))],[],
   [(0,.cells [.sc (.int .i64 0),.sc (.int .i64 0),.sl true [] .zer]),(1,.cells [.sc (.int .i64 m.ins),.sc (.int .i64 m.outs),.tl 2 k (k==0)]),(2,.arr 1 (((F.take k).map fun s=>minR m s m.ins.toNat).map rowF) true)],3⟩) (fun k=>F.length-k)
  (fun k=>k≤F.length) [1,2,3,4,5,6] 3 ?_ ?_
 ·exact⟨[(1,0),(13,1),(16,2)],0,rfl,(by simp only[go_sem,Mach.cells,Int.natCast_zero,List.take_zero,List.map_nil]<;>rfl),Nat.zero_le _⟩
 intro k hk;have hkin:(k:Int).toNat=k:=Int.toNat_natCast k;have hlk:(((F.take k).map fun s=>minR m s m.ins.toNat).map rowF).length=k:=by simp;omega
 refine EvC.seq ?_;refine EvC.a ?_ (by simp only[go_sem,hFc]<;>rfl);refine EvC.cd (fun hc=>?_) (fun hc=>?_);rotate_left
 ·
  have hc:¬k<F.length:=by simpa using hc
  obtain rfl:k=F.length:=by omega
  refine EvC.exit ?_;refine EvC.frzD 2 (by simp only[go_sem,hlk]<;>rfl) ?_;refine EvC.a ?_;refine EvC.rz ?_;simp only[go_sem];have hne:(F.length==0)=false:=beq_eq_false_iff_ne.2 (by omega);simp only[Mach.cells,hne,List.take_length];rw[List.map_map,List.map_map];rfl
 have hc:k<F.length:=by simpa using hc
 refine EvC.skip ?_;refine EvC.seq ?_;refine EvC.block ?_;have hx:F[k]?=some (F[k]'hc):=List.getElem?_eq_getElem hc;have hxn:=hFm _ (List.getElem_mem hc);have hnext:(F.take (k+1)).map (fun s=>minR m s m.ins.toNat)=(F.take k).map (fun s=>minR m s m.ins.toNat)++[minR m (F[k]'hc) m.ins.toNat]:=by
  rw[List.take_succ_eq_append_getElem hc,List.map_append];rfl
 generalize F[k]'hc=x at hx hxn hnext;have hxg:(F.map natC)[k]?=some [.sc (.int .i64 (x:Nat))]:=by rw[List.getElem?_map,hx];rfl
 have hxt:((x:Nat):Int).toNat=x:=Int.toNat_natCast x;refine EvC.a ?_;refine EvC.seq ?_;refine EvC.a ?_;refine EvC.thaw 7 (by simp only[go_sem]<;>rfl) ?_;refine EvC.block ?_;refine EvC.loopS (σ:=Nat) (fun i=>⟨[(1,.ia m.cells),(2,.rf 0 0),(3,.sl false (F.map natC) .unk),(4,.sl false (p.map intC) .unk),(5,.rf 1 0),(6,.sc (.int .i64 k)),(7,.tl 3 i (i==0)),(8,.sc (.int .i64 i))],[],
   [(0,.cells [.sc (.int .i64 0),.sc (.int .i64 0),.sl true [] .zer]),(1,.cells [.sc (.int .i64 m.ins),.sc (.int .i64 m.outs),.tl 2 k (k==0)]),(2,.arr 1 (((F.take k).map fun s=>minR m s m.ins.toNat).map rowF) true),(3,.arr 2 ((minR m x i).map edgeC) false)],4⟩) (fun i=>m.ins.toNat-i)
  (fun i=>i≤m.ins.toNat) [1,2,3,4,5,6,7,8] 4 ?_ ?_
 ·exact⟨[(0,0),(1,1),(2,2),(7,3)],0,rfl,(by simp only[go_sem,Int.natCast_zero,minR,List.range_zero,List.map_nil]<;>rfl),Nat.zero_le _⟩
 intro i hi;have hiin:(i:Int).toNat=i:=Int.toNat_natCast i;have hli:((minR m x i).map edgeC).length=i:=by simp[minR]
 refine EvC.seq ?_;refine EvC.a ?_ (by simp only[go_sem,Mach.cells]<;>rfl);refine EvC.cond (by simp only[go_sem]<;>rfl) (fun hd=>?_) (fun hd=>?_);rotate_left
 ·
  have hd:¬(i:Int)<m.ins:=by simpa using hd
  have hie:i=m.ins.toNat:=by omega
  have hne2:(i==0)=false:=beq_eq_false_iff_ne.2 (by omega);refine EvC.exit ?_;rw[hne2];refine EvC.frz 3 (by simp only[go_sem,hli]<;>rfl) ?_;have htl:(F.take k).length=k:=by rw[List.length_take];omega
  have hr2:room (k+1) 24=true:=by simp only[room_eq,decide_eq_true_eq];omega
  refine EvC.b ?_ (hok:=by simp[hlk,AV.norefs,AV.noref];rw[Nat.min_eq_left (by omega)];exact⟨rfl,hr2⟩);refine EvC.bi ?_;refine⟨[(0,0),(1,1),(2,2)],k+1,rfl,?_,by omega,by omega⟩;have hs0:(k+1==0)=false:=rfl;rw[hnext,←hie];simp only[go_sem,hs0,htl,Int.natCast_add,Int.natCast_one,List.map_append,List.map_cons,List.map_nil,rowF,rowC]<;>rfl
 have hd:(i:Int)<m.ins:=by simpa using hd
 obtain⟨r,t,o,hr,he,hxe,ht,hrl,_⟩:=h.edge hxn (i:=i) (by omega);have htt:((t:Nat):Int).toNat=t:=Int.toNat_natCast t;have hpt:=int_at (p:=p) (s:=t) (by omega);have hrow:minR m x (i+1)=minR m x i++[(pC p t,o)]:=by rw[minR,List.range_succ,List.map_append,List.map_cons,List.map_nil,hRe,hxe,htt];rfl
 have hm:(minR m x i).map edgeC++[[.sc (.int .i64 (pC p t)),.sc (.int .i64 o)]]=(minR m x (i+1)).map edgeC:=by rw[hrow,List.map_append];rfl
 have hi0:(i+1==0)=false:=rfl;have hli2:(minR m x (i+1)).length=i+1:=by simp[minR]
 have d1:decide ((0:Int)≤(t:Int))=true:=decide_eq_true (by omega);refine EvC.skip ?_;refine EvC.seq ?_;refine EvC.block ?_;refine EvC.d mixed ?_ (h:=by simp only[go_sem,hxg,hkin,hFc,Mach.cells,hr,rowC,he,edgeC,hxt,hiin,hrl]<;>rfl) (hok:=by simp;try omega);refine EvC.seq ?_;refine EvC.a ?_;refine EvC.ct ?_ (by simp only[go_sem,d1]<;>rfl);refine EvC.b ?_ (by simp only[go_sem,hpt,htt,hpc,hpl]<;>rfl) (by simp;try omega);refine EvC.b ?_ (by simp only[go_sem,hli,hm]<;>rfl) (by simp[hli,room_eq];try omega);refine EvC.bi ?_;exact⟨[(0,0),(1,1),(2,2),(3,3)],i+1,rfl,(by simp only[go_sem,Mach.cells,hli2,hi0,Int.natCast_add,Int.natCast_one]<;>rfl),by omega,by omega⟩
def canM(m:Mach):Mach:=⟨m.ins,m.outs,false,m.rows.map fun r=>(false,r.2)⟩
set_option maxHeartbeats 8000000 in
theorem part38_is{m:Mach}(h:Prp m):PureIs prog 38 [.ag m.cells,.sl false ((List.range m.rows.length).map natC) .unk] (.ag (canM m).cells):=by
 have hv:=h.v;have hrw:=hv.rows;have hins:=hv.ins;unfold canM;have hFc:((List.range m.rows.length).map natC).length=m.rows.length:=by simp
 have hFg:∀k,k<m.rows.length→((List.range m.rows.length).map natC)[k]?=some [.sc (.int .i64 (k:Nat))]:=fun k hk=>by rw[List.getElem?_map,List.getElem?_range hk];rfl
 generalize (List.range m.rows.length).map natC=F at hFc hFg;refine PureIs.of1 12 [20,26,43,52] func38 ntmps38 results38 fun _=>?_;refine EvC.a ?_ (by simp only[go_sem,Mach.cells]<;>rfl);refine EvC.z 0 ?_;refine EvC.a ?_ (by simp only[go_sem,Mach.cells]<;>rfl);refine EvC.seq ?_;refine EvC.a ?_;refine EvC.ownC 7 2 1 (by simp only[go_sem]<;>rfl) ?_;refine EvC.block ?_;refine EvC.loopS (σ:=Nat) (fun k=>⟨[(1,.sl false F .unk),(2,.ia m.cells),(4,.rf 0 0),(5,.rf 1 0),(6,.sc (.int .i64 k))],[],
   [(0,.cells [.sc (.int .i64 0),.sc (.int .i64 0),.sl true [] .zer]),(1,.cells [.sc (.int .i64 m.ins),.sc (.int .i64 m.outs),.tl 2 k (k==0)]),(2,.arr 1 (((m.rows.take k).map (·.2)).map rowF) true)],3⟩) (fun k=>m.rows.length-k)
  (fun k=>k≤m.rows.length) [1,2,4,5,6] 3 ?_ ?_
 ·exact⟨[(1,0),(7,1),(10,2)],0,rfl,(by simp only[go_sem,Mach.cells,Int.natCast_zero,List.take_zero,List.map_nil]<;>rfl),Nat.zero_le _⟩
 intro k hk;have hkin:(k:Int).toNat=k:=Int.toNat_natCast k;have hlk:(((m.rows.take k).map (·.2)).map rowF).length=k:=by simp;omega
 refine EvC.seq ?_;refine EvC.a ?_ (by simp only[go_sem,hFc]<;>rfl);refine EvC.cd (fun hc=>?_) (fun hc=>?_);rotate_left
 ·
  have hc:¬k<m.rows.length:=by simpa using hc
  obtain rfl:k=m.rows.length:=by omega
  refine EvC.exit ?_;refine EvC.frzD 2 (by simp only[go_sem,hlk]<;>rfl) ?_;refine EvC.a ?_;refine EvC.rz ?_;simp only[go_sem];have hne:(m.rows.length==0)=false:=beq_eq_false_iff_ne.2 (by omega);simp only[Mach.cells,hne,List.take_length];rw[List.map_map,List.map_map];rfl
 have hc:k<m.rows.length:=by simpa using hc
 refine EvC.skip ?_;refine EvC.seq ?_;refine EvC.block ?_;have hx:m.rows[k]?=some (m.rows[k]'hc):=List.getElem?_eq_getElem hc;have hnext:(m.rows.take (k+1)).map (·.2)=(m.rows.take k).map (·.2)++[(m.rows[k]'hc).2]:=by
  rw[List.take_succ_eq_append_getElem hc,List.map_append];rfl
 have hxl:(m.rows[k]'hc).2.length=m.ins.toNat:=by have:=(hv.row _ (List.getElem_mem hc)).1;omega
 generalize m.rows[k]'hc=x at hx hnext hxl;have hxg:=hFg k hc;refine EvC.a ?_;refine EvC.seq ?_;refine EvC.a ?_;refine EvC.thaw 7 (by simp only[go_sem]<;>rfl) ?_;refine EvC.block ?_;refine EvC.loopS (σ:=Nat) (fun i=>⟨[(1,.sl false F .unk),(2,.ia m.cells),(4,.rf 0 0),(5,.rf 1 0),(6,.sc (.int .i64 k)),(7,.tl 3 i (i==0)),(8,.sc (.int .i64 i))],[],
   [(0,.cells [.sc (.int .i64 0),.sc (.int .i64 0),.sl true [] .zer]),(1,.cells [.sc (.int .i64 m.ins),.sc (.int .i64 m.outs),.tl 2 k (k==0)]),(2,.arr 1 (((m.rows.take k).map (·.2)).map rowF) true),(3,.arr 2 ((x.2.take i).map edgeC) false)],4⟩) (fun i=>m.ins.toNat-i)
  (fun i=>i≤m.ins.toNat) [1,2,4,5,6,7,8] 4 ?_ ?_
 ·exact⟨[(0,0),(1,1),(2,2),(7,3)],0,rfl,(by simp only[go_sem,Int.natCast_zero,List.take_zero,List.map_nil]<;>rfl),Nat.zero_le _⟩
 intro i hi;have hiin:(i:Int).toNat=i:=Int.toNat_natCast i;have hli:((x.2.take i).map edgeC).length=i:=by simp;omega
 refine EvC.seq ?_;refine EvC.a ?_ (by simp only[go_sem,Mach.cells]<;>rfl);refine EvC.cond (by simp only[go_sem]<;>rfl) (fun hd=>?_) (fun hd=>?_);rotate_left
 ·
  have hd:¬(i:Int)<m.ins:=by simpa using hd
  have hie:x.2.take i=x.2:=List.take_of_length_le (by omega);have hne2:(i==0)=false:=beq_eq_false_iff_ne.2 (by omega);refine EvC.exit ?_;rw[hne2];refine EvC.frz 3 (by simp only[go_sem,hli]<;>rfl) ?_;have htl:(m.rows.take k).length=k:=by rw[List.length_take];omega
  have hr2:room (k+1) 24=true:=by simp only[room_eq,decide_eq_true_eq];omega
  refine EvC.b ?_ (hok:=by simp[hlk,AV.norefs,AV.noref];rw[Nat.min_eq_left (by omega)];exact⟨rfl,hr2⟩);refine EvC.bi ?_;refine⟨[(0,0),(1,1),(2,2)],k+1,rfl,?_,by omega,by omega⟩;have hs0:(k+1==0)=false:=rfl;rw[hnext,hie];simp only[go_sem,hs0,htl,Int.natCast_add,Int.natCast_one,List.map_append,List.map_cons,List.map_nil,rowF,rowC]<;>rfl
 have hd:(i:Int)<m.ins:=by simpa using hd
 obtain⟨r,t,o,hr,he,hxe,ht,hrl,_⟩:=h.edge hc (i:=i) (by omega);obtain rfl:r=x:=by rw[hr]at hx;exact Option.some.inj hx
 have hrow:r.2.take (i+1)=r.2.take i++[((t:Int),o)]:=by rw[List.take_succ,he];rfl
 have hm:(r.2.take i).map edgeC++[[.sc (.int .i64 (t:Nat)),.sc (.int .i64 o)]]=(r.2.take (i+1)).map edgeC:=by rw[hrow,List.map_append];rfl
 have hi0:(i+1==0)=false:=rfl;have hli2:(r.2.take (i+1)).length=i+1:=by simp;omega
 refine EvC.skip ?_;refine EvC.seq ?_;refine EvC.block ?_;refine EvC.d mixed ?_ (h:=by simp only[go_sem,hxg,hkin,hFc,Mach.cells,hr,rowC,he,edgeC,hiin,hrl]<;>rfl) (hok:=by simp;try omega);refine EvC.a ?_;refine EvC.seq ?_;refine EvC.a ?_;refine EvC.block ?_;refine EvC.loopS (σ:=Nat) (fun n=>⟨[(1,.sl false F .unk),(2,.ia m.cells),(4,.rf 0 0),(5,.rf 1 0),(6,.sc (.int .i64 k)),(7,.tl 3 i (i==0)),(8,.sc (.int .i64 i)),(9,.rf 4 0),(10,.sc (.int .i64 (if t<n then(t:Int)else -1))),(11,.sc (.int .i64 n))],[],
   [(0,.cells [.sc (.int .i64 0),.sc (.int .i64 0),.sl true [] .zer]),(1,.cells [.sc (.int .i64 m.ins),.sc (.int .i64 m.outs),.tl 2 k (k==0)]),(2,.arr 1 (((m.rows.take k).map (·.2)).map rowF) true),(3,.arr 2 ((r.2.take i).map edgeC) false),(4,.cells [.sc (.int .i64 t),.sc (.int .i64 o)])],5⟩) (fun n=>m.rows.length-n)
  (fun n=>n≤m.rows.length) [1,2,4,5,6,7,8,9,10,11] 5 ?_ ?_
 ·have z:¬t<0:=by omega
  exact⟨[(0,0),(1,1),(2,2),(3,3),(19,4)],0,rfl,(by rw[if_neg z];simp only[go_sem,Mach.cells,Int.natCast_zero]<;>rfl),Nat.zero_le _⟩
 intro n hn;have hnin:(n:Int).toNat=n:=Int.toNat_natCast n;refine EvC.seq ?_;refine EvC.a ?_ (by simp only[go_sem,hFc]<;>rfl);refine EvC.cond (by simp only[go_sem]<;>rfl) (fun he2=>?_) (fun he2=>?_);rotate_left
 ·have he2:¬n<m.rows.length:=by simpa using he2
  have htn:t<n:=by omega
  rw[if_pos htn];refine EvC.exit ?_;refine EvC.b ?_ (by simp only[go_sem,hli,hm]<;>rfl) (by simp[hli,room_eq];try omega);refine EvC.bi ?_;exact⟨[(0,0),(1,1),(2,2),(3,3)],i+1,rfl,(by simp only[go_sem,Mach.cells,hli2,hi0,Int.natCast_add,Int.natCast_one]<;>rfl),by omega,by omega⟩
 have hnl:n<m.rows.length:=by simpa using he2
 have hgn:=hFg n hnl;refine EvC.skip ?_;refine EvC.seq ?_;refine EvC.block ?_;refine EvC.d mixed ?_ (h:=by simp only[go_sem,hgn,hnin,hFc]<;>rfl) (hok:=by simp;try omega);by_cases hnt:n=t
 ·have d2:decide ((n:Int)=(t:Int))=true:=decide_eq_true (by omega);have z:t<n+1:=by omega
  refine EvC.ct ?_ (by simp only[go_sem,d2]<;>rfl);refine EvC.b ?_;refine EvC.bi ?_;exact⟨[(0,0),(1,1),(2,2),(3,3),(4,4)],n+1,rfl,(by rw[if_pos z,←hnt];simp only[go_sem,Mach.cells,Int.natCast_add,Int.natCast_one]<;>rfl),by omega,by omega⟩
 ·have d2:decide ((n:Int)=(t:Int))=false:=decide_eq_false (by omega);have z:(if t<n+1 then(t:Int)else -1)=if t<n then(t:Int)else -1:=by
   by_cases h1:t<n
   ·rw[if_pos h1,if_pos (by omega)]
   ·rw[if_neg h1,if_neg (by omega)]
  refine EvC.cs ?_ (by simp only[go_sem,d2]<;>rfl);refine EvC.bi ?_;exact⟨[(0,0),(1,1),(2,2),(3,3),(4,4)],n+1,rfl,(by rw[z];simp only[go_sem,Mach.cells,Int.natCast_add,Int.natCast_one]<;>rfl),by omega,by omega⟩
theorem canonical11_is{m:Mach}(h:Prp m)(ho:ordO m m.rows.length=List.range m.rows.length):PureIs prog 11 [.ag m.cells] (.ag (canM m).cells):=by
 have h1:=order39_is h;rw[ho]at h1;have h2:=part38_is h;have hcm:(canM m).cells=[.sc (.int .i64 m.ins),.sc (.int .i64 m.outs),.sl false ((canM m).rows.map rowC) .unk]:=rfl;rw[hcm]at h2⊢;refine PureIs.of1 3 [] func11 ntmps11 results11 fun _=>?_;refine EvC.a ?_ (by simp only[go_sem,Mach.cells]<;>rfl);refine EvC.z 0 ?_;refine EvC.k2D mixed ?_ (h1:=by simp only[go_sem,Mach.cells]<;>rfl) (c1:=.ca h1) (h2:=by simp only[go_sem,Mach.cells]<;>rfl) (c2:=.ca h2);refine EvC.rz ?_;simp only[go_sem]
def stL(m:Mach):List RW:=sortW (accL m)
def trL(m:Mach):List RW:=catW (stL m) (uptoW m.ins.toNat 2)
theorem accL_len(m:Mach):(accL m).length=m.rows.length:=by simp[accL]
theorem Prp.accL_short{m:Mach}(h:Prp m):∀x∈accL m,x.2.1.length<m.rows.length:=fun x hx=>by
 obtain⟨t,ht,rfl⟩:=List.mem_map.1 hx;have ht:=List.mem_range.1 ht;have:=(h.acc ht).2.len;simp only;omega
theorem Prp.stL_short{m:Mach}(h:Prp m):∀x∈stL m,x.2.1.length<m.rows.length:=fun x hx=>by
 obtain⟨y,hy,e⟩:=sortW_mem hx;rw[e];exact h.accL_short y hy
theorem uptoW_short{n k:Nat}:∀x∈uptoW n k,x.2.1.length<k:=fun x hx=>by
 simp only[uptoW,List.mem_flatMap,List.mem_range]at hx;obtain⟨j,hj,hx⟩:=hx;have:=exW_word hx;omega
theorem uptoW_two(n:Nat):(uptoW n 2).length=n+1:=by
 have h0:uptoW n 0=[]:=rfl;have h1:(exW n 1).length=n:=by rw[exW,moreS_len];simp[exW]
 rw[uptoW_succ,uptoW_succ,h0,List.length_append,List.length_append,h1];simp[exW];omega
theorem states82_is{m:Mach}(h:Prp m):PureIs prog 82 [.ag m.cells] (.sl (stL m).isEmpty ((stL m).map rwC) .unk):=by
 have hrw:=h.v.rows;have hs:=h.accL_short;refine PureIs.of1 4 [] func82 ntmps82 results82 fun _=>?_;refine EvC.a ?_ (by simp only[go_sem,Mach.cells]<;>rfl);refine EvC.z 0 ?_;refine EvC.k1 ?_ (h1:=by simp only[go_sem,Mach.cells]<;>rfl) (c1:=.ca (access71_is h));refine EvC.k1 ?_ (h1:=by simp only[go_sem,Mach.cells]<;>rfl) (c1:=.ca (sort58_is false (accL m) .full (by rw[accL_len];omega) (fun x hx=>by have:=hs x hx;omega)));refine EvC.rz ?_;simp only[go_sem];rfl
theorem switches52_is{m:Mach}(h:Prp m):PureIs prog 52 [.ag m.cells,.sc (.int .i64 1)] (.sl (trL m).isEmpty ((trL m).map rwC) .unk):=by
 have hrw:=h.v.rows;obtain⟨hK,h1,h16⟩:=h.v.insN;have hs:=h.stL_short;have hl:(stL m).length≤64:=by have:=sortW_len (accL m);rw[accL_len]at this;unfold stL;omega
 have hu:=uptoW_two m.ins.toNat;have hc:=concat16_is (stL m).isEmpty false (stL m) (uptoW m.ins.toNat 2) .unk .unk (by rw[hu];have:=Nat.mul_le_mul_right (m.ins.toNat+1) hl;omega) (by omega) (fun x hx=>by have:=hs x hx;omega) (fun x hx=>by have:=uptoW_short x hx;omega);have hup:=upto15_is m.ins.toNat 1 h16 h1 (Nat.le_refl _);rw[hK]at hup;refine PureIs.of1 3 [4] func52 ntmps52 results52 fun _=>?_;refine EvC.a ?_ (by simp only[go_sem,Mach.cells]<;>rfl);refine EvC.z 0 ?_;apply EvC.seq;apply EvC.drw mixed
 ·apply Tr.run
  ·simp only[go_sem,Mach.cells]<;>rfl
  ·simp
  apply Tr.cons
  ·exact .ca (states82_is h)
  apply Tr.run
  ·simp only[go_sem,Mach.cells]<;>rfl
  ·simp
  apply Tr.cons
  ·exact .ca (hup)
  apply Tr.run
  ·simp only[go_sem,Mach.cells]<;>rfl
  ·simp
  apply Tr.cons
  ·exact .ca (hc)
  apply Tr.done
  ·simp only[go_sem]<;>rfl
  ·simp
 ·kernel_rfl
 refine EvC.rz ?_;simp only[go_sem];rfl
theorem trans17_is{m:Mach}(h:Prp m):PureIs prog 17 [.ag m.cells] (.sl (trL m).isEmpty ((trL m).map rwC) .unk):=by
 refine PureIs.of1 3 [] func17 ntmps17 results17 fun _=>?_;refine EvC.a ?_ (by simp only[go_sem,Mach.cells]<;>rfl);refine EvC.z 0 ?_;refine EvC.k1 ?_ (h1:=by simp only[go_sem,Mach.cells]<;>rfl) (c1:=.ca (switches52_is h));refine EvC.rz ?_;simp only[go_sem]
def LeastS(m:Mach)(s t:Nat)(w:List Int):Prop:=
 WOk m.ins.toNat w∧runR m s w≠runR m t w∧∀v,WOk m.ins.toNat v→runR m s v≠runR m t v→rank m.ins.toNat w≤rank m.ins.toNat v
theorem leastS_ex{m:Mach}{s t:Nat}:∀(n:Nat) (v:List Int),rank m.ins.toNat v≤n→WOk m.ins.toNat v→runR m s v≠runR m t v→∃w,LeastS m s t w
 | 0,v,hn,h1,h2=>⟨v,h1,h2,fun u _ _=>by omega⟩
 | n+1,v,hn,h1,h2=>by
   by_cases hx:∃u,WOk m.ins.toNat u∧runR m s u≠runR m t u∧rank m.ins.toNat u<rank m.ins.toNat v
   ·obtain⟨u,u1,u2,u3⟩:=hx;exact leastS_ex n u (by omega) u1 u2
   ·exact⟨v,h1,h2,fun u u1 u2=>Nat.le_of_not_lt fun h=>hx ⟨u,u1,u2,h⟩⟩
open Classical in
noncomputable def sepW(m:Mach)(s t:Nat):List Int:=if h:∃w,LeastS m s t w then Classical.choose h else []
structure Mnl (m:Mach):Prop where
 p:Prp m
 sep:∀s t,s<m.rows.length→t<m.rows.length→s≠t→∃v,WOk m.ins.toNat v∧runR m s v≠runR m t v
theorem Mnl.least{m:Mach}(h:Mnl m){s t:Nat}(hs:s<m.rows.length)(ht:t<m.rows.length)(hst:s≠t):LeastS m s t (sepW m s t)∧(sepW m s t).length<m.rows.length∧sepW m s t≠[]:=by
 obtain⟨v,h1,h2⟩:=h.sep s t hs ht hst;have hex:=leastS_ex _ v (Nat.le_refl _) h1 h2;have hl:LeastS m s t (sepW m s t):=by unfold sepW;rw[dif_pos hex];exact Classical.choose_spec hex
 refine⟨hl,?_,fun e=>?_⟩
 ·refine Nat.lt_of_not_le fun hle=>hl.2.1 ?_;refine alike_all h.p.v.w (k:=m.rows.length-1) (by omega) hs ht (fun u u1 u2=>?_) _ hl.1;refine Classical.byContradiction fun hne=>?_;have h3:=hl.2.2 u u1 hne;have h4:=rank_len (k:=m.ins.toNat) (w:=u) (v:=sepW m s t) u1 (by omega);omega
 ·have h3:=hl.2.1;rw[e]at h3;exact h3 rfl
theorem Mnl.sep_is{m:Mach}(h:Mnl m){s t:Nat}(hs:s<m.rows.length)(ht:t<m.rows.length)(hst:s≠t):
  PureIs prog 83 [.ag m.cells,.sc (.int .i64 s),.sc (.int .i64 t)] (.tu [.sl false ((sepW m s t).map intC) .unk,.sc (.bool true)]):=by
 obtain⟨hl,hlen,hne⟩:=h.least hs ht hst;obtain⟨hK,h1,_⟩:=h.p.v.insN;have hat:wordAt m.ins (rank m.ins.toNat (sepW m s t))=sepW m s t:=by rw[←hK];exact at_rank h1 hl.1
 have hr:=refsep_is h.p.v s t (by omega) (by omega) (rank m.ins.toNat (sepW m s t)) (fun j hj=>?_) (sepW m s t) (.inl ⟨by rw[hat];omega,hl.2.1,hat.symm⟩)
 ·have he:(sepW m s t).isEmpty=false:=by cases hw:sepW m s t with|nil=>exact absurd hw hne|cons=>rfl
  rw[he]at hr;exact hr
 ·rw[←hK];obtain⟨k1,k2⟩:=rank_at h1 j;refine⟨?_,Classical.byContradiction fun h4=>?_⟩
  ·have:=rank_lt_len (v:=wordAt m.ins.toNat j) hl.1 (by omega);omega
  ·have:=hl.2.2 _ k1 h4;omega
noncomputable def sepR(m:Mach)(a k:Nat):List RW:=(List.range k).map fun j=>(false,sepW m a (a+1+j),.unk)
noncomputable def sepT(m:Mach)(a:Nat):List RW:=(List.range a).flatMap fun x=>sepR m x (m.rows.length-(x+1))
theorem sepR_succ(m:Mach)(a k:Nat):sepR m a (k+1)=sepR m a k++[(false,sepW m a (a+1+k),.unk)]:=by simp[sepR,List.range_succ]
theorem sepT_succ(m:Mach)(a:Nat):sepT m (a+1)=sepT m a++sepR m a (m.rows.length-(a+1)):=by simp[sepT,List.range_succ]
theorem sepR_len(m:Mach)(a k:Nat):(sepR m a k).length=k:=by simp[sepR]
theorem sepT_len(m:Mach):∀a,(sepT m a).length≤a*m.rows.length
 | 0=>by simp[sepT]
 | a+1=>by
   have:=sepT_len m a;rw[sepT_succ,List.length_append,sepR_len,Nat.succ_mul];omega
theorem sepT_mem{m:Mach}{k:Nat}{x:RW}(hk:k≤m.rows.length)(h:x∈sepT m k):∃a b,a<b∧b<m.rows.length∧x=(false,sepW m a b,.unk):=by
 obtain⟨a,ha,hx⟩:=List.mem_flatMap.1 h;obtain⟨j,hj,rfl⟩:=List.mem_map.1 hx;have ha:=List.mem_range.1 ha;have hj:=List.mem_range.1 hj;exact⟨a,a+1+j,by omega,by omega,rfl⟩
theorem mem_sepT{m:Mach}{a b:Nat}(hab:a<b)(hb:b<m.rows.length):(false,sepW m a b,.unk)∈sepT m m.rows.length:=by
 refine List.mem_flatMap.2 ⟨a,List.mem_range.2 (by omega),List.mem_map.2 ⟨b-(a+1),List.mem_range.2 (by omega),?_⟩⟩;rw[show a+1+(b-(a+1))=b by omega]
noncomputable def allW(m:Mach):List RW:=sortW (sepT m m.rows.length)
set_option maxHeartbeats 4000000 in
theorem pairs54_is{m:Mach}(h:Mnl m):PureIs prog 54 [.ag m.cells,.sc (.int .i64 (-1))] (.sl (allW m).isEmpty ((allW m).map rwC) .unk):=by
 have hv:=h.p.v;have hrw:=hv.rows;have hTl:∀a,a≤m.rows.length→(sepT m a).length≤64*64:=fun a ha=>Nat.le_trans (sepT_len m a) (Nat.le_trans (Nat.mul_le_mul ha (Nat.le_refl _)) (Nat.mul_le_mul (by omega) (by omega)));refine PureIs.of1 9 [14,23,37] func54 ntmps54 results54 fun _=>?_;refine EvC.a ?_ (by simp only[go_sem,Mach.cells]<;>rfl);refine EvC.z 0 ?_;refine EvC.a ?_;refine EvC.seq ?_;refine EvC.a ?_;refine EvC.block ?_;refine EvC.loopS (σ:=Nat) (fun a=>⟨[(1,.sc (.int .i64 (-1))),(2,.ia m.cells),(5,.tl 0 (sepT m a).length (decide ((sepT m a).length=0))),(6,.sc (.int .i64 a))],[],[(0,.arr 1 ((sepT m a).map rwC) true)],1⟩) (fun a=>m.rows.length-a) (fun a=>a≤m.rows.length) [1,2,5,6] 1 ?_ ?_
 ·have hz:sepT m 0=[]:=rfl;exact⟨[(2,0)],0,rfl,(by rw[hz];simp only[go_sem,Mach.cells,List.length_nil,List.map_nil,Int.natCast_zero]<;>rfl),Nat.zero_le _⟩
 intro a ha;have hTa:=hTl a ha;have hTs:=sepT_succ m a;have hVe:(sepT m a).isEmpty=decide ((sepT m a).length=0):=by cases sepT m a<;>simp
 obtain⟨V,hV⟩:∃V,V=sepT m a:=⟨_,rfl⟩;have hVn:=norefs_rw V;have hVc:(V.map rwC).length=V.length:=List.length_map _;refine EvC.seq ?_;refine EvC.a ?_ (by simp only[go_sem,Mach.cells]<;>rfl);refine EvC.cd (fun hc=>?_) (fun hc=>?_);rotate_left
 ·refine EvC.exit ?_;obtain rfl:a=m.rows.length:=by have:¬a<m.rows.length:=(by simpa using hc);omega
  have hs:=sort58_is (decide (V.length=0)) V .unk (by rw[hV];omega) fun x hx=>by
   rw[hV]at hx;obtain⟨s,t,h1,h2,rfl⟩:=sepT_mem (Nat.le_refl _) hx;have:=(h.least (s:=s) (t:=t) (by omega) h2 (by omega)).2.1;simp only;omega
  have he:sortW V=allW m:=by rw[hV];rfl
  rw[he]at hs;rw[←hV];generalize decide (V.length=0)=e at hs;refine EvC.frz 0 (by simp only[go_sem,hVc,hVn]<;>rfl) ?_;refine EvC.k1 ?_ (c1:=.ca hs);refine EvC.rz ?_;simp only[go_sem]
 have hal:a<m.rows.length:=by simpa using hc
 clear hc;rw[←hV]at hTa hTs⊢;have hn2:∀k,(V++sepR m a k).length=V.length+k:=fun k=>by rw[List.length_append,sepR_len]
 refine EvC.skip ?_;refine EvC.seq ?_;refine EvC.block ?_;refine EvC.ai ?_;refine EvC.block ?_;refine EvC.loopS (σ:=Nat) (fun k=>⟨[(1,.sc (.int .i64 (-1))),(2,.ia m.cells),(5,.tl 0 (V++sepR m a k).length (decide ((V++sepR m a k).length=0))),(6,.sc (.int .i64 a)),(7,.sc (.int .i64 ((a+1+k:Nat):Int)))],[],[(0,.arr 1 ((V++sepR m a k).map rwC) true)],1⟩) (fun k=>m.rows.length-(a+1)-k) (fun k=>k≤m.rows.length-(a+1)) [1,2,5,6,7] 1 ?_ ?_
 ·have hz:V++sepR m a 0=V:=by simp[sepR]
  exact⟨[(0,0)],0,rfl,(by rw[hz];generalize decide (V.length=0)=e;simp only[go_sem,Mach.cells,hVn,hVc,Int.natCast_add,Int.natCast_one,Nat.add_zero]<;>rfl),Nat.zero_le _⟩
 intro k hk;have hks:=sepR_succ m a k;have hl1:=hn2 k;have hl2:=hn2 (k+1);obtain⟨U,hU⟩:∃U,U=V++sepR m a k:=⟨_,rfl⟩;obtain⟨b,hb⟩:∃b:Nat,b=a+1+k:=⟨_,rfl⟩;rw[←hU]at hl1⊢;rw[←hb]at hks⊢;have hUn:=norefs_rw U;have hUc:(U.map rwC).length=U.length:=List.length_map _;refine EvC.seq ?_;refine EvC.a ?_ (by simp only[go_sem,Mach.cells]<;>rfl);refine EvC.cd (fun hc=>?_) (fun hc=>?_);rotate_left
 ·refine EvC.exit ?_;have hke:k=m.rows.length-(a+1):=by have:¬b<m.rows.length:=(by simpa using hc);omega
  have hUe:U=sepT m (a+1):=by rw[hU,hTs,hke]
  rw[hUe]at hUn hUc⊢;generalize hee:decide ((sepT m (a+1)).length=0)=e;refine EvC.bi ?_;exact⟨[(0,0)],a+1,rfl,(by rw[hee];simp only[go_sem,Mach.cells,hUn,hUc,Int.natCast_add,Int.natCast_one]<;>rfl),hal,by omega⟩
 have hbl:b<m.rows.length:=by simpa using hc
 clear hc;obtain⟨W,hW⟩:∃W,W=V++sepR m a (k+1):=⟨_,rfl⟩;rw[←hW]at hl2;have hm:U.map rwC++[[.sl false ((sepW m a b).map intC) .unk]]=W.map rwC:=by rw[hW,hks,←List.append_assoc,←hU,List.map_append];rfl
 have hWl:W.length=U.length+1:=by omega
 have hWd:decide (W.length=0)=false:=decide_eq_false (by omega);have hWn:=norefs_rw W;have hWc:(W.map rwC).length=W.length:=List.length_map _;have hb1:((a+1+(k+1):Nat):Int)=(b:Int)+1:=by omega
 generalize decide (U.length=0)=e;refine EvC.skip ?_;refine EvC.seq ?_;refine EvC.block ?_;refine EvC.g ?_;refine EvC.ct ?_;refine EvC.k1 ?_ (h1:=by simp only[go_sem,Mach.cells]<;>rfl) (c1:=.ca (h.sep_is hal hbl (by omega)));refine EvC.b ?_ (by simp only[go_sem,hUn,hUc,hm]<;>rfl) (by simp[room_eq];try omega);refine EvC.bi ?_;exact⟨[(0,0)],k+1,rfl,(by rw[←hW,hWd,hWl,hb1];simp only[go_sem,Mach.cells,hWn,hWc]<;>rfl),by omega,by omega⟩
theorem all20_is{m:Mach}(h:Mnl m):PureIs prog 20 [.ag m.cells] (.sl (allW m).isEmpty ((allW m).map rwC) .unk):=by
 refine PureIs.of1 3 [] func20 ntmps20 results20 fun _=>?_;refine EvC.a ?_ (by simp only[go_sem,Mach.cells]<;>rfl);refine EvC.z 0 ?_;refine EvC.k1 ?_ (h1:=by simp only[go_sem,Mach.cells]<;>rfl) (c1:=.ca (pairs54_is h));refine EvC.rz ?_;simp only[go_sem]
def fullL(l:List RW):List RW:=if l.isEmpty=true then [(false,[],.unk)]else l
theorem full_is(l:List RW)(hl:l.length<1000000):PureIs prog 19 [.sl l.isEmpty (l.map rwC) .unk] (.sl false ((fullL l).map rwC) .unk):=by
 cases he:l.isEmpty with
 | false=>
   have hne:l≠[]:=fun e=>by rw[e]at he;cases he
   have hf:fullL l=l:=by unfold fullL;rw[he,if_neg Bool.false_ne_true]
   rw[hf];exact full19_is false l .unk hl hne
 | true=>
   have hl0:l=[]:=List.isEmpty_iff.1 he;subst hl0;refine PureIs.of1 1 [2,5] func19 ntmps19 results19 fun _=>?_;refine EvC.a ?_;refine EvC.seq ?_;refine EvC.a ?_;refine EvC.ct ?_;refine EvC.a ?_;refine EvC.unkV 2 (by simp only[go_sem]<;>rfl) ?_;refine EvC.rz ?_;simp only[go_sem];rfl
theorem catW_mem{A B:List RW}{z:RW}(h:z∈catW A B):∃x∈A,∃y∈B,z=(false,x.2.1++y.2.1,.unk):=by
 rcases catL_mem h with h|h
 ·cases h
 ·exact h
theorem catW_len(A B:List RW):(catW A B).length≤A.length*B.length:=by have:=catL_len (A:=A) (B:=B) (V:=[]);simpa[catW]using this
theorem fullL_len(l:List RW):(fullL l).length≤l.length+1:=by unfold fullL;split<;>simp
theorem fullL_mem{l:List RW}{x:RW}(h:x∈fullL l):x.2.1=[]∨x∈l:=by
 unfold fullL at h;split at h
 ·left;rw[List.mem_singleton.1 h]
 ·exact .inr h
noncomputable def wcL(m:Mach):List RW:=catW (catW (trL m) (uptoW m.ins.toNat 1)) (fullL (allW m))
noncomputable def wL(m:Mach):List RW:=redW (wcL m)
theorem Mnl.trL_ok{m:Mach}(h:Mnl m):(trL m).length≤m.rows.length*(m.ins.toNat+1)∧∀x∈trL m,x.2.1.length≤m.rows.length:=by
 have hu:=uptoW_two m.ins.toNat;refine⟨?_,fun x hx=>?_⟩
 ·have h1:=catW_len (stL m) (uptoW m.ins.toNat 2);have h2:(stL m).length≤m.rows.length:=by have:=sortW_len (accL m);rw[accL_len]at this;exact this
  rw[hu]at h1;exact Nat.le_trans h1 (Nat.mul_le_mul_right _ h2)
 ·obtain⟨y,hy,z,hz,rfl⟩:=catW_mem hx;have:=h.p.stL_short y hy;have:=uptoW_short z hz;simp;omega
theorem Mnl.allW_ok{m:Mach}(h:Mnl m):(allW m).length≤m.rows.length*m.rows.length∧∀x∈allW m,x.2.1.length<m.rows.length:=by
 refine⟨Nat.le_trans (sortW_len _) (sepT_len m _),fun x hx=>?_⟩;obtain⟨y,hy,e⟩:=sortW_mem hx;obtain⟨a,b,h1,h2,rfl⟩:=sepT_mem (Nat.le_refl _) hy;rw[e];exact(h.least (s:=a) (t:=b) (by omega) h2 (by omega)).2.1
theorem Mnl.w5_new{m:Mach}(h:Mnl m)(hn:m.rows.length≤6)(hne:0<(wL m).length):PureNew prog 5 [.ag m.cells,.sc (.int .i64 m.rows.length)] 1 ((wL m).map rwC):=by
 have hrw:=h.p.v.rows;obtain⟨hK,h1,h16⟩:=h.p.v.insN;obtain⟨t1,t2⟩:=h.trL_ok;obtain⟨a1,a2⟩:=h.allW_ok;have t1:(trL m).length≤6*17:=Nat.le_trans t1 (Nat.mul_le_mul hn (by omega));have a1:(allW m).length≤6*6:=Nat.le_trans a1 (Nat.mul_le_mul hn hn);have hu1:(uptoW m.ins.toNat 1).length=1:=rfl;have f1:=fullL_len (allW m);have f2:∀x∈fullL (allW m),x.2.1.length<10:=fun x hx=>by
  rcases fullL_mem hx with e|e
  ·rw[e];simp
  ·have:=a2 x e;omega
 have c1:=catW_len (trL m) (uptoW m.ins.toNat 1);rw[hu1]at c1;have c2:∀x∈catW (trL m) (uptoW m.ins.toNat 1),x.2.1.length<20:=fun x hx=>by
  obtain⟨y,hy,z,hz,rfl⟩:=catW_mem hx;have:=t2 y hy;have:=uptoW_short z hz;simp;omega
 have d1:=catW_len (catW (trL m) (uptoW m.ins.toNat 1)) (fullL (allW m));have d2:=Nat.mul_le_mul (show(catW (trL m) (uptoW m.ins.toNat 1)).length≤102 by omega) (show(fullL (allW m)).length≤37 by omega);have d3:∀x∈wcL m,x.2.1.length<30:=fun x hx=>by
  obtain⟨y,hy,z,hz,rfl⟩:=catW_mem hx;have:=c2 y hy;have:=f2 z hz;simp;omega
 have hup:=upto15_is m.ins.toNat 0 h16 h1 (by omega);rw[hK]at hup;have hca:=concat16_is (trL m).isEmpty false (trL m) (uptoW m.ins.toNat 1) .unk .unk (by rw[hu1];omega) (by omega) (fun x hx=>by have:=t2 x hx;omega) (fun x hx=>by have:=uptoW_short x hx;omega);have hfu:=full_is (allW m) (by omega);have hcb:=concat16_is (catW (trL m) (uptoW m.ins.toNat 1)).isEmpty false (catW (trL m) (uptoW m.ins.toNat 1)) (fullL (allW m)) .unk .unk (by omega) (by omega) (fun x hx=>by have:=c2 x hx;omega) (fun x hx=>by have:=f2 x hx;omega);rw[show catW (catW (trL m) (uptoW m.ins.toNat 1)) (fullL (allW m))=wcL m from rfl]at hcb d1;have hre:=reduce18_new (wcL m).isEmpty (wcL m) .unk (by omega) (fun x hx=>by have:=d3 x hx;omega) hne;rw[show redW (wcL m)=wL m from rfl]at hre;have hz:((m.rows.length:Nat):Int)-((m.rows.length:Nat):Int)=((0:Nat):Int):=by omega
 refine PureNew.of (nv:=7) (hid:=[]) func5 rfl (by kernel_rfl) (by simp[ntmps5]) fun _=>?_;rw[ntmps5,results5];refine EvC.a ?_ (by simp only[go_sem,Mach.cells]<;>rfl);refine EvC.z 0 ?_;refine EvC.k1 ?_ (h1:=by simp only[go_sem,Mach.cells,hz]<;>rfl) (k1:=by simp;exact inI64_of (by omega) (by omega)) (c1:=.ca hup);refine EvC.k2 ?_ (h1:=by simp only[go_sem,Mach.cells]<;>rfl) (c1:=.ca (trans17_is h.p)) (h2:=by simp only[go_sem,Mach.cells]<;>rfl) (c2:=.ca hca);apply EvC.seq;apply EvC.tr
 ·apply Tr.run
  ·simp only[go_sem,Mach.cells]<;>rfl
  ·simp
  apply Tr.cons
  ·exact .ca (all20_is h)
  apply Tr.run
  ·simp only[go_sem,Mach.cells]<;>rfl
  ·simp
  apply Tr.cons
  ·exact .call rfl rfl (by simp only[go_sem]<;>rfl) (by simp only[go_sem]<;>rfl) (by simp only[go_sem]<;>rfl) (by simp only[go_sem]<;>rfl) (by simp only[go_sem]<;>rfl) hfu
  apply Tr.run
  ·simp only[go_sem]<;>rfl
  ·simp
  apply Tr.cons
  ·exact .call rfl rfl (by simp only[go_sem]<;>rfl) (by simp only[go_sem]<;>rfl) (by simp only[go_sem]<;>rfl) (by simp only[go_sem]<;>rfl) (by simp only[go_sem]<;>rfl) hcb
  apply Tr.run
  ·simp only[go_sem]<;>rfl
  ·simp
  apply Tr.cons
  ·exact .callN rfl rfl (by simp only[go_sem]<;>rfl) (by simp only[go_sem]<;>rfl) (by simp only[go_sem]<;>rfl) (by simp only[go_sem]<;>rfl) (by simp only[go_sem]<;>rfl) hre
  apply Tr.done
  ·simp only[go_sem]<;>rfl
  ·simp
 exact EvC.ret ⟨.inl rfl,_,21,(by simp only[go_sem]<;>rfl),.inl (by simp only[go_sem,List.length_map]<;>rfl),(by simp only[go_sem]<;>rfl),by rw[List.length_map];omega,norefs_rw _⟩
def numA(es:List Int)(k:Nat):Int:=(es[k]?).getD 0
theorem number49_is(nl:Bool)(es:List Int)(c:Cp)(k:Nat)(he:∀e∈es,0≤e∧e<65536):PureIs prog 49 [.sl nl (es.map u16C) c,.sc (.int .i64 k)] (.sc (.int .i64 (numA es k))):=by
 have hel:(es.map u16C).length=es.length:=List.length_map _;refine PureIs.of1 2 [4,8] func49 ntmps49 results49 fun _=>?_;refine EvC.a ?_;refine EvC.seq ?_;refine EvC.a ?_ (by simp only[go_sem,hel]<;>rfl);by_cases hk:k<es.length
 ·have hkt:((k:Nat):Int).toNat=k:=Int.toNat_natCast k;have hg:es[k]?=some (es[k]'hk):=List.getElem?_eq_getElem hk;have hx:=he _ (List.getElem_mem hk);have hv:numA es k=es[k]'hk:=by unfold numA;rw[hg];rfl
  rw[hv];generalize es[k]'hk=x at hg hx;have hI:inI64 x=true:=inI64_of (by omega) (by omega);have d1:decide ((k:Int)<(es.length:Int))=true:=decide_eq_true (by omega);refine EvC.ct ?_ (by simp only[go_sem,d1]<;>rfl);refine EvC.a ?_ (by simp only[go_sem,hg,u16C,hkt,hel]<;>rfl) (by simp[hI];try omega);refine EvC.rz ?_;simp only[go_sem]
 ·have d1:decide ((k:Int)<(es.length:Int))=false:=decide_eq_false (by omega);refine EvC.cs ?_ (by simp only[go_sem,d1]<;>rfl);refine EvC.a ?_;have hv:numA es k=0:=by unfold numA;rw[List.getElem?_eq_none (by omega)];rfl
  rw[hv];refine EvC.rz ?_;simp only[go_sem]
structure CM where
 st:Int
 ins:Int
 outs:Int
 tn:Bool
 tr:List Int
 tc:Cp
 en:Bool
 es:List Int
 ec:Cp
def CM.cells(x:CM):List AV:=[.sc (.int .u8 x.st),.sc (.int .u8 x.ins),.sc (.int .u8 x.outs),.sl x.tn (x.tr.map u8C) x.tc,.sl x.en (x.es.map u16C) x.ec]
structure CM.Ok (x:CM):Prop where
 st:0≤x.st
 ins:0≤x.ins
 outs:0≤x.outs
 tr:∀e∈x.tr,0≤e∧e<256
 es:∀e∈x.es,0≤e∧e<65536
def CM.n(x:CM):Nat:=(1+x.st%6).toNat
def CM.i(x:CM):Nat:=(1+x.ins%3).toNat
def CM.o(x:CM):Int:=1+x.outs%3
theorem CM.bounds{x:CM}(h:x.Ok):1≤x.n∧x.n≤6∧1≤x.i∧x.i≤3∧1≤x.o∧x.o≤3∧(x.n:Int)=1+x.st%6∧(x.i:Int)=1+x.ins%3:=by
 have h1:=h.st;have h2:=h.ins;have h3:=h.outs;unfold CM.n CM.i CM.o;omega
theorem numA_ok{es:List Int}(h:∀e∈es,0≤e∧e<65536)(k:Nat):0≤numA es k∧numA es k<65536:=by
 unfold numA;cases he:es[k]? with
 | none=>simp
 | some e=>exact h e (List.mem_of_getElem? he)
def CM.out(x:CM)(s i:Nat):Int:=numA x.es (s*x.i+i)/x.n%x.o
def CM.w0(x:CM)(s i:Nat):Int×Int:=(-1,x.out s i)
def freeL(W:Nat→Nat→Int×Int)(I n:Nat):List Nat:=(List.range n).filter fun k=>decide ((W (k/I) (k%I)).1<0)
theorem freeL_succ(W:Nat→Nat→Int×Int)(I n:Nat):freeL W I (n+1)=if(W (n/I) (n%I)).1<0 then freeL W I n++[n]else freeL W I n:=by
 unfold freeL;rw[List.range_succ,List.filter_append,List.filter_cons,List.filter_nil];by_cases h:(W (n/I) (n%I)).1<0
 ·rw[if_pos h,if_pos (decide_eq_true h)]
 ·rw[if_neg h,if_neg (by simpa using h),List.append_nil]
theorem freeL_len(W:Nat→Nat→Int×Int)(I n:Nat):(freeL W I n).length≤n:=by
 have:=List.length_filter_le (fun k=>decide ((W (k/I) (k%I)).1<0)) (List.range n);simpa[freeL]using this
theorem mem_freeL{W:Nat→Nat→Int×Int}{I n k:Nat}:k∈freeL W I n↔k<n∧(W (k/I) (k%I)).1<0:=by simp[freeL]
def CM.pick(x:CM)(W:Nat→Nat→Int×Int)(s:Nat):Nat:=
 oA (freeL W x.i (s*x.i)) (if s-1<x.tr.length then(numA x.tr (s-1)%(freeL W x.i (s*x.i)).length).toNat else 0)
def CM.tree(x:CM):Nat→Nat→Nat→Int×Int
 | 0=>x.w0
 | j+1=>upd2 (x.tree j) (x.pick (x.tree j) (j+1)/x.i) (x.pick (x.tree j) (j+1)%x.i) ((j+1:Nat),x.out (x.pick (x.tree j) (j+1)/x.i) (x.pick (x.tree j) (j+1)%x.i))
theorem freeL_upd(W W':Nat→Nat→Int×Int)(I k:Nat)(h:∀j,j≠k→((W' (j/I) (j%I)).1<0↔(W (j/I) (j%I)).1<0)):∀n,(freeL W I n).length≤(freeL W' I n).length+(if k<n then 1 else 0)
 | 0=>by simp[freeL]
 | n+1=>by
   have ih:=freeL_upd W W' I k h n;rw[freeL_succ,freeL_succ];by_cases e:n=k
   ·subst e;rw[if_neg (Nat.lt_irrefl _)]at ih;rw[if_pos (Nat.lt_succ_self _)];split<;>split<;>simp<;>omega
   ·have:=h n e;have hle:(if k<n then 1 else 0)≤(if k<n+1 then 1 else 0):=by split<;>split<;>omega
    by_cases hw:(W (n/I) (n%I)).1<0
    ·rw[if_pos hw,if_pos (this.2 hw)];simp;omega
    ·rw[if_neg hw,if_neg (fun h'=>hw (this.1 h'))];omega
structure CM.TI (x:CM) (j:Nat) (W:Nat→Nat→Int×Int):Prop where
 out:∀s i,(W s i).2=x.out s i
 to:∀s i,(W s i).1=-1∨(1≤(W s i).1∧(W s i).1≤j)
 all:∀t:Nat,1≤t→t≤j→∃s i,s<t∧i<x.i∧(W s i).1=(t:Int)
 free:∀n,n≤(freeL W x.i n).length+j
theorem oA_mem{l:List Nat}{j:Nat}(h:j<l.length):oA l j∈l:=by unfold oA;rw[List.getElem?_eq_getElem h];exact List.getElem_mem _
theorem CM.pick_ok{x:CM}(hx:x.Ok){W:Nat→Nat→Int×Int}{j:Nat}(h:x.TI j W):x.pick W (j+1)<(j+1)*x.i∧(W (x.pick W (j+1)/x.i) (x.pick W (j+1)%x.i)).1<0∧0<(freeL W x.i ((j+1)*x.i)).length:=by
 obtain⟨_,_,b3,_⟩:=CM.bounds hx;have hf:=h.free ((j+1)*x.i);have hm:(j+1)*1≤(j+1)*x.i:=Nat.mul_le_mul_left _ b3;have hpos:0<(freeL W x.i ((j+1)*x.i)).length:=by omega
 have:=mem_freeL.1 (oA_mem (l:=freeL W x.i ((j+1)*x.i)) (j:=if j+1-1<x.tr.length then(numA x.tr (j+1-1)%(freeL W x.i ((j+1)*x.i)).length).toNat else 0) (by
  split
  ·have:=Int.emod_nonneg (numA x.tr (j+1-1)) (show((freeL W x.i ((j+1)*x.i)).length:Int)≠0 by omega);have:=Int.emod_lt_of_pos (numA x.tr (j+1-1)) (show 0<((freeL W x.i ((j+1)*x.i)).length:Int) by omega);omega
  ·exact hpos))
 exact⟨this.1,this.2,hpos⟩
theorem CM.ti{x:CM}(hx:x.Ok):∀j,x.TI j (x.tree j)
 | 0=>⟨fun _ _=>rfl,fun _ _=>.inl rfl,fun t h1 h2=>by omega,fun n=>by
   have:∀n,(freeL x.w0 x.i n).length=n:=fun n=>by
    induction n with
    | zero=>rfl
    | succ n ih=>rw[freeL_succ,if_pos (by simp[CM.w0]),List.length_append,ih];rfl
   rw[show x.tree 0=x.w0 from rfl,this];omega⟩
 | j+1=>by
   have ih:=CM.ti hx j;obtain⟨p1,p2,_⟩:=CM.pick_ok hx ih;obtain⟨_,_,b3,_⟩:=CM.bounds hx;rw[CM.tree];generalize x.tree j=W at ih p1 p2;generalize x.pick W (j+1)=k at p1 p2;have hks:k/x.i<j+1:=Nat.div_lt_of_lt_mul (by rw[Nat.mul_comm];exact p1);have hki:k%x.i<x.i:=Nat.mod_lt _ (by omega);refine⟨fun s i=>?_,fun s i=>?_,fun t h1 h2=>?_,fun n=>?_⟩
   ·unfold upd2;split
    ·rename_i e;rw[e.1,e.2]
    ·exact ih.out s i
   ·unfold upd2;split
    ·right;simp only;omega
    ·rcases ih.to s i with h|h
     ·exact .inl h
     ·exact .inr (by omega)
   ·by_cases e:t=j+1
    ·subst e;exact⟨k/x.i,k%x.i,hks,hki,by unfold upd2;rw[if_pos ⟨rfl,rfl⟩]⟩
    ·obtain⟨s,i,q1,q2,q3⟩:=ih.all t h1 (by omega);refine⟨s,i,q1,q2,?_⟩;unfold upd2;rw[if_neg (fun e=>by rw[e.1,e.2]at q3;omega)];exact q3
   ·have h1:=ih.free n;have h2:=freeL_upd W (upd2 W (k/x.i) (k%x.i) ((j+1:Nat),x.out (k/x.i) (k%x.i))) x.i k (fun j' hj=>by
     unfold upd2;rw[if_neg (fun e=>hj (by rw[←Nat.div_add_mod j' x.i,←Nat.div_add_mod k x.i,e.1,e.2]))]) n
    have:(if k<n then 1 else 0)≤1:=by split<;>omega
    omega
def CM.fill(x:CM)(W:Nat→Nat→Int×Int)(s i:Nat):Int×Int:=if(W s i).1<0 then(numA x.es (s*x.i+i)%x.n,(W s i).2)else W s i
def CM.mach(x:CM):Mach:=⟨x.i,x.o,false,(List.range x.n).map fun s=>(false,(List.range x.i).map (x.fill (x.tree (x.n-1)) s))⟩
theorem CM.row{x:CM}{s:Nat}(hs:s<x.n):x.mach.rows[s]?=some (false,(List.range x.i).map (x.fill (x.tree (x.n-1)) s)):=by
 rw[CM.mach,List.getElem?_map,List.getElem?_range hs];rfl
theorem CM.rowN{x:CM}{s i:Nat}(hs:s<x.n)(hi:i<x.i):ex (rowN x.mach s) i=x.fill (x.tree (x.n-1)) s i:=by
 simp only[ex,Avl.rowN,CM.row hs,Option.map_some,Option.getD_some,List.getElem?_map,List.getElem?_range hi]
theorem CM.len(x:CM):x.mach.rows.length=x.n:=by simp[CM.mach]
theorem CM.fill_ok{x:CM}(hx:x.Ok)(s i:Nat):0≤(x.fill (x.tree (x.n-1)) s i).1∧(x.fill (x.tree (x.n-1)) s i).1<x.n∧0≤(x.fill (x.tree (x.n-1)) s i).2∧(x.fill (x.tree (x.n-1)) s i).2<x.o:=by
 obtain⟨b1,b2,b3,b4,b5,b6,b7,b8⟩:=CM.bounds hx;have ti:=CM.ti hx (x.n-1);have h1:=ti.to s i;have h2:=ti.out s i;have h3:0≤x.out s i∧x.out s i<x.o:=⟨Int.emod_nonneg _ (by omega),Int.emod_lt_of_pos _ (by omega)⟩;unfold CM.fill;split
 ·refine⟨Int.emod_nonneg _ (by omega),Int.emod_lt_of_pos _ (by omega),?_,?_⟩<;>simp only<;>omega
 ·omega
theorem CM.prp{x:CM}(hx:x.Ok):Prp x.mach:=by
 obtain⟨b1,b2,b3,b4,b5,b6,b7,b8⟩:=CM.bounds hx;have hl:=CM.len x;have hi:x.mach.ins=x.i:=rfl;have ho:x.mach.outs=x.o:=rfl;refine⟨⟨by rw[hi];omega,by rw[ho];omega,by omega,fun r hr=>?_⟩,fun s i hs hi'=>?_,fun t h0 ht=>?_⟩
 ·obtain⟨s,hs,rfl⟩:=List.mem_map.1 hr;refine⟨by rw[hi];simp,fun e he=>?_⟩;obtain⟨i,_,rfl⟩:=List.mem_map.1 he;have:=CM.fill_ok hx s i;rw[hl,ho];unfold fitsR;simp only[Bool.or_eq_true,Bool.and_eq_true,decide_eq_true_eq];right;omega
 ·rw[hi]at hi';rw[CM.rowN (by omega) (by omega)];have:=CM.fill_ok hx s i;exact⟨(x.fill (x.tree (x.n-1)) s i).1.toNat,by omega,by omega⟩
 ·obtain⟨s,i,h1,h2,h3⟩:=(CM.ti hx (x.n-1)).all t (by omega) (by omega);refine⟨s,i,h1,by rw[hi];omega,?_⟩;rw[CM.rowN (by omega) h2];unfold CM.fill;rw[if_neg (by omega),h3]
def cofM(x:CM)(s:Nat)(W:Nat→Nat→Int×Int):Mem:=
 (1000000,.cells [.sc (.int .i64 0),.sc (.int .i64 0),.sl true [] .zer])::(1000001,.cells [.sc (.int .i64 x.i),.sc (.int .i64 x.o),.tl 1000002 s (s==0)])::(1000002,.arr 1 (ocell x.i s) false)::otab 2 edgeC W s x.i
set_option maxHeartbeats 16000000 in
theorem cof14_is{x:CM}(h:x.Ok):PureIs prog 14 [.ag x.cells] (.ag x.mach.cells):=by
 obtain⟨b1,b2,b3,b4,b5,b6,b7,b8⟩:=CM.bounds h;have h1:=h.st;have h2:=h.ins;have h3:=h.outs;have hO:x.o=1+x.outs%3:=rfl;refine PureIs.of1 15 [64,33,39,69,77,95,108,139,145,157] func14 ntmps14 results14 fun _=>?_;refine EvC.a ?_ (by simp only[go_sem,CM.cells]<;>rfl);refine EvC.z 0 ?_;refine EvC.a ?_ (hok:=by simp[h1];exact⟨inI64_of (by omega) (by omega),inI64_of (by omega) (by omega)⟩);refine EvC.a ?_ (hok:=by simp[h2,h3];exact⟨⟨⟨inI64_of (by omega) (by omega),inI64_of (by omega) (by omega)⟩,inI64_of (by omega) (by omega)⟩,inI64_of (by omega) (by omega)⟩);refine EvC.seq ?_;refine EvC.a ?_;refine EvC.ownC 19 2 1 (by simp only[go_sem]<;>rfl) ?_;refine EvC.thaw 22 (by simp only[go_sem]<;>rfl) ?_;refine EvC.block ?_;refine EvC.loopS (σ:=Nat) (fun s=>⟨[(1,.ia x.cells),(2,.rf 1000000 0),(3,.sc (.int .i64 x.n)),(4,.rf 1000001 0),(5,.sc (.int .i64 s))],[],cofM x s x.w0,3000000⟩) (fun s=>x.n-s) (fun s=>s≤x.n) [1,2,3,4,5] 3000000 ?_ ?_
 ·exact⟨[(1,1000000),(19,1000001),(22,1000002)],0,rfl,(by unfold cofM;simp only[go_sem,CM.cells,←b7,←b8,←hO,ocell,otab_zero,List.range_zero,List.map_nil,Int.natCast_zero]<;>rfl),Nat.zero_le _⟩
 intro s hs;have hn1:s≤1000000:=by omega
 have hml:=ocell_len x.i s;unfold cofM;refine EvC.seq ?_;refine EvC.a ?_;refine EvC.cd (fun hc=>?_) (fun hc=>?_);rotate_left
 ·refine EvC.exit ?_;obtain rfl:s=x.n:=by have:¬s<x.n:=(by simpa using hc);omega
  refine EvC.seq ?_;refine EvC.a ?_;have hlo:∀{A B:List (Nat×Nat)},(A.all fun p=>notO p.1)=true→∀k,k<x.n→rlook (osegK A x.n B) (2000000+k)=some (2000000+k):=fun hA k hk=>rlook_osegK_lo hk hn1 hA;have hxn0:(x.n==0)=false:=beq_eq_false_iff_ne.2 (by omega);refine EvC.block ?_;refine EvC.loopS (σ:=Nat) (fun s=>⟨[(1,.ia x.cells),(2,.rf 1000000 0),(3,.sc (.int .i64 x.n)),(4,.rf 1000001 0),(9,.sc (.int .i64 s))],[],cofM x x.n (x.tree (s-1)),3000000⟩) (fun s=>x.n-s) (fun s=>1≤s∧s≤x.n) [1,2,3,4,9] 3000000 ?_ ?_
  ·refine⟨osegK [(1000000,1000000),(1000001,1000001),(1000002,1000002)] x.n [],1,osegK_ok (A:=[(1000000,1000000),(1000001,1000001),(1000002,1000002)]) rfl rfl rfl hn1 (by omega),?_,by omega,by omega⟩;have hlo:=hlo (A:=[(1000000,1000000),(1000001,1000001),(1000002,1000002)]) (B:=[]) rfl;have ht0:x.tree (1-1)=x.w0:=rfl;rw[ht0];unfold cofM;simp only[go_sem,rlook_osegK_hi hn1,List.cons_append,List.nil_append,List.append_nil,renMem_oK_cons hn1,otab_ren 2 norefs_edgeC,ocell_ren hlo,ite_self,if_true,Int.natCast_one,CM.cells]<;>rfl
  clear hs;rintro s ⟨hs1,hs⟩;obtain⟨j,hsj⟩:∃j,s=j+1:=⟨s-1,by omega⟩;have hj1:s-1=j:=by omega
  have ti:=CM.ti h j;have hpk:=CM.pick_ok h ti;have htr:x.tree (j+1)=upd2 (x.tree j) (x.pick (x.tree j) (j+1)/x.i) (x.pick (x.tree j) (j+1)%x.i) ((j+1:Nat),x.out (x.pick (x.tree j) (j+1)/x.i) (x.pick (x.tree j) (j+1)%x.i)):=rfl;have hpd:x.pick (x.tree j) (j+1)=oA (freeL (x.tree j) x.i ((j+1)*x.i)) (if j<x.tr.length then(numA x.tr j%(freeL (x.tree j) x.i ((j+1)*x.i)).length).toNat else 0):=rfl;rw[hj1];rw[←hsj]at hpk htr hpd;have hWs:x.tree (s+1-1)=x.tree s:=rfl;generalize x.tree s=W' at htr hWs;have tio:=ti.out;obtain⟨W,hWe⟩:∃W,W=x.tree j:=⟨_,rfl⟩;rw[←hWe]at ti hpk htr hpd tio⊢;generalize x.pick W s=p at hpk htr hpd;obtain⟨hp1,hp2,hp3⟩:=hpk;unfold cofM;refine EvC.seq ?_;refine EvC.a ?_;refine EvC.cd (fun hc=>?_) (fun hc=>?_);rotate_left
  ·refine EvC.exit ?_;obtain rfl:s=x.n:=by have:¬s<x.n:=(by simpa using hc);omega
   have hjn:j=x.n-1:=by omega
   rw[hjn]at hWe;refine EvC.seq ?_;refine EvC.a ?_;have hlo3:=hlo (A:=[(1000000,1000000),(1000001,1000001),(1000002,1000002)]) (B:=[]) rfl;have hgk:gcOk 0 3000000 (osegK [(1000000,1000000),(1000001,1000001),(1000002,1000002)] x.n [])=true:=osegK_ok (A:=[(1000000,1000000),(1000001,1000001),(1000002,1000002)]) rfl rfl rfl hn1 (by omega);refine EvC.block ?_;refine EvC.loopS (σ:=Nat×(Nat→Nat→Int×Int)) (fun g=>⟨[(1,.ia x.cells),(2,.rf 1000000 0),(3,.sc (.int .i64 x.n)),(4,.rf 1000001 0),(13,.sc (.int .i64 g.1))],[],cofM x x.n g.2,3000000⟩) (fun g=>x.n-g.1)
    (fun g=>g.1≤x.n∧∀a b,b<x.i→g.2 a b=if a<g.1 then x.fill W a b else W a b) [1,2,3,4,13] 3000000 ?_ ?_
   ·refine⟨_,(0,W),hgk,?_,Nat.zero_le _,fun a b _=>by rw[if_neg (Nat.not_lt_zero _)]⟩;unfold cofM;simp only[go_sem,rlook_osegK_hi hn1,List.cons_append,List.nil_append,List.append_nil,renMem_oK_cons hn1,otab_ren 2 norefs_edgeC,ocell_ren hlo3,ite_self,if_true,CM.cells,Int.natCast_zero]<;>rfl
   rintro⟨s,V⟩ ⟨hs,hV⟩;simp only at hs hV;unfold cofM;refine EvC.seq ?_;refine EvC.a ?_;refine EvC.cd (fun hc=>?_) (fun hc=>?_);rotate_left
   ·refine EvC.exit ?_;obtain rfl:s=x.n:=by have:¬s<x.n:=(by simpa using hc);omega
    refine EvC.ofzAll x.n (fun i hi=>⟨2,gcells edgeC (V i) x.i,false,by simp only[mlook,o_ne (show i<1000000 by omega),if_false,otab_look 2 edgeC V hi,go_sem],gcells_norefs norefs_edgeC _ _⟩) ?_;have hfz:=otab_fz 2 edgeC V x.n x.i;obtain⟨MM,hMM⟩:∃MM:Mem,MM=(1000000,.cells [.sc (.int .i64 0),.sc (.int .i64 0),.sl true [] .zer])::(1000001,.cells [.sc (.int .i64 x.i),.sc (.int .i64 x.o),.tl 1000002 x.n (x.n==0)])::(1000002,.arr 1 (ocell x.i x.n) false)::otabF 2 edgeC V x.n x.i:=⟨_,rfl⟩;obtain⟨RR,hRR⟩:∃RR:List (List AV),RR=(List.range x.n).map fun s=>[AV.sl false (gcells edgeC (V s) x.i) .unk]:=⟨_,rfl⟩;have hsn:(ocell x.i x.n).map (fun c=>c.map (AV.deep (snap MM)))=RR:=by
     rw[hRR];exact ocell_snap (e:=2) (row:=fun s=>gcells edgeC (V s) x.i) (fun s hs=>by
      rw[hMM];simp only[mlook,o_ne (show s<1000000 by omega),if_false,otabF_look 2 edgeC V hs,go_sem]) (fun s _=>gcells_len _ _ _)
    rw[hMM]at hsn;have hvl:RR.length=x.n:=by rw[hRR];simp
    have hvn:RR.all AV.norefs=true:=by rw[hRR];simp[List.all_eq_true,AV.norefs,AV.noref]
    have hmF:∀f,memMap f (otabF 2 edgeC V x.n x.i)=otabF 2 edgeC V x.n x.i:=fun f=>by rw[otabF,memMap_msegA,List.map_map];rfl
    refine EvC.snapA 1000002 (by simp only[go_sem,ofzAll_cons hn1,hfz,hsn]<;>rfl) ?_;refine EvC.frzD 1000002 (by simp only[go_sem,hvn,hvl,hmF]<;>rfl) ?_;refine EvC.a ?_;refine EvC.rz ?_;simp only[go_sem];have hRe:RR=x.mach.rows.map rowC:=by
     rw[hRR,CM.mach,List.map_map];refine List.map_congr_left fun s hs=>?_;have hs:=List.mem_range.1 hs;simp only[Function.comp,rowC,List.map_map];congr 2;refine List.map_congr_left fun b hb=>?_;simp only[Function.comp];rw[hV s b (List.mem_range.1 hb),if_pos hs,hWe]
    rw[hxn0,hRe];rfl
   have hsl:s<x.n:=by simpa using hc
   clear hc;refine EvC.skip ?_;refine EvC.seq ?_;refine EvC.block ?_;refine EvC.a ?_;refine EvC.block ?_;refine EvC.loopS (σ:=Nat×(Nat→Nat→Int×Int)) (fun g=>⟨[(1,.ia x.cells),(2,.rf 1000000 0),(3,.sc (.int .i64 x.n)),(4,.rf 1000001 0),(13,.sc (.int .i64 s)),(14,.sc (.int .i64 g.1))],[],cofM x x.n g.2,3000000⟩) (fun g=>x.i-g.1)
    (fun g=>g.1≤x.i∧∀a b,b<x.i→g.2 a b=if a<s∨(a=s∧b<g.1)then x.fill W a b else W a b) [1,2,3,4,13,14] 3000000 ?_ ?_
   ·refine⟨_,(0,V),hgk,?_,Nat.zero_le _,fun a b hb=>?_⟩
    ·unfold cofM;simp only[go_sem,rlook_osegK_hi hn1,List.cons_append,List.nil_append,List.append_nil,renMem_oK_cons hn1,otab_ren 2 norefs_edgeC,ocell_ren hlo3,ite_self,if_true,CM.cells,Int.natCast_zero]<;>rfl
    ·have e:(a<s∨(a=s∧b<0))↔a<s:=⟨fun h=>by omega,fun h=>.inl h⟩;simp only[e];exact hV a b hb
   clear hV;rintro⟨i,V⟩ ⟨hi,hV⟩;simp only at hi hV;unfold cofM;refine EvC.seq ?_;refine EvC.a ?_;refine EvC.cd (fun hc=>?_) (fun hc=>?_);rotate_left
   ·refine EvC.exit ?_;obtain rfl:i=x.i:=by have:¬i<x.i:=(by simpa using hc);omega
    refine EvC.bi ?_;refine⟨_,(s+1,V),hgk,?_,⟨hsl,fun a b hb=>?_⟩,by simp only;omega⟩
    ·simp only[go_sem,rlook_osegK_hi hn1,List.cons_append,List.nil_append,List.append_nil,renMem_oK_cons hn1,otab_ren 2 norefs_edgeC,ocell_ren hlo3,ite_self,if_true,CM.cells,Int.natCast_add,Int.natCast_one]<;>rfl
    ·have e:(a<s∨(a=s∧b<x.i))↔a<s+1:=⟨fun h=>by omega,fun h=>by omega⟩;dsimp only;rw[hV a b hb];simp only[e]
   have hil:i<x.i:=by simpa using hc
   clear hc;have hst:((s:Nat):Int).toNat=s:=Int.toNat_natCast s;have hit:((i:Nat):Int).toNat=i:=Int.toNat_natCast i;have htp:=ocell_get (m:=x.i) hsl;have htl:=ocell_len x.i x.n;have hlp:=otab_look 2 edgeC V (m:=x.i) hsl;have hgp:=gcells_get edgeC (V s) hil;have hVs:V s i=W s i:=by rw[hV s i hil,if_neg (by omega)]
   rw[hVs]at hgp;have hgl:=gcells_len edgeC (V s) x.i;have hoa:=o_ne (s:=s) (by omega);refine EvC.skip ?_;refine EvC.seq ?_;refine EvC.block ?_;refine EvC.a ?_ (by simp only[go_sem,htp,htl,hst,hit,hoa,hlp,hgp,hgl,edgeC]<;>rfl) (by simp;try omega);by_cases hw:(W s i).1<0
   ·have hfi:x.fill W s i=(numA x.es (s*x.i+i)%x.n,(W s i).2):=by unfold CM.fill;rw[if_pos hw]
    have hsi:(0:Int)≤(s:Int)*x.i:=Int.mul_nonneg (by omega) (by omega);have hsi2:(s:Int)*x.i≤18:=by
     have:s*x.i≤6*3:=Nat.mul_le_mul (by omega) (by omega);have:=Int.ofNat_le.2 this;simpa using this
    have hk:((s*x.i+i:Nat):Int)=(s:Int)*x.i+i:=by simp
    have hnum:=number49_is x.en x.es x.ec (s*x.i+i) h.es;rw[hk]at hnum;have hv:=numA_ok h.es (s*x.i+i);generalize numA x.es (s*x.i+i)=v at hnum hv hfi;have hIm:inI64 ((s:Int)*x.i)=true:=inI64_of (by omega) (by omega);have hIk:inI64 ((s:Int)*x.i+i)=true:=inI64_of (by omega) (by omega);have hq1:=Int.emod_nonneg v (show(x.n:Int)≠0 by omega);have hq2:=Int.emod_lt_of_pos v (show 0<(x.n:Int) by omega);have hIq:inI64 (v%x.n)=true:=inI64_of (by omega) (by omega);have hset:mset (otab 2 edgeC V x.n x.i) (2000000+s) (.arr 2 ((gcells edgeC (V s) x.i).set i [.sc (.int .i64 (v%x.n)),.sc (.int .i64 (W s i).2)]) false)=otab 2 edgeC (upd2 V s i (v%x.n,(W s i).2)) x.n x.i:=otab_set 2 edgeC V (m:=x.i) (v%x.n,(W s i).2) hsl hil;refine EvC.ct ?_ (by simp only[go_sem,decide_eq_true hw]<;>rfl);apply EvC.drwA mixed
    ·apply Tr.run
     ·simp only[go_sem,htp,htl,hst,hit,hoa,hlp,hgp,hgl,edgeC,CM.cells]<;>rfl
     ·simp[hIm,hIk];try omega
     apply Tr.cons
     ·exact .ca (hnum)
     apply Tr.done
     ·simp only[go_sem,htp,htl,hst,hit,hoa,hlp,hgp,hgl,hset,edgeC,mlook_mset]<;>rfl
     ·simp[hv.1,hIq];try omega
    ·exact confAllA_slots (by simp[rdOk,slotsOf,opSlots,memless,Op.operands,Call.operands]) (by kernel_rfl)
    refine EvC.bi ?_;refine⟨_,(i+1,upd2 V s i (v%x.n,(W s i).2)),hgk,?_,⟨hil,fun a b hb=>?_⟩,by simp only;omega⟩
    ·simp only[go_sem,rlook_osegK_hi hn1,List.cons_append,List.nil_append,List.append_nil,renMem_oK_cons hn1,otab_ren 2 norefs_edgeC,ocell_ren hlo3,ite_self,if_true,CM.cells,Int.natCast_add,Int.natCast_one]<;>rfl
    ·unfold upd2;dsimp only;by_cases e:a=s∧b=i
     ·rw[if_pos e,e.1,e.2,hfi,if_pos (.inr ⟨rfl,Nat.lt_succ_self i⟩)]
     ·rw[if_neg e,hV a b hb];have e2:(a<s∨(a=s∧b<i))↔(a<s∨(a=s∧b<i+1)):=⟨fun h=>by omega,fun h=>by omega⟩;simp only[e2]
   ·have hfi:x.fill W s i=W s i:=by unfold CM.fill;rw[if_neg hw]
    refine EvC.cs ?_ (by simp only[go_sem,decide_eq_false hw]<;>rfl);refine EvC.bi ?_;refine⟨_,(i+1,V),hgk,?_,⟨hil,fun a b hb=>?_⟩,by simp only;omega⟩
    ·simp only[go_sem,rlook_osegK_hi hn1,List.cons_append,List.nil_append,List.append_nil,renMem_oK_cons hn1,otab_ren 2 norefs_edgeC,ocell_ren hlo3,ite_self,if_true,CM.cells,Int.natCast_add,Int.natCast_one]<;>rfl
    ·dsimp only;rw[hV a b hb];by_cases e:a=s∧b=i
     ·rw[e.1,e.2,hfi];simp
     ·have e2:(a<s∨(a=s∧b<i))↔(a<s∨(a=s∧b<i+1)):=⟨fun h=>by omega,fun h=>by omega⟩;simp only[e2]
  have hsl:s<x.n:=by simpa using hc
  clear hc;have hsI:s*x.i≤18:=Nat.mul_le_mul (show s≤6 by omega) b4;have hsI2:((s*x.i:Nat):Int)=(s:Int)*x.i:=by simp
  have hIm:inI64 ((s:Int)*x.i)=true:=inI64_of (by omega) (by omega);refine EvC.skip ?_;refine EvC.seq ?_;refine EvC.block ?_;refine EvC.a ?_;refine EvC.seq ?_;refine EvC.a ?_;refine EvC.block ?_;refine EvC.loopS (σ:=Nat) (fun k=>⟨[(1,.ia x.cells),(2,.rf 1000000 0),(3,.sc (.int .i64 x.n)),(4,.rf 1000001 0),(9,.sc (.int .i64 s)),(10,.tl 3000000 (freeL W x.i k).length (decide ((freeL W x.i k).length=0))),(11,.sc (.int .i64 k))],[],(3000000,.arr 1 ((freeL W x.i k).map natC) true)::cofM x x.n W,3000001⟩) (fun k=>s*x.i-k) (fun k=>k≤s*x.i) [1,2,3,4,9,10,11] 3000001 ?_ ?_
  ·refine⟨osegK [(3000003,3000000),(1000000,1000000),(1000001,1000001),(1000002,1000002)] x.n [],0,osegK_ok (A:=[(3000003,3000000),(1000000,1000000),(1000001,1000001),(1000002,1000002)]) rfl rfl rfl hn1 (by omega),?_,Nat.zero_le _⟩;have hlo:=hlo (A:=[(3000003,3000000),(1000000,1000000),(1000001,1000001),(1000002,1000002)]) (B:=[]) rfl;have hz:freeL W x.i 0=[]:=rfl;rw[hz];unfold cofM;simp only[go_sem,rlook_osegK_hi hn1,List.cons_append,List.nil_append,List.append_nil,renMem_oK_cons hn1,otab_ren 2 norefs_edgeC,ocell_ren hlo,ite_self,if_true,List.length_nil,List.map_nil,Int.natCast_zero,CM.cells]<;>rfl
  intro k hk;have hfs:=freeL_succ W x.i k;have hfl:=freeL_len W x.i k;unfold cofM;refine EvC.seq ?_;refine EvC.a ?_ (hok:=by simp[hIm]);refine EvC.cond (by simp only[go_sem]<;>rfl) (fun hd=>?_) (fun hd=>?_);rotate_left
  ·have hd:¬k<s*x.i:=by have:¬(k:Int)<(s:Int)*x.i:=(by simpa using hd);omega
   obtain rfl:k=s*x.i:=by omega
   refine EvC.exit ?_;obtain⟨F,hF⟩:∃F,F=freeL W x.i (s*x.i):=⟨_,rfl⟩;rw[←hF]at hp3 hpd hfl⊢;have hFc:(F.map natC).length=F.length:=List.length_map _;have hg0:(F.map natC)[0]?=some [.sc (.int .i64 (oA F 0:Nat))]:=nat_at hp3;have htrc:(x.tr.map u8C).length=x.tr.length:=List.length_map _;have hsj1:(s:Int)-1=(j:Int):=by omega
   have hIs:inI64 (j:Int)=true:=inI64_of (by omega) (by omega);have hps:p/x.i<x.n:=Nat.lt_of_lt_of_le (Nat.div_lt_of_lt_mul (by rw[Nat.mul_comm];exact hp1)) hs;have hpi:p%x.i<x.i:=Nat.mod_lt _ (by omega);have hkd:(p:Int)/(x.i:Int)=((p/x.i:Nat):Int):=(Int.natCast_ediv _ _).symm;have hkm:(p:Int)%(x.i:Int)=((p%x.i:Nat):Int):=(Int.natCast_emod _ _).symm;obtain⟨a,ha⟩:∃a,a=p/x.i:=⟨_,rfl⟩;obtain⟨b,hb⟩:∃b,b=p%x.i:=⟨_,rfl⟩;rw[←ha]at hps hkd htr;rw[←hb]at hpi hkm htr;have hat:((a:Nat):Int).toNat=a:=Int.toNat_natCast a;have hbt:((b:Nat):Int).toNat=b:=Int.toNat_natCast b;have htp:=ocell_get (m:=x.i) hps;have htl:=ocell_len x.i x.n;have hlp:=otab_look 2 edgeC W (m:=x.i) hps;have hgp:=gcells_get edgeC (W a) hpi;have hgl:=gcells_len edgeC (W a) x.i;have hoa:=o_ne (s:=a) (by omega);have hIa:inI64 (a:Int)=true:=inI64_of (by omega) (by omega);have hset:mset (otab 2 edgeC W x.n x.i) (2000000+a) (.arr 2 ((gcells edgeC (W a) x.i).set b [.sc (.int .i64 (s:Nat)),.sc (.int .i64 (W a b).2)]) false)=otab 2 edgeC W' x.n x.i:=by
    rw[htr,←tio a b];exact otab_set 2 edgeC W (m:=x.i) ((s:Nat),(W a b).2) hps hpi
   have hlo3:=hlo (A:=[(1000000,1000000),(1000001,1000001),(1000002,1000002)]) (B:=[]) rfl;have hgk:gcOk 0 3000000 (osegK [(1000000,1000000),(1000001,1000001),(1000002,1000002)] x.n [])=true:=osegK_ok (A:=[(1000000,1000000),(1000001,1000001),(1000002,1000002)]) rfl rfl rfl hn1 (by omega);generalize decide (F.length=0)=em;refine EvC.a ?_ (by simp only[go_sem,hg0,hFc]<;>rfl) (by simp;try omega);refine EvC.seq ?_;refine EvC.a ?_ (by simp only[go_sem,hsj1,htrc,CM.cells]<;>rfl) (by simp[hIs]);by_cases hjt:j<x.tr.length
   ·have hgj:x.tr[j]?=some (x.tr[j]'hjt):=List.getElem?_eq_getElem hjt;have hvj:=h.tr _ (List.getElem_mem hjt);have hnj:numA x.tr j=x.tr[j]'hjt:=by unfold numA;rw[hgj];rfl
    rw[if_pos hjt,hnj]at hpd;generalize x.tr[j]'hjt=v at hgj hvj hpd;have hq1:=Int.emod_nonneg v (show(F.length:Int)≠0 by omega);have hq2:=Int.emod_lt_of_pos v (show 0<(F.length:Int) by omega);have hgq:=nat_at (O:=F) (j:=(v%(F.length:Int)).toNat) (by omega);rw[←hpd]at hgq;have hjtt:((j:Nat):Int).toNat=j:=Int.toNat_natCast j;have hIv:inI64 v=true:=inI64_of (by omega) (by omega);have d1:decide ((j:Int)<(x.tr.length:Int))=true:=decide_eq_true (by omega);refine EvC.ct ?_ (by simp only[go_sem,d1]<;>rfl);refine EvC.b ?_ (by simp only[go_sem,hgj,u8C,hjtt,hsj1,htrc,hFc,hgq,CM.cells]<;>rfl) (by simp[hIs,hIv,hvj.1];try omega);apply EvC.drwA mixed
    ·apply Tr.done
     ·simp only[go_sem,htp,htl,hat,hbt,hkd,hkm,hoa,hlp,hgp,hgl,hset,edgeC,mlook_mset]<;>rfl
     ·simp[hIa];try omega
    ·exact confAllA_slots (by simp[rdOk,slotsOf,opSlots,memless,Op.operands,Call.operands]) (by kernel_rfl)
    refine EvC.bi ?_;refine⟨_,s+1,hgk,?_,by omega,by omega⟩;rw[hWs];simp only[go_sem,rlook_osegK_hi hn1,List.cons_append,List.nil_append,List.append_nil,renMem_oK_cons hn1,otab_ren 2 norefs_edgeC,ocell_ren hlo3,ite_self,if_true,CM.cells,Int.natCast_add,Int.natCast_one]<;>rfl
   rw[if_neg hjt]at hpd;rw[←hpd];have d1:decide ((j:Int)<(x.tr.length:Int))=false:=decide_eq_false (by omega);refine EvC.cs ?_ (by simp only[go_sem,d1]<;>rfl);apply EvC.drwA mixed
   ·apply Tr.done
    ·simp only[go_sem,htp,htl,hat,hbt,hkd,hkm,hoa,hlp,hgp,hgl,hset,edgeC,mlook_mset]<;>rfl
    ·simp[hIa];try omega
   ·exact confAllA_slots (by simp[rdOk,slotsOf,opSlots,memless,Op.operands,Call.operands]) (by kernel_rfl)
   refine EvC.bi ?_;refine⟨_,s+1,hgk,?_,by omega,by omega⟩;rw[hWs];simp only[go_sem,rlook_osegK_hi hn1,List.cons_append,List.nil_append,List.append_nil,renMem_oK_cons hn1,otab_ren 2 norefs_edgeC,ocell_ren hlo3,ite_self,if_true,CM.cells,Int.natCast_add,Int.natCast_one]<;>rfl
  have hkl:k<s*x.i:=by have:(k:Int)<(s:Int)*x.i:=(by simpa using hd);omega
  clear hd;have hks:k/x.i<x.n:=Nat.lt_of_lt_of_le (Nat.div_lt_of_lt_mul (by rw[Nat.mul_comm];exact hkl)) hs;have hki:k%x.i<x.i:=Nat.mod_lt _ (by omega);have hkd:(k:Int)/(x.i:Int)=((k/x.i:Nat):Int):=(Int.natCast_ediv _ _).symm;have hkm:(k:Int)%(x.i:Int)=((k%x.i:Nat):Int):=(Int.natCast_emod _ _).symm;obtain⟨a,ha⟩:∃a,a=k/x.i:=⟨_,rfl⟩;obtain⟨b,hb⟩:∃b,b=k%x.i:=⟨_,rfl⟩;rw[←ha]at hks hkd hfs;rw[←hb]at hki hkm hfs;have hat:((a:Nat):Int).toNat=a:=Int.toNat_natCast a;have hbt:((b:Nat):Int).toNat=b:=Int.toNat_natCast b;have htp:=ocell_get (m:=x.i) hks;have htl:=ocell_len x.i x.n;have hlp:=otab_look 2 edgeC W (m:=x.i) hks;have hgp:=gcells_get edgeC (W a) hki;have hgl:=gcells_len edgeC (W a) x.i;have hoa:=o_ne (s:=a) (by omega);have hIa:inI64 (a:Int)=true:=inI64_of (by omega) (by omega);refine EvC.skip ?_;refine EvC.seq ?_;refine EvC.block ?_;apply EvC.seq;apply EvC.drd mixed
  ·simp only[go_sem,htp,htl,hat,hbt,hkd,hkm,hoa,hlp,hgp,hgl,edgeC]<;>rfl
  ·simp[hIa];try omega
  ·exact confAll_slots (by simp[rdOk,slotsOf,opSlots,memless,Op.operands,Call.operands]) (by kernel_rfl)
  have hgk:gcOk 0 3000001 (osegK [(3000000,3000000),(1000000,1000000),(1000001,1000001),(1000002,1000002)] x.n [])=true:=osegK_ok (A:=[(3000000,3000000),(1000000,1000000),(1000001,1000001),(1000002,1000002)]) rfl rfl rfl hn1 (by omega);have hlo3:=hlo (A:=[(3000000,3000000),(1000000,1000000),(1000001,1000001),(1000002,1000002)]) (B:=[]) rfl;have hFc:((freeL W x.i k).map natC).length=(freeL W x.i k).length:=List.length_map _;by_cases hw:(W a b).1<0
  ·rw[if_pos hw]at hfs;have hm:(freeL W x.i k).map natC++[[.sc (.int .i64 (k:Nat))]]=(freeL W x.i (k+1)).map natC:=by rw[hfs,List.map_append];rfl
   have hle:(freeL W x.i (k+1)).length=(freeL W x.i k).length+1:=by rw[hfs];simp
   have he:decide ((freeL W x.i (k+1)).length=0)=false:=by rw[hle];simp
   have hFn:=norefs_nat (freeL W x.i (k+1));refine EvC.ct ?_ (by simp only[go_sem,decide_eq_true hw]<;>rfl);refine EvC.b ?_ (by simp only[go_sem,hFc,hm,mlook_mset]<;>rfl) (by simp[room_eq,hFc];try omega);refine EvC.bi ?_;refine⟨_,k+1,hgk,?_,by omega,by omega⟩;rw[he,hle];simp only[go_sem,hFn,rlook_osegK_hi hn1,List.cons_append,List.nil_append,List.append_nil,renMem_oK_cons hn1,otab_ren 2 norefs_edgeC,ocell_ren hlo3,ite_self,if_true,CM.cells,Int.natCast_add,Int.natCast_one]<;>rfl
  ·rw[if_neg hw]at hfs;have hFn:=norefs_nat (freeL W x.i k);refine EvC.cs ?_ (by simp only[go_sem,decide_eq_false hw]<;>rfl);refine EvC.bi ?_;refine⟨_,k+1,hgk,?_,by omega,by omega⟩;rw[hfs];generalize decide ((freeL W x.i k).length=0)=em;simp only[go_sem,hFn,rlook_osegK_hi hn1,List.cons_append,List.nil_append,List.append_nil,renMem_oK_cons hn1,otab_ren 2 norefs_edgeC,ocell_ren hlo3,ite_self,if_true,CM.cells,Int.natCast_add,Int.natCast_one]<;>rfl
 have hsl:s<x.n:=by simpa using hc
 clear hc;refine EvC.skip ?_;refine EvC.seq ?_;refine EvC.block ?_;refine EvC.a ?_;refine EvC.seq ?_;refine EvC.a ?_;refine EvC.thaw 3000003 (by simp only[go_sem]<;>rfl) ?_;refine EvC.block ?_;refine EvC.loopS (σ:=Nat) (fun i=>⟨[(1,.ia x.cells),(2,.rf 1000000 0),(3,.sc (.int .i64 x.n)),(4,.rf 1000001 0),(5,.sc (.int .i64 s)),(6,.tl 3000000 i (i==0)),(7,.sc (.int .i64 i))],[],(3000000,.arr 2 (gcells edgeC (x.w0 s) i) false)::cofM x s x.w0,3000001⟩) (fun i=>x.i-i) (fun i=>i≤x.i) [1,2,3,4,5,6,7] 3000001 ?_ ?_
 ·refine⟨osegK [(3000003,3000000),(1000000,1000000),(1000001,1000001),(1000002,1000002)] s [],0,osegK_ok (A:=[(3000003,3000000),(1000000,1000000),(1000001,1000001),(1000002,1000002)]) rfl rfl rfl hn1 (by omega),?_,Nat.zero_le _⟩;have hlo:∀k,k<s→rlook (osegK [(3000003,3000000),(1000000,1000000),(1000001,1000001),(1000002,1000002)] s []) (2000000+k)=some (2000000+k):=fun k hk=>rlook_osegK_lo hk hn1 (A:=[(3000003,3000000),(1000000,1000000),(1000001,1000001),(1000002,1000002)]) rfl;have hg0:gcells edgeC (x.w0 s) 0=[]:=rfl;unfold cofM;simp only[go_sem,hg0,rlook_osegK_hi hn1,List.cons_append,List.nil_append,List.append_nil,renMem_oK_cons hn1,otab_ren 2 norefs_edgeC,ocell_ren hlo,ite_self,if_true,Int.natCast_zero,CM.cells]<;>rfl
 intro i hi;have hgl:=gcells_len edgeC (x.w0 s) i;unfold cofM;refine EvC.seq ?_;refine EvC.a ?_;refine EvC.cd (fun hc=>?_) (fun hc=>?_);rotate_left
 ·refine EvC.exit ?_;obtain rfl:i=x.i:=by have:¬i<x.i:=(by simpa using hc);omega
  have hi0:(x.i==0)=false:=beq_eq_false_iff_ne.2 (by omega);have hs0:(s+1==0)=false:=rfl;rw[hi0];refine EvC.b ?_ (by simp only[go_sem,hml,hgl,mlook_mset]<;>rfl) (by simp[room_eq,hml,hgl];try omega);refine EvC.bi ?_;refine⟨osegK [(1000000,1000000),(1000001,1000001),(1000002,1000002)] s [(3000000,2000000+s)],s+1,osegK_ok1 (A:=[(1000000,1000000),(1000001,1000001),(1000002,1000002)]) rfl rfl rfl rfl rfl (by decide) (by decide) (by omega) (by omega),?_,by omega,by omega⟩;have hlo:∀k,k<s→rlook (osegK [(1000000,1000000),(1000001,1000001),(1000002,1000002)] s [(3000000,2000000+s)]) (2000000+k)=some (2000000+k):=fun k hk=>rlook_osegK_lo hk hn1 (A:=[(1000000,1000000),(1000001,1000001),(1000002,1000002)]) rfl;simp only[go_sem,hs0,rlook_osegK_hi hn1,List.cons_append,List.nil_append,renMem_oK_cons hn1,renMem_oK_mset hn1,mlook_mset,gcells_norefs norefs_edgeC,otab_ren 2 norefs_edgeC,otab_snoc,ocell_ren hlo,ocell_succ,List.all_append,List.map_append,Bool.and_false,CM.cells,Int.natCast_add,Int.natCast_one]<;>rfl
 have hil:i<x.i:=by simpa using hc
 clear hc;have hsi:(0:Int)≤(s:Int)*x.i:=Int.mul_nonneg (by omega) (by omega);have hsi2:(s:Int)*x.i≤18:=by
  have:s*x.i≤6*3:=Nat.mul_le_mul (by omega) (by omega);have:=Int.ofNat_le.2 this;simpa using this
 have hk:((s*x.i+i:Nat):Int)=(s:Int)*x.i+i:=by simp
 have hnum:=number49_is x.en x.es x.ec (s*x.i+i) h.es;rw[hk]at hnum;have hv:=numA_ok h.es (s*x.i+i);have hw:x.w0 s i=(-1,numA x.es (s*x.i+i)/x.n%x.o):=rfl;generalize numA x.es (s*x.i+i)=v at hnum hv hw;have hq1:0≤v/x.n:=Int.ediv_nonneg hv.1 (by omega);have hq2:v/x.n≤v:=Int.ediv_le_self _ hv.1;have hIm:inI64 ((s:Int)*x.i)=true:=inI64_of (by omega) (by omega);have hIk:inI64 ((s:Int)*x.i+i)=true:=inI64_of (by omega) (by omega);have hIq:inI64 (v/x.n)=true:=inI64_of (by omega) (by omega);have hgs:gcells edgeC (x.w0 s) i++[[.sc (.int .i64 (-1)),.sc (.int .i64 (v/x.n%x.o))]]=gcells edgeC (x.w0 s) (i+1):=by
  have:=gcells_snoc edgeC (x.w0 s) i;rw[hw]at this;exact this
 refine EvC.skip ?_;refine EvC.seq ?_;refine EvC.block ?_;refine EvC.k1 ?_ (h1:=by simp only[go_sem,CM.cells]<;>rfl) (k1:=by simp[hIm,hIk]) (c1:=.ca hnum);refine EvC.dL mixed ?_ (h:=by simp only[go_sem,hgl]<;>rfl) (hok:=by simp[room_eq,hgl,hv.1,hq1,hIq];omega);refine EvC.bi ?_;have hi0:(i+1==0)=false:=rfl;refine⟨osegK [(3000000,3000000),(1000000,1000000),(1000001,1000001),(1000002,1000002)] s [],i+1,osegK_ok (A:=[(3000000,3000000),(1000000,1000000),(1000001,1000001),(1000002,1000002)]) rfl rfl rfl hn1 (by omega),?_,by omega,by omega⟩;have hlo:∀k,k<s→rlook (osegK [(3000000,3000000),(1000000,1000000),(1000001,1000001),(1000002,1000002)] s []) (2000000+k)=some (2000000+k):=fun k hk=>rlook_osegK_lo hk hn1 (A:=[(3000000,3000000),(1000000,1000000),(1000001,1000001),(1000002,1000002)]) rfl;simp only[go_sem,hgs,hi0,gcells_norefs norefs_edgeC,rlook_osegK_hi hn1,List.cons_append,List.nil_append,List.append_nil,renMem_oK_cons hn1,otab_ren 2 norefs_edgeC,ocell_ren hlo,ite_self,if_true,CM.cells,Int.natCast_add,Int.natCast_one]<;>rfl
def CM.five(x:CM):CM:={ x with st:=x.st%5 }
theorem CM.five_ok{x:CM}(h:x.Ok):x.five.Ok:=⟨Int.emod_nonneg _ (by omega),h.ins,h.outs,h.tr,h.es⟩
theorem CM.five_n{x:CM}(h:x.Ok):x.five.n≤5:=by
 have:=h.st;unfold CM.n CM.five;simp only;omega
def CM.km(x:CM):Mach:=minM x.five.mach
theorem kof4_is{x:CM}(h:x.Ok):PureIs prog 4 [.ag x.cells] (.ag x.km.cells):=by
 have h1:=h.st;have h2:=cof14_is (CM.five_ok h);have h3:=minimal13_is (CM.prp (CM.five_ok h));have h4:x.five.cells=[.sc (.int .u8 (x.st%5)),.sc (.int .u8 x.ins),.sc (.int .u8 x.outs),.sl x.tn (x.tr.map u8C) x.tc,.sl x.en (x.es.map u16C) x.ec]:=rfl;rw[h4]at h2;rw[show minM x.five.mach=x.km from rfl]at h3;have h5:x.km.cells=[.sc (.int .i64 x.km.ins),.sc (.int .i64 x.km.outs),.sl false (x.km.rows.map rowC) .unk]:=rfl;rw[h5]at h3⊢;refine PureIs.of1 3 [] func4 ntmps4 results4 fun _=>?_;refine EvC.a ?_ (by simp only[go_sem,CM.cells]<;>rfl);refine EvC.a ?_ (hok:=by simp[h1]);refine EvC.k2 ?_ (c1:=.ca h2) (c2:=.ca h3);refine EvC.rz ?_;simp only[go_sem]
variable {m:Mach}
def EqS(m:Mach)(s t:Nat):Prop:=∀v,WOk m.ins.toNat v→runR m s v=runR m t v
theorem Prp.cls(h:Prp m){s t:Nat}(hs:s<m.rows.length)(ht:t<m.rows.length):pC (classL m) s=pC (classL m) t↔EqS m s t:=by
 have hl:=classL_len m;rw[EqS,←classL_eq h.v hs ht];unfold pC;rw[List.getElem?_eq_getElem (by omega),List.getElem?_eq_getElem (by omega)];simp
theorem EqS.step(h:Prp m){s t p q i:Nat}(hi:i<m.ins.toNat)(he:EqS m s t)(e1:(ex (rowN m s) i).1=(p:Int))(e2:(ex (rowN m t) i).1=(q:Int)):EqS m p q:=fun v hv=>by
 have h1:=he ((i:Int)::v) (hv.cons (by omega));rw[run_cons,run_cons,e1,e2]at h1;exact(List.cons.inj h1).2
def ordL(m:Mach):List Nat:=ordO m m.rows.length
theorem ordL_at{m:Mach}{j:Nat}(hj:j<m.rows.length):oA (ordL m) j<m.rows.length:=by
 have hl:(ordL m).length=m.rows.length:=ordO_len m _;exact(ordO_mem m m.rows.length _).1 (oA_mem (l:=ordL m) (by omega))
theorem Prp.ord_lt(h:Prp m){i j:Nat}(hij:i<j)(hj:j<m.rows.length):rk m (oA (ordL m) i)<rk m (oA (ordL m) j):=by
 have hl:(ordL m).length=m.rows.length:=ordO_len m _;have:=List.pairwise_iff_getElem.1 (h.ord m.rows.length (Nat.le_refl _)) i j (by rw[ordO_len];omega) (by rw[ordO_len];omega) hij;unfold oA;rw[List.getElem?_eq_getElem (by omega),List.getElem?_eq_getElem (by omega)];exact this
theorem Prp.ord_of(h:Prp m){s:Nat}(hs:s<m.rows.length):∃j,j<m.rows.length∧oA (ordL m) j=s:=by
 obtain⟨j,hj,e⟩:=List.mem_iff_getElem.1 ((ordO_mem m _ s).2 hs);rw[ordO_len]at hj;refine⟨j,hj,?_⟩;unfold oA ordL;rw[List.getElem?_eq_getElem (by rw[ordO_len];exact hj),e];rfl
def keepK(m:Mach):List Nat:=(List.range m.rows.length).filter fun j=>!dupB (classL m) (ordL m) j j
theorem firsts_eq(m:Mach):firstsL m=(keepK m).map (oA (ordL m)):=rfl
theorem mem_keepK{j:Nat}:j∈keepK m↔j<m.rows.length∧∀i,i<j→pC (classL m) (oA (ordL m) i)≠pC (classL m) (oA (ordL m) j):=by
 unfold keepK;rw[List.mem_filter,List.mem_range];simp only[dupB,Bool.not_eq_true',List.any_eq_false,List.mem_range,decide_eq_true_eq,ne_eq]
theorem keepK_sorted(m:Mach):(keepK m).Pairwise (·<·):=List.Pairwise.filter _ List.pairwise_lt_range
def fS(m:Mach)(k:Nat):Nat:=oA (firstsL m) k
def nF(m:Mach):Nat:=(firstsL m).length
theorem nF_eq(m:Mach):nF m=(keepK m).length:=by unfold nF;rw[firsts_eq,List.length_map]
theorem fS_eq{k:Nat}(hk:k<nF m):∃j,j∈keepK m∧(keepK m)[k]?=some j∧fS m k=oA (ordL m) j:=by
 have hk':k<(keepK m).length:=by rw[←nF_eq];exact hk
 refine⟨(keepK m)[k],List.getElem_mem hk',List.getElem?_eq_getElem hk',?_⟩;unfold fS;rw[firsts_eq]
 conv=>lhs;unfold oA
 rw[List.getElem?_map,List.getElem?_eq_getElem hk'];rfl
theorem fS_lt{k:Nat}(hk:k<nF m):fS m k<m.rows.length:=by
 obtain⟨j,h1,_,e⟩:=fS_eq hk;rw[e];exact ordL_at (mem_keepK.1 h1).1
theorem Prp.fS_rk(h:Prp m){k l:Nat}(hkl:k<l)(hl:l<nF m):rk m (fS m k)<rk m (fS m l)∧pC (classL m) (fS m k)≠pC (classL m) (fS m l):=by
 obtain⟨i,i1,i2,e1⟩:=fS_eq (m:=m) (k:=k) (by omega);obtain⟨j,j1,j2,e2⟩:=fS_eq hl;have hl':l<(keepK m).length:=by rw[←nF_eq];exact hl
 have hij:i<j:=by
  have:=List.pairwise_iff_getElem.1 (keepK_sorted m) k l (by omega) hl' hkl;rw[List.getElem?_eq_getElem (by omega)]at i2;rw[List.getElem?_eq_getElem hl']at j2;rw[Option.some.inj i2,Option.some.inj j2]at this;exact this
 rw[e1,e2];exact⟨h.ord_lt hij (mem_keepK.1 j1).1,(mem_keepK.1 j1).2 i hij⟩
theorem Prp.fS_of(h:Prp m):∀j,j<m.rows.length→∃k,k<nF m∧pC (classL m) (fS m k)=pC (classL m) (oA (ordL m) j)∧rk m (fS m k)≤rk m (oA (ordL m) j):=fun j=>by
 induction j using Nat.strongRecOn with
 | _ j ih=>
   intro hj;by_cases hk:j∈keepK m
   ·obtain⟨k,hk',e⟩:=List.mem_iff_getElem.1 hk;have hkn:k<nF m:=by rw[nF_eq];exact hk'
    obtain⟨i,_,i2,e1⟩:=fS_eq hkn;rw[List.getElem?_eq_getElem hk',e]at i2;obtain rfl:=Option.some.inj i2;exact⟨k,hkn,by rw[e1],by rw[e1];exact Nat.le_refl _⟩
   ·rw[mem_keepK]at hk;have:∃i,i<j∧pC (classL m) (oA (ordL m) i)=pC (classL m) (oA (ordL m) j):=Classical.byContradiction fun hn=>hk ⟨hj,fun i hi e=>hn ⟨i,hi,e⟩⟩;obtain⟨i,hi,e⟩:=this;obtain⟨k,k1,k2,k3⟩:=ih i hi (by omega);have:=h.ord_lt hi hj;exact⟨k,k1,by rw[k2,e],by omega⟩
theorem Prp.fS_cls(h:Prp m){s:Nat}(hs:s<m.rows.length):∃k,k<nF m∧pC (classL m) (fS m k)=pC (classL m) s∧rk m (fS m k)≤rk m s:=by
 obtain⟨j,hj,rfl⟩:=h.ord_of hs;exact h.fS_of j hj
theorem Prp.fS_inj(h:Prp m){k l:Nat}(hk:k<nF m)(hl:l<nF m)(e:pC (classL m) (fS m k)=pC (classL m) (fS m l)):k=l:=by
 rcases Nat.lt_trichotomy k l with h1|h1|h1
 ·exact absurd e (h.fS_rk h1 hl).2
 ·exact h1
 ·exact absurd e.symm (h.fS_rk h1 hk).2
theorem Prp.fS_mono(h:Prp m){k l:Nat}(hk:k<nF m)(hl:l<nF m)(e:rk m (fS m k)<rk m (fS m l)):k<l:=by
 rcases Nat.lt_trichotomy k l with h1|h1|h1
 ·exact h1
 ·subst h1;omega
 ·have:=(h.fS_rk h1 hk).1;omega
theorem Prp.nF_pos(h:Prp m):0<nF m:=by
 obtain⟨k,hk,_⟩:=h.fS_cls h.zero;omega
theorem Prp.fS_zero(h:Prp m):fS m 0=0:=by
 obtain⟨k,hk,_,hr⟩:=h.fS_cls h.zero;rw[h.rk_zero]at hr;have h0:rk m (fS m k)=rk m 0:=by rw[h.rk_zero];omega
 have e:=h.inj (fS_lt hk) h.zero h0;by_cases hk0:k=0
 ·rw[hk0]at e;exact e
 ·have:=(h.fS_rk (k:=0) (l:=k) (by omega) hk).1;omega
theorem lastP_spec{p:List Int}{F:List Nat}{s:Nat}:∀{n:Nat},(∃k,k<n∧pC p (oA F k)=pC p s)→∃k,k<n∧pC p (oA F k)=pC p s∧lastP p F s n=(k:Int)
 | 0,⟨k,hk,_⟩=>by omega
 | n+1,⟨k,hk,e⟩=>by
   rw[lastP];by_cases hn:pC p (oA F n)=pC p s
   ·rw[if_pos hn];exact⟨n,Nat.lt_succ_self _,hn,rfl⟩
   ·rw[if_neg hn];obtain⟨k',h1,h2,h3⟩:=lastP_spec (n:=n) ⟨k,by rcases Nat.lt_or_ge k n with h|h;exact h;exfalso;exact hn (by rw[show n=k by omega];exact e),e⟩;exact⟨k',by omega,h2,h3⟩
theorem Prp.to(h:Prp m){s:Nat}(hs:s<m.rows.length):∃k,k<nF m∧pC (mapTo m m.rows.length) s=(k:Int)∧EqS m (fS m k) s:=by
 obtain⟨k,k1,k2,_⟩:=h.fS_cls hs;obtain⟨k',h1,h2,h3⟩:=lastP_spec (p:=classL m) (F:=firstsL m) (s:=s) (n:=(firstsL m).length) ⟨k,k1,k2⟩;refine⟨k',h1,?_,(h.cls (fS_lt h1) hs).1 h2⟩;rw[←h3];unfold pC mapTo;rw[List.getElem?_map,List.getElem?_range hs];rfl
theorem minM_len(m:Mach):(minM m).rows.length=nF m:=by simp[minM,nF]
theorem minM_row{k i:Nat}(hk:k<nF m)(hi:i<m.ins.toNat):ex (rowN (minM m) k) i=minE m (fS m k) i:=by
 have h1:(minM m).rows[k]?=some (false,minR m (fS m k) m.ins.toNat):=by
  rw[minM,List.getElem?_map,List.getElem?_eq_getElem hk];unfold fS oA;rw[List.getElem?_eq_getElem hk];rfl
 simp only[ex,Avl.rowN,h1,Option.map_some,Option.getD_some,minR,List.getElem?_map,List.getElem?_range hi]
theorem Prp.minE(h:Prp m){k i:Nat}(hk:k<nF m)(hi:i<m.ins.toNat):∃l:Nat,l<nF m∧ex (rowN (minM m) k) i=((l:Int),(ex (rowN m (fS m k)) i).2)∧
  ∃t:Nat,t<m.rows.length∧(ex (rowN m (fS m k)) i).1=(t:Int)∧EqS m (fS m l) t:=by
 obtain⟨r,t,o,_,_,hx,ht,_⟩:=h.edge (fS_lt hk) hi;obtain⟨l,l1,l2,l3⟩:=h.to ht;refine⟨l,l1,?_,t,ht,by rw[hx],l3⟩;rw[minM_row hk hi];unfold Avl.minE;rw[hx,Int.toNat_natCast,l2]
theorem Prp.min_to(h:Prp m){k s t i:Nat}(hk:k<nF m)(hi:i<m.ins.toNat)(he:EqS m (fS m k) s)(ht:t<m.rows.length)(e:(ex (rowN m s) i).1=(t:Int)){l:Nat}(hl:l<nF m)(hlt:EqS m (fS m l) t):(ex (rowN (minM m) k) i).1=(l:Int):=by
 obtain⟨l',l1,l2,t',t1,t2,t3⟩:=h.minE hk hi;rw[l2];simp only;have h1:=he.step h hi t2 e;have:l'=l:=h.fS_inj l1 hl ((h.cls (fS_lt l1) (fS_lt hl)).2 fun v hv=>by rw[t3 v hv,h1 v hv,←hlt v hv]);rw[this]
theorem Prp.minP(h:Prp m):Prp (minM m):=by
 have hin:=h.v.ins;have hrw:=h.v.rows;have hnl:=minM_len m;have hii:(minM m).ins=m.ins:=rfl;have hoo:(minM m).outs=m.outs:=rfl;have hle:nF m≤m.rows.length:=(firL_len (classL m) (ordO m m.rows.length) m.rows.length).1;have hpos:=h.nF_pos;refine⟨⟨hin,h.v.outs,by omega,fun r hr=>?_⟩,fun s i hs hi=>?_,fun t h0 ht=>?_⟩
 ·obtain⟨k,hk,rfl⟩:=List.mem_iff_getElem.1 hr;have hk':k<nF m:=by omega
  have h1:(minM m).rows[k]=(false,minR m (fS m k) m.ins.toNat):=by
   simp only[minM,List.getElem_map];unfold fS oA;rw[List.getElem?_eq_getElem hk'];rfl
  rw[h1];refine⟨by simp only[minR,List.length_map,List.length_range];rw[hii];omega,fun e he=>?_⟩;obtain⟨i,hi,rfl⟩:=List.mem_map.1 he;have hi:=List.mem_range.1 hi;obtain⟨l,l1,l2,t,t1,t2,_⟩:=h.minE hk' hi;rw[minM_row hk' hi]at l2;rw[l2,hnl,hoo];have:=exr_fits h.v (fS_lt hk') hi;unfold fitsR;simp only[Bool.or_eq_true,Bool.and_eq_true,decide_eq_true_eq];right;omega
 ·rw[hii]at hi;obtain⟨l,l1,l2,_⟩:=h.minE (k:=s) (i:=i) (by omega) (by omega);exact⟨l,by omega,by rw[l2]⟩
 ·rw[hnl]at ht;have ha:=(h.acc (fS_lt ht)).2;have hne:accW m (fS m t)≠[]:=fun e=>by
   have h1:=ha.to;rw[e]at h1;have h2:rk m (fS m t)=rk m 0:=by rw[show fS m t=0 by simp only[afterR]at h1;omega]
   have:=(h.fS_rk (k:=0) (l:=t) h0 ht).1;rw[h.fS_zero]at this;omega
  obtain⟨w,a,hw⟩:∃w a,accW m (fS m t)=w++[a]:=⟨_,_,(List.dropLast_concat_getLast hne).symm⟩;have hok:=ha.ok;rw[hw]at hok;obtain⟨i,rfl,hi⟩:=(hok.right).nat;obtain⟨s,hs,hsw⟩:=h.aft hok.left;have hto:=ha.to;rw[hw,after_app,hsw,after_cons]at hto;have hto:(ex (rowN m s) i).1=(fS m t:Int):=hto;obtain⟨k,k1,k2,k3⟩:=h.fS_cls hs;have hkt:k<t:=by
   refine h.fS_mono k1 ht (Nat.lt_of_le_of_lt k3 ?_);have h1:rk m s≤rank m.ins.toNat w:=(h.acc hs).2.least w hok.left hsw;have h2:rk m (fS m t)=rank m.ins.toNat (w++[(i:Int)]):=by unfold rk;rw[hw]
   have h3:=rank_len (k:=m.ins.toNat) (w:=w) (v:=w++[(i:Int)]) hok.left (by simp);omega
  exact⟨k,i,hkt,by rw[hii];omega,h.min_to k1 hi ((h.cls (fS_lt k1) hs).1 k2) (fS_lt ht) hto ht fun _ _=>rfl⟩
theorem Prp.min_run(h:Prp m):∀(v:List Int) (k:Nat),WOk m.ins.toNat v→k<nF m→runR (minM m) k v=runR m (fS m k) v
 | [],_,_,_=>rfl
 | a::v,k,hv,hk=>by
   obtain⟨i,rfl,hi⟩:=hv.nat;obtain⟨l,l1,l2,t,t1,t2,t3⟩:=h.minE hk hi;rw[run_cons,run_cons,l2,t2];simp only;rw[h.min_run v l hv.tail l1,t3 v hv.tail]
theorem Prp.minN(h:Prp m):Mnl (minM m):=by
 refine⟨h.minP,fun s t hs ht hst=>?_⟩;rw[minM_len]at hs ht;refine Classical.byContradiction fun hn=>hst ?_;refine h.fS_inj hs ht ((h.cls (fS_lt hs) (fS_lt ht)).2 fun v hv=>?_);have:=Classical.byContradiction fun h'=>hn ⟨v,hv,h'⟩;rw[h.min_run v s hv hs,h.min_run v t hv ht]at this;exact this
theorem Prp.min_after(h:Prp m):∀(w:List Int) (s k:Nat),WOk m.ins.toNat w→s<m.rows.length→k<nF m→EqS m (fS m k) s→∃t l:Nat,t<m.rows.length∧l<nF m∧afterR m s w=(t:Int)∧afterR (minM m) k w=(l:Int)∧EqS m (fS m l) t
 | [],s,k,_,hs,hk,he=>⟨s,k,hs,hk,rfl,rfl,he⟩
 | a::w,s,k,hw,hs,hk,he=>by
   obtain⟨i,rfl,hi⟩:=hw.nat;obtain⟨t,ht,e⟩:=h.tot s i hs (by omega);obtain⟨l,l1,l2,l3⟩:=h.to ht;have:=h.min_to hk hi he ht e l1 l3;rw[after_cons,after_cons,e,this];exact h.min_after w t l hw.tail ht l1 l3
theorem Prp.min_rk(h:Prp m){k:Nat}(hk:k<nF m):rk (minM m) k=rk m (fS m k):=by
 have hP:=h.minP;have ha:=(h.acc (fS_lt hk)).2;have hb:=(hP.acc (t:=k) (by rw[minM_len];exact hk)).2;have h0:EqS m (fS m 0) 0:=by rw[h.fS_zero];exact fun _ _=>rfl
 have hbok:WOk m.ins.toNat (accW (minM m) k):=hb.ok;refine Nat.le_antisymm ?_ ?_
 ·refine hb.least _ ha.ok ?_;obtain⟨t,l,t1,l1,e1,e2,e3⟩:=h.min_after (accW m (fS m k)) 0 0 ha.ok h.zero h.nF_pos h0;have h1:=ha.to;rw[show((0:Nat):Int)=0 from rfl]at e1 e2;rw[e1]at h1;have ht:t=fS m k:=by omega
  subst ht;have:=h.fS_inj l1 hk ((h.cls (fS_lt l1) (fS_lt hk)).2 e3);rw[e2,this]
 ·obtain⟨t,l,t1,l1,e1,e2,e3⟩:=h.min_after (accW (minM m) k) 0 0 hbok h.zero h.nF_pos h0;rw[show((0:Nat):Int)=0 from rfl]at e1 e2;have h1:=hb.to;rw[e2]at h1;have hl:l=k:=by omega
  subst hl;obtain⟨k',k1,k2,k3⟩:=h.fS_cls t1;have:k'=l:=h.fS_inj k1 l1 (by rw[k2];exact((h.cls (fS_lt l1) t1).2 e3).symm);subst this;have h2:rk m t≤rank m.ins.toNat (accW (minM m) k'):=(h.acc t1).2.least _ hbok e1;exact Nat.le_trans k3 h2
theorem Prp.min_ord(h:Prp m):ordO (minM m) (minM m).rows.length=List.range (minM m).rows.length:=by
 have hP:=h.minP;have hnl:=minM_len m;have key:∀k,k≤nF m→ordO (minM m) k=List.range k:=fun k=>by
  induction k with
  | zero=>intro _;rfl
  | succ k ih=>
    intro hk;rw[ordO_succ,ih (by omega),List.range_succ];have:=insO_app (lt:=ltS (minM m)) (s:=k) (A:=List.range k) [] fun a ha=>by
     have ha:=List.mem_range.1 ha;rw[hP.lt (by omega) (by omega),h.min_rk (by omega),h.min_rk (by omega)];exact(h.fS_rk ha (by omega)).1
    rw[List.append_nil]at this;rw[this];rfl
 rw[hnl];exact key _ (Nat.le_refl _)
theorem Valid.check{m:Mach}(h:Valid m):checkM m=0:=by
 have h1:=h.ins;have h2:=h.outs;have h3:=h.rows;unfold checkM;rw[if_neg (by omega),if_neg (by omega),if_pos];rw[List.all_eq_true];intro r hr;obtain⟨k1,k2⟩:=h.row r hr;simp only[rowOk,Bool.and_eq_true,decide_eq_true_eq,Bool.not_eq_true',List.any_eq_false];exact⟨k1,fun e he=>by simpa using k2 e he⟩
theorem cloneI_is(nl:Bool)(xs:List Int)(c:Cp)(hl:xs.length<1000000)(hn:nl=true→xs=[]):PureIs prog 25 [.sl nl (xs.map intC) c] (.sl nl (xs.map intC) .unk):=by
 refine PureIs.of1 1 [2,4] func25 ntmps25 results25 fun _=>?_;refine EvC.a ?_;refine EvC.seq ?_;refine EvC.a ?_;cases nl with
 | true=>
   rw[hn rfl];refine EvC.ct ?_;refine EvC.a ?_;refine EvC.rz ?_;simp only[go_sem]
 | false=>
   refine EvC.cs ?_;have hr1:room xs.length 8=true:=by simp only[room_eq,decide_eq_true_eq];omega
   have hr3:∀a:Int,a∈xs→(intC a).length=1:=fun _ _=>rfl;refine EvC.a ?_ (by simp only[go_sem,List.length_map]<;>rfl) (by simp[hr1];try exact hr3);have hnn:=norefs_intC xs;refine EvC.frz 5 (by simp only[go_sem,List.length_map]<;>rfl) ?_;refine EvC.rz ?_;simp only[go_sem]
theorem unkss_intC:∀xs:List Int,AV.unkss (xs.map intC)=xs.map intC
 | []=>rfl
 | x::xs=>by rw[List.map_cons,AV.unkss,unkss_intC xs];rfl
theorem clipU_is(nl:Bool)(xs:List Int)(c:Cp):PureIs prog 26 [.sl nl (xs.map intC) c] (.sl nl (xs.map intC) .unk):=by
 have h:=(clipI_is nl (xs.map intC) c (by simp[intC])).weakR;rw[show(AV.sl nl (xs.map intC) .full).unk=.sl nl (AV.unkss (xs.map intC)) .unk from rfl,unkss_intC]at h;exact h
def runTR(m:Mach)(x:RW):TR:=⟨x.2.1,runR m 0 x.2.1⟩
def trX(x:RW):List AV:=[.sl x.1 (x.2.1.map intC) x.2.2,.sl true [] .zer]
def trZ:List AV:=[.sl true [] .zer,.sl true [] .zer]
theorem norefs_trX(l:List RW):(l.map trX).all AV.norefs=true:=by simp[List.all_eq_true,trX,AV.norefs,AV.noref]
def trP(W:List RW)(i:Nat):List (List AV):=(W.take i).map trX++List.replicate (W.length-i) trZ
theorem trP_len{W:List RW}{i:Nat}(h:i≤W.length):(trP W i).length=W.length:=by simp[trP];omega
theorem trP_norefs(W:List RW)(i:Nat):(trP W i).all AV.norefs=true:=by
 unfold trP;rw[List.all_append,norefs_trX];simp[trZ,AV.norefs,AV.noref]
theorem trP_set{W:List RW}{i:Nat}{x:RW}(h:W[i]?=some x):(trP W i).set i (trX x)=trP W (i+1):=by
 obtain⟨h1,h2⟩:=List.getElem?_eq_some_iff.1 h;obtain⟨d,hd⟩:∃d,W.length-i=d+1:=⟨W.length-i-1,by omega⟩;have hd':W.length-(i+1)=d:=by omega
 unfold trP;rw[hd,hd',List.replicate_succ,List.set_append_right _ _ (by simp;omega),List.take_succ_eq_append_getElem h1,List.map_append,h2];simp[Nat.min_eq_left (Nat.le_of_lt h1)]
def trQ(m:Mach)(W:List RW)(i:Nat):List (List AV):=((W.take i).map (runTR m)).map traceD++(W.drop i).map trX
theorem trQ_len(m:Mach)(W:List RW)(i:Nat):(trQ m W i).length=W.length:=by simp[trQ];omega
theorem trQ_norefs(m:Mach)(W:List RW)(i:Nat):(trQ m W i).all AV.norefs=true:=by
 unfold trQ;rw[List.all_append,norefs_trX,norefs_traceD];rfl
theorem trQ_get{m:Mach}{W:List RW}{i:Nat}{x:RW}(h:W[i]?=some x):(trQ m W i)[i]?=some (trX x):=by
 obtain⟨h1,h2⟩:=List.getElem?_eq_some_iff.1 h;unfold trQ;rw[List.getElem?_append_right (by simp;omega)];simp[Nat.min_eq_left (Nat.le_of_lt h1),h]
theorem trQ_set{m:Mach}{W:List RW}{i:Nat}{x:RW}(h:W[i]?=some x):(trQ m W i).set i (traceD (runTR m x))=trQ m W (i+1):=by
 obtain⟨h1,h2⟩:=List.getElem?_eq_some_iff.1 h;unfold trQ;rw[List.drop_eq_getElem_cons h1,List.map_cons,List.set_append_right _ _ (by simp;omega),List.take_succ_eq_append_getElem h1,List.map_append,List.map_append,h2];simp[Nat.min_eq_left (Nat.le_of_lt h1)]
set_option maxHeartbeats 8000000 in
theorem of7_is{m:Mach}(hv:Valid m)(nl:Bool)(W:List RW)(hW:∀x∈W,WOk m.ins.toNat x.2.1∧x.1=x.2.1.isEmpty∧x.2.1.length≤256)(h0:0<W.length)(hlen:W.length≤1024)(hL:LogOk m.ins.toNat m.outs (W.map (runTR m))):
  PureIs prog 7 [.ag m.cells,.sl nl (W.map rwC) .unk] (.tu [logD m.ins m.outs (W.map (runTR m)),.sc (.int .i64 0)]):=by
 have hrw:=hv.rows;have hins:=hv.ins;have hck:=check_is m (fun r hr=>by have:=(hv.row r hr).1;omega);have hc0:checkM m=0:=hv.check;rw[hc0]at hck;have hWl:(W.map rwC).length=W.length:=List.length_map _;have hmin:(if(W.length:Int)≤1025 then(W.length:Int)else 1025)=(W.length:Int):=if_pos (by omega);refine PureIs.of1 3 [4,5,6,7,9,10,11,12,17,27,33,34,35,36,49,52,53,54,55,64] func7 ntmps7 results7 fun _=>?_;refine EvC.a ?_ (by simp only[go_sem,Mach.cells]<;>rfl);refine EvC.z 0 ?_;refine EvC.seq ?_;refine EvC.k1 ?_ (h1:=by simp only[go_sem,Mach.cells]<;>rfl) (c1:=.ca hck);refine EvC.a ?_;refine EvC.cs ?_;refine EvC.d mixed ?_ (h:=by simp only[go_sem,hWl,hmin,List.length_replicate]<;>rfl) (hok:=by simp[room_eq];try omega);refine EvC.seq ?_;have hkW:List.take W.length (W.map rwC)=W.map rwC:=List.take_of_length_le (by rw[hWl];exact Nat.le_refl _);refine EvC.a ?_ (by simp only[go_sem,hWl,hmin,hkW]<;>rfl) (by simp;exact⟨fun _ _ _=>rfl,fun _ _ _=>rfl⟩);refine EvC.block ?_;refine EvC.loopS (σ:=Nat) (fun i=>⟨[(2,.ia m.cells),(4,.rf 0 0),(7,.rf 1 0),(33,.sl nl (W.map rwC) .unk),(34,.sc (.int .i64 W.length)),(35,.sc (.int .i64 i))],[],
  [(0,.cells [.sc (.int .i64 0),.sc (.int .i64 0),.sl true [] .zer]),(1,.cells [.sc (.int .i64 m.ins),.sc (.int .i64 m.outs),.tv 2 W.length 0 i (.val W.length)]),(2,.arr 2 (trP W i) false)],3⟩) (fun i=>W.length-i) (fun i=>i≤W.length) [2,4,7,33,34,35] 3 ?_ ?_
 ·have hz:trP W 0=List.replicate W.length [.sl true [] .zer,.sl true [] .zer]:=by simp[trP,trZ]
  have hn:=trP_norefs W 0;rw[hz]at hn;exact⟨[(1,0),(17,1),(15,2)],0,rfl,(by rw[hz];simp only[go_sem,Mach.cells,hn,Int.natCast_zero]<;>rfl),Nat.zero_le _⟩
 intro i hi;have hiin:(i:Int).toNat=i:=Int.toNat_natCast i;have hPl:=trP_len hi;have hPn:=trP_norefs W i;refine EvC.a ?_;refine EvC.seq ?_;refine EvC.cd (fun hc=>?_) (fun hc=>?_);rotate_left
 ·refine EvC.exit ?_;obtain rfl:i=W.length:=by have:¬i<W.length:=(by simpa using hc);omega
  have hte:trP W W.length=trQ m W 0:=by simp[trP,trQ]
  rw[hte]at hPl hPn⊢;have hwi:=within91_gen hL (trQ m W 0) (by rw[trQ_len,List.length_map]) (fun i t ht=>by
   rw[List.getElem?_map]at ht;cases hw:W[i]? with
   | none=>rw[hw]at ht;cases ht
   | some x=>
     rw[hw]at ht;obtain rfl:=Option.some.inj ht;exact⟨_,_,_,_,_,by rw[show trQ m W 0=W.map trX by simp[trQ],List.getElem?_map,hw];rfl⟩) (trQ_norefs m W 0) false .full
  rw[show((m.ins.toNat:Nat):Int)=m.ins from by omega]at hwi;refine EvC.seq ?_;apply EvC.seq;apply EvC.tr
  ·apply Tr.run
   ·simp only[go_sem]<;>rfl
   ·simp
   apply Tr.cons
   ·exact .callD (xs:=[.ag [.sc (.int .i64 m.ins),.sc (.int .i64 m.outs),.sl false (trQ m W 0) .full]]) 2 rfl rfl (by simp only[go_sem]<;>rfl) (by simp only[go_sem]<;>rfl) (by simp only[go_sem,hPl,hPn]<;>rfl) (by simp only[go_sem,hPl,hPn]<;>rfl) (by simp only[go_sem,hPl,hPn]<;>rfl) (PureIs.frSc hwi)
   apply Tr.done
   ·simp only[go_sem]<;>rfl
   ·simp
  refine EvC.cs ?_;refine EvC.seq ?_;have hQk:List.take W.length (trQ m W 0)=trQ m W 0:=List.take_of_length_le (by rw[hPl];exact Nat.le_refl _);refine EvC.a ?_ (by simp only[go_sem,hPl,hQk]<;>rfl);refine EvC.block ?_;refine EvC.loopS (σ:=Nat) (fun i=>⟨[(2,.ia m.cells),(4,.rf 0 0),(7,.rf 1 0),(52,.tv 2 W.length 0 W.length (.val W.length)),(53,.sc (.int .i64 W.length)),(54,.sc (.int .i64 i))],[],
   [(0,.cells [.sc (.int .i64 0),.sc (.int .i64 0),.sl true [] .zer]),(1,.cells [.sc (.int .i64 m.ins),.sc (.int .i64 m.outs),.tv 2 W.length 0 W.length (.val W.length)]),(2,.arr 2 (trQ m W i) false)],3⟩) (fun i=>W.length-i) (fun i=>i≤W.length) [2,4,7,52,53,54] 3 ?_ ?_
  ·exact⟨[(0,0),(1,1),(2,2)],0,rfl,(by simp only[go_sem,Mach.cells,hPn,Int.natCast_zero]<;>rfl),Nat.zero_le _⟩
  clear hi hiin hPl hPn;intro i hi;have hiin:(i:Int).toNat=i:=Int.toNat_natCast i;have hQl:=trQ_len m W i;have hQn:=trQ_norefs m W i;refine EvC.a ?_;refine EvC.seq ?_;refine EvC.cd (fun hc=>?_) (fun hc=>?_);rotate_left
  ·refine EvC.exit ?_;obtain rfl:i=W.length:=by have:¬i<W.length:=(by simpa using hc);omega
   have hte:trQ m W W.length=(W.map (runTR m)).map traceD:=by simp[trQ]
   rw[hte]at hQl hQn⊢;have hne:W.length≠0:=by omega
   refine EvC.unkC ?_;refine EvC.frzD 2 (by simp only[go_sem,hne,ne_eq,not_false_eq_true,if_true,hQl,hQn]<;>rfl) ?_;refine EvC.a ?_;refine EvC.rz ?_;simp only[go_sem];have hLe:(W.map (runTR m)).isEmpty=false:=by cases W with|nil=>simp at h0|cons=>rfl
   unfold logD;rw[hLe]
  have hil:i<W.length:=by simpa using hc
  clear hc;have hge:W[i]?=some (W[i]'hil):=List.getElem?_eq_getElem hil;obtain⟨x1,x2,x3⟩:=hW _ (List.getElem_mem hil);generalize W[i]'hil=x at hge x1 x2 x3;have hxg:=trQ_get (m:=m) hge;unfold trX at hxg;have hset:=trQ_set (m:=m) hge;have htd:traceD (runTR m x)=[.sl x.1 (x.2.1.map intC) .unk,.sl false ((runR m 0 x.2.1).map intC) .unk]:=by rw[x2];rfl
  rw[htd]at hset;have hQl':=trQ_len m W (i+1);have hQn':=trQ_norefs m W (i+1);have hxI:=inputs93_is x.1 x.2.1 x.2.2 m.ins (fun a ha=>by have:=x1 a ha;omega) (by omega);have hwe:wordErr m.ins x.2.1=0:=by
   unfold wordErr;rw[if_neg (by omega),if_neg];rintro(h|h)
   ·omega
   ·rw[List.any_eq_true]at h;obtain⟨a,ha,h⟩:=h;have:=x1 a ha;simp at h;omega
  have hrun:=run52_is hv 0 ⟨by omega,by omega⟩ x.1 x.2.1 x.2.2 hwe (by omega);have hclo:=cloneI_is x.1 x.2.1 x.2.2 (by omega) (fun e=>by rw[x2]at e;exact List.isEmpty_iff.1 e);have hcli:=clipU_is x.1 x.2.1 .unk;refine EvC.skip ?_;refine EvC.seq ?_;refine EvC.block ?_;refine EvC.a ?_ (by simp only[go_sem,hxg,hiin,hQl]<;>rfl) (by simp;try omega);refine EvC.seq ?_;refine EvC.k1 ?_ (h1:=by simp only[go_sem,Mach.cells]<;>rfl) (c1:=.ca hxI);refine EvC.cs ?_;refine EvC.k1 ?_ (h1:=by simp only[go_sem,Mach.cells]<;>rfl) (c1:=.ca hrun);have hset1:(trQ m W (i+1)).set i [.sl x.1 (x.2.1.map intC) .unk,.sl false ((runR m 0 x.2.1).map intC) .unk]=trQ m W (i+1):=by rw[←hset,List.set_set]
  have hxg1:(trQ m W (i+1))[i]?=some [.sl x.1 (x.2.1.map intC) .unk,.sl false ((runR m 0 x.2.1).map intC) .unk]:=by rw[←hset,List.getElem?_set,if_pos rfl,if_pos (by rw[hQl];exact hil)]
  refine EvC.k1D mixed ?_ (h1:=by simp only[go_sem,hxg,hiin,hQl]<;>rfl) (k1:=by simp;try omega) (c1:=.ca hclo) (h2:=by simp only[go_sem,hxg,hiin,hQl,hset]<;>rfl) (k2:=by simp;try omega);apply EvC.drwA mixed
  ·apply Tr.run
   ·simp only[go_sem,hxg1,hiin,hQl']<;>rfl
   ·simp;try omega
   apply Tr.cons
   ·exact .ca (hcli)
   apply Tr.done
   ·simp only[go_sem,hxg1,hiin,hQl',hset1]<;>rfl
   ·simp;try omega
  ·kernel_rfl
  refine EvC.bi ?_;exact⟨[(0,0),(1,1),(2,2)],i+1,rfl,(by simp only[go_sem,Mach.cells,hQn',Int.natCast_add,Int.natCast_one]<;>rfl),by omega,by omega⟩
 have hil:i<W.length:=by simpa using hc
 clear hc;have hge:W[i]?=some (W[i]'hil):=List.getElem?_eq_getElem hil;generalize W[i]'hil=x at hge;have hxg:=rw_get hge;have hset:List.take i (trP W i)++[.sl x.1 (x.2.1.map intC) x.2.2,.sl true [] .zer]::List.drop (i+1) (trP W i)=trP W (i+1):=by
  rw[←trP_set hge,List.set_eq_take_append_cons_drop,if_pos (by rw[hPl];exact hil)];rfl
 have hPn':=trP_norefs W (i+1);have hPl':=trP_len (W:=W) (i:=i+1) (by omega);refine EvC.skip ?_;refine EvC.seq ?_;refine EvC.block ?_;refine EvC.a ?_ (by simp only[go_sem,hxg,hiin,hWl]<;>rfl) (by simp;try omega);refine EvC.b ?_ (by simp only[go_sem,hPl,hset]<;>rfl) (by simp[hPl,hPl',room_eq];try omega);refine EvC.bi ?_;exact⟨[(0,0),(1,1),(2,2)],i+1,rfl,(by simp only[go_sem,Mach.cells,hPn',Int.natCast_add,Int.natCast_one]<;>rfl),by omega,by omega⟩
theorem fdiff_cmpI:∀(a b:List Int),fdiff a b=cmpI a b
 | [],[]=>rfl
 | [],_::_=>rfl
 | _::_,[]=>rfl
 | x::a,y::b=>by unfold fdiff cmpI;rw[fdiff_cmpI a b]
theorem cmpW_rank{k:Nat}{a b:List Int}(ha:WOk k a)(hb:WOk k b):cmpW a b<0↔rank k a<rank k b:=by
 rw[←cmpL_rank ha hb];unfold cmpW cmpL;rw[fdiff_cmpI];by_cases h:a.length=b.length
 ·rw[if_neg (by omega),if_neg (by omega),if_pos h]
 ·rw[if_neg h];by_cases h1:a.length<b.length
  ·rw[if_pos h1,if_pos h1]
  ·rw[if_neg h1,if_neg h1,if_pos (by omega)]
theorem rank_snoc(k:Nat)(i:Nat):∀w:List Int,rank k (w++[(i:Int)])=k*rank k w+(i+1)
 | []=>by simp[rank]
 | a::w=>by
   rw[List.cons_append,rank,rank_snoc k i w,rank,List.length_append,List.length_singleton,Nat.pow_succ,Nat.mul_add,Nat.mul_comm k ((a.toNat+1)*k^w.length),Nat.mul_assoc];omega
def Cov(L:List TR)(w:List Int):Prop:=∃t∈L,hasW t w
theorem Cov.pre{L:List TR}{w v:List Int}(h:Cov L (w++v)):Cov L w:=by
 obtain⟨t,ht,h1,h2⟩:=h;rw[List.length_append]at h1 h2;refine⟨t,ht,by omega,?_⟩;have:=congrArg (List.take w.length) h2;rw[List.take_take,Nat.min_eq_left (by omega),List.take_append_of_le_length (Nat.le_refl _),List.take_length]at this;exact this
structure LogM (m:Mach) (L:List TR):Prop where
 ok:∀t∈L,WOk m.ins.toNat t.w∧t.r=runR m 0 t.w
variable {m:Mach} {L:List TR}
theorem Prp.run_out(h:Prp m):∀{w:List Int} {s:Nat},WOk m.ins.toNat w→s<m.rows.length→∀x∈runR m s w,0≤x∧x<m.outs
 | [],_,_,_=>fun x hx=>by cases hx
 | a::w,s,hw,hs=>fun x hx=>by
   obtain⟨i,rfl,hi⟩:=hw.nat;obtain⟨r,t,o,_,_,he,ht,_,ho⟩:=h.edge hs hi;rw[run_cons,he]at hx;rcases List.mem_cons.1 hx with rfl|hx
   ·exact ho
   ·exact h.run_out hw.tail ht x hx
theorem LogM.val(h:LogM m L)(hp:Prp m):∀t∈L,TrVal m.ins.toNat m.outs t:=fun t ht=>by
 obtain⟨h1,h2⟩:=h.ok t ht;refine⟨by rw[h2,run_len],h1,t.r,0,by simp,fun x hx=>?_⟩;rw[h2]at hx;exact hp.run_out (s:=0) h1 hp.zero x hx
theorem LogM.pre(h:LogM m L)(hp:Prp m){t:TR}(ht:t∈L):preN t.r=t.w.length:=by
 obtain⟨h1,h2⟩:=h.ok t ht;have:=preN_form (p:=t.r) (m:=0) fun x hx=>by
  rw[h2]at hx;exact(hp.run_out (s:=0) h1 hp.zero x hx).1
 rw[show List.replicate 0 (-1:Int)=[]from rfl,List.append_nil]at this;rw[this,h2,run_len]
theorem LogM.node(h:LogM m L)(hp:Prp m){w:List Int}(hw:w≠[]):w∈nodesL L↔Cov L w:=by
 have hw0:w.length≠0:=fun h=>hw (List.length_eq_zero_iff.1 h);rw[mem_nodesL];constructor
 ·rintro(h1|⟨t,ht,j,hj,e⟩)
  ·exact absurd h1 hw
  ·rw[e];exact⟨t,ht,hasW_take t _⟩
 ·rintro⟨t,ht,h1,h2⟩;refine .inr ⟨t,ht,w.length-1,by rw[h.pre hp ht];omega,?_⟩;rw[show w.length-1+1=w.length by omega];exact h2.symm
theorem LogM.cov(h:LogM m L){w:List Int}(hw:Cov L w):WOk m.ins.toNat w:=by
 obtain⟨t,ht,h1,h2⟩:=hw;intro x hx;rw[←h2]at hx;exact(h.ok t ht).1 x (List.mem_of_mem_take hx)
theorem LogM.at'(h:LogM m L){t:TR}(ht:t∈L){w:List Int}(hw:hasW t w){k:Nat}(hk:k<w.length):(t.r[k]?).getD 0=((runR m 0 w)[k]?).getD 0:=by
 obtain⟨h1,h2⟩:=h.ok t ht;have e:t.w=w++t.w.drop w.length:=by
  conv=>lhs;rw[←List.take_append_drop w.length t.w,hw.2]
 rw[h2,e,run_app,List.getElem?_append_left (by rw[run_len];exact hk)]
theorem LogM.cons(h:LogM m L):Cons L:=fun t ht u hu w hw h1 h2=>by
 have hw0:w.length≠0:=fun h=>hw (List.length_eq_zero_iff.1 h);rw[h.at' ht h1 (by omega),h.at' hu h2 (by omega)]
def smpT(m:Mach)(L:List TR):Mach:=treeM m.ins.toNat m.outs L
def smpD(m:Mach)(L:List TR)(n:Nat):Nat:=(afterR m 0 (((nodesL L)[n]?).getD [])).toNat
def smpN(m:Mach)(s i:Nat):Nat×Int:=((ex (rowN m s) i).1.toNat,(ex (rowN m s) i).2)
def smpA(m:Mach)(L:List TR):List Nat:=(List.range m.rows.length).map fun k=>(nodesL L).idxOf (accW m k)
theorem smpT_len(m:Mach)(L:List TR):(smpT m L).rows.length=(nodesL L).length:=by simp[smpT,treeM]
theorem nodesL_nil(h:LogM m L)(hp:Prp m):(nodesL L).idxOf []=0:=by
 rw[kids_all (h.val hp)];simp
theorem nil_node:([]:List Int)∈nodesL L:=mem_nodesL.2 (.inl rfl)
theorem LogM.edge(h:LogM m L)(hp:Prp m){w:List Int}(hw:w∈nodesL L){i:Nat}(hi:i<m.ins.toNat):
  (Cov L (w++[(i:Int)])→∃s:Nat,s<m.rows.length∧afterR m 0 w=(s:Int)∧eT (smpT m L) ((nodesL L).idxOf w) i=((((nodesL L).idxOf (w++[(i:Int)]):Nat):Int),(ex (rowN m s) i).2))∧
  (¬Cov L (w++[(i:Int)])→eT (smpT m L) ((nodesL L).idxOf w) i=(-1,-1)):=by
 have hv:=h.val hp;have hne:w++[(i:Int)]≠[]:=by simp
 have hed:eT (smpT m L) ((nodesL L).idxOf w) i=edgeOf L (nodesL L) (w++[(i:Int)]):=treeM_edge (nodesL_get hw) hi;rw[hed];constructor
 ·intro hc;obtain⟨s,hs,es⟩:=hp.aft (h.cov hc).left;refine⟨s,hs,es,?_⟩;rcases edge_cases hv h.cons hne with⟨h1,_⟩|⟨_,n,h1,_,_,h2⟩
  ·exact absurd ((h.node hp hne).2 hc) h1
  ·rw[h2];obtain⟨t,ht,hh⟩:=hc;rw[h.cons.last ht hne hh]at h1;have h1:=Option.some.inj h1;rw[h.at' ht hh (by simp),run_app]at h1;rw[List.length_append,List.length_singleton,Nat.add_sub_cancel,List.getElem?_append_right (by rw[run_len];exact Nat.le_refl _),run_len,Nat.sub_self,es,run_cons]at h1;rw[←h1];rfl
 ·intro hc;cases hl:lastL L (w++[(i:Int)])with
  | none=>unfold edgeOf;rw[hl]
  | some n=>
    obtain⟨t,ht,hh,_⟩:=lastL_mem hl;exact absurd ⟨t,ht,hh⟩ hc
theorem smpD_at(h:LogM m L){w:List Int}(hw:w∈nodesL L){s:Nat}(e:afterR m 0 w=(s:Int)):smpD m L ((nodesL L).idxOf w)=s:=by
 unfold smpD;rw[nodesL_get hw];simp only[Option.getD_some];omega
theorem node_at{n:Nat}(hn:n<(nodesL L).length):∃w,w∈nodesL L∧(nodesL L).idxOf w=n:=by
 refine⟨(nodesL L)[n],List.getElem_mem hn,?_⟩;exact((nodesL_sort L).nodup.idxOf_getElem n hn)
theorem LogM.wok(h:LogM m L)(hp:Prp m){w:List Int}(hw:w∈nodesL L):WOk m.ins.toNat w:=by
 by_cases h0:w=[]
 ·rw[h0];exact WOk.nil _
 ·exact h.cov ((h.node hp h0).1 hw)
theorem LogM.idx_lt(h:LogM m L)(hp:Prp m){v w:List Int}(hv:v∈nodesL L)(hw:w∈nodesL L):(nodesL L).idxOf v<(nodesL L).idxOf w↔rank m.ins.toNat v<rank m.ins.toNat w:=by
 have key:∀{v w:List Int},v∈nodesL L→w∈nodesL L→(nodesL L).idxOf v<(nodesL L).idxOf w→rank m.ins.toNat v<rank m.ins.toNat w:=fun{v w} hv hw hlt=>by
  have h1:=List.idxOf_lt_length_of_mem hv;have h2:=List.idxOf_lt_length_of_mem hw;have:=List.pairwise_iff_getElem.1 (nodesL_sort L) _ _ h1 h2 hlt;rw[List.getElem_idxOf h1,List.getElem_idxOf h2]at this;exact(cmpW_rank (h.wok hp hv) (h.wok hp hw)).1 this
 refine⟨key hv hw,fun hr=>?_⟩;rcases Nat.lt_trichotomy ((nodesL L).idxOf v) ((nodesL L).idxOf w)with h1|h1|h1
 ·exact h1
 ·have e:=nodesL_get hv;rw[h1,nodesL_get hw]at e;rw[Option.some.inj e]at hr;omega
 ·have:=key hw hv h1;omega
structure Cover (m:Mach) (L:List TR):Prop where
 step:∀k i:Nat,k<m.rows.length→i<m.ins.toNat→Cov L (accW m k++[(i:Int)])
 sepA:∀k a b:Nat,k<m.rows.length→a<b→b<m.rows.length→Cov L (accW m k++sepW m a b)
 sepB:∀k i a b:Nat,k<m.rows.length→i<m.ins.toNat→a<b→b<m.rows.length→Cov L (accW m k++[(i:Int)]++sepW m a b)
theorem Cover.acc(hc:Cover m L)(h:LogM m L)(hm:Mnl m){k:Nat}(hk:k<m.rows.length):accW m k∈nodesL L:=by
 by_cases h0:accW m k=[]
 ·rw[h0];exact nil_node
 ·exact(h.node hm.p h0).2 (hc.step k 0 hk (by have:=hm.p.v.ins;omega)).pre
theorem LogM.clash(h:LogM m L)(hp:Prp m){R:Nat→Nat→Prop}:∀(w u v:List Int) (p q:Nat),u∈nodesL L→v∈nodesL L→p<m.rows.length→q<m.rows.length→afterR m 0 u=(p:Int)→afterR m 0 v=(q:Int)→
  Cong (smpT m L) R ((nodesL L).idxOf u) ((nodesL L).idxOf v)→Cov L (u++w)→Cov L (v++w)→runR m p w≠runR m q w→Clash (smpT m L) R
 | [],_,_,_,_,_,_,_,_,_,_,_,_,_,hne=>absurd rfl hne
 | a::w,u,v,p,q,hu,hv,hpl,hql,ep,eq,hcg,c1,c2,hne=>by
   have hok:=(h.cov c1).right;obtain⟨i,rfl,hi⟩:=hok.nat;have hti:(smpT m L).ins=m.ins:=by show(m.ins.toNat:Int)=m.ins;exact hp.v.insN.1
   have hiI:(i:Int)<(smpT m L).ins:=by rw[hti];have:=hp.v.ins;omega
   have e1:u++(i:Int)::w=(u++[(i:Int)])++w:=by simp
   have e2:v++(i:Int)::w=(v++[(i:Int)])++w:=by simp
   rw[e1]at c1;rw[e2]at c2;obtain⟨s1,_,es1,ed1⟩:=(h.edge hp hu hi).1 c1.pre;obtain⟨s2,_,es2,ed2⟩:=(h.edge hp hv hi).1 c2.pre;obtain rfl:s1=p:=by omega
   obtain rfl:s2=q:=by omega
   have k1:knownE (eT (smpT m L) ((nodesL L).idxOf u) i)=true:=knownE_to (by rw[ed1];simp only;omega);have k2:knownE (eT (smpT m L) ((nodesL L).idxOf v) i)=true:=knownE_to (by rw[ed2];simp only;omega);by_cases ho:(ex (rowN m s1) i).2=(ex (rowN m s2) i).2
   ·obtain⟨_,t1,_,_,_,x1,l1,_⟩:=hp.edge hpl hi;obtain⟨_,t2,_,_,_,x2,l2,_⟩:=hp.edge hql hi;have hn1:u++[(i:Int)]∈nodesL L:=(h.node hp (by simp)).2 c1.pre;have hn2:v++[(i:Int)]∈nodesL L:=(h.node hp (by simp)).2 c2.pre;refine h.clash hp w _ _ t1 t2 hn1 hn2 l1 l2 ?_ ?_ ?_ c1 c2 ?_
    ·rw[after_app,ep,after_cons,x1];rfl
    ·rw[after_app,eq,after_cons,x2];rfl
    ·have:=Cong.step hcg hiI (bothE_iff.2 ⟨by rw[ed1];simp only;omega,by rw[ed2];simp only;omega⟩);rw[ed1,ed2]at this;simpa only[Int.toNat_natCast]using this
    ·intro e;refine hne ?_;rw[run_cons,run_cons,ho,x1,x2,e]
   ·refine⟨_,_,i,hcg,hiI,?_⟩;cases hcl:clashE (eT (smpT m L) ((nodesL L).idxOf u) i) (eT (smpT m L) ((nodesL L).idxOf v) i)with
    | true=>rfl
    | false=>
      have:=((clashE_iff k1 k2).1 hcl).2 (by rw[ed1];simp only;omega);rw[ed1,ed2]at this;exact absurd this ho
theorem smpA_at{a:Nat}:a∈smpA m L↔∃k,k<m.rows.length∧a=(nodesL L).idxOf (accW m k):=by
 unfold smpA;rw[List.mem_map];exact⟨fun⟨k,h1,h2⟩=>⟨k,List.mem_range.1 h1,h2.symm⟩,fun⟨k,h1,h2⟩=>⟨k,List.mem_range.2 h1,h2.symm⟩⟩
theorem Cover.map_d(hc:Cover m L)(h:LogM m L)(hm:Mnl m):(smpA m L).map (smpD m L)=List.range m.rows.length:=by
 unfold smpA;rw[List.map_map]
 conv=>rhs;rw[←List.map_id (List.range m.rows.length)]
 refine List.map_congr_left fun k hk=>?_;have hk:=List.mem_range.1 hk;exact smpD_at h (hc.acc h hm hk) (hm.p.acc hk).2.to
theorem Cover.smp(hc:Cover m L)(h:LogM m L)(hm:Mnl m)(hs:∀j k,j<k→k<m.rows.length→rk m j<rk m k):Smp (smpT m L) (smpN m) (smpD m L) (smpA m L):=by
 have hp:=hm.p;have hin:=hp.v.ins;have hrw:=hp.v.rows;have hti:(smpT m L).ins=m.ins:=by show(m.ins.toNat:Int)=m.ins;exact hp.v.insN.1
 have hlen:=smpT_len m L;have hd:∀k,k<m.rows.length→smpD m L ((nodesL L).idxOf (accW m k))=k:=fun k hk=>smpD_at h (hc.acc h hm hk) (hp.acc hk).2.to;have hnode:∀x,x<(smpT m L).rows.length→∃(w:List Int) (s:Nat),w∈nodesL L∧(nodesL L).idxOf w=x∧s<m.rows.length∧afterR m 0 w=(s:Int)∧smpD m L x=s:=fun x hx=>by
  obtain⟨w,w1,w2⟩:=node_at (L:=L) (n:=x) (by omega);obtain⟨s,s1,s2⟩:=hp.aft (h.wok hp w1);exact⟨w,s,w1,w2,s1,s2,by rw[←w2];exact smpD_at h w1 s2⟩
 have hedge:∀x i:Nat,(i:Int)<(smpT m L).ins→(eT (smpT m L) x i).1≠ -1→∃(w:List Int) (s:Nat),w∈nodesL L∧(nodesL L).idxOf w=x∧s<m.rows.length∧afterR m 0 w=(s:Int)∧smpD m L x=s∧Cov L (w++[(i:Int)])∧
   eT (smpT m L) x i=((((nodesL L).idxOf (w++[(i:Int)]):Nat):Int),(ex (rowN m s) i).2):=fun x i hi hne=>by
  obtain⟨w,s,w1,w2,s1,s2,s3⟩:=hnode x (eT_in hne);have hiN:i<m.ins.toNat:=by omega
  by_cases hcv:Cov L (w++[(i:Int)])
  ·obtain⟨s',q1,q2,q3⟩:=(h.edge hp w1 hiN).1 hcv;obtain rfl:s'=s:=by omega
   rw[w2]at q3;exact⟨w,s',w1,w2,s1,s2,s3,hcv,q3⟩
  ·have:=(h.edge hp w1 hiN).2 hcv;rw[w2]at this;rw[this]at hne;exact absurd rfl hne
 have hnode1:∀{w:List Int} {i:Nat},Cov L (w++[(i:Int)])→w++[(i:Int)]∈nodesL L:=fun hcv=>(h.node hp (by simp)).2 hcv;refine⟨fun x i hi hk=>?_,fun a ha=>?_,?_,?_,?_,fun x hx=>?_,fun a ha x hx e=>?_,?_,fun a ha i hi=>?_,fun a x i hax hx hi ha hb=>?_,fun u hu h0=>?_,fun a ha b hb i hi hne R hR=>?_⟩
 ·have hx:x<(smpT m L).rows.length:=by
    refine Nat.lt_of_not_le fun hle=>?_;have:eT (smpT m L) x i=(-1,-1):=by unfold eT;rw[List.getElem?_eq_none hle];rfl
    rw[this]at hk;cases hk
  have hne:(eT (smpT m L) x i).1≠ -1:=fun e=>by
   obtain⟨w,s,w1,w2,s1,s2,s3⟩:=hnode x hx;by_cases hcv:Cov L (w++[(i:Int)])
   ·obtain⟨s',q1,q2,q3⟩:=(h.edge hp w1 (by omega)).1 hcv;rw[w2]at q3;rw[q3]at e;simp only at e;omega
   ·have:=(h.edge hp w1 (by omega)).2 hcv;rw[w2]at this;rw[this]at hk;cases hk
  obtain⟨w,s,w1,w2,s1,s2,s3,hcv,q⟩:=hedge x i hi hne;obtain⟨_,t,o,_,_,hx2,ht,_⟩:=hp.edge s1 (i:=i) (by omega);refine⟨hne,by rw[q,s3];rfl,?_⟩;rw[q,s3,Int.toNat_natCast];unfold smpN;rw[hx2,Int.toNat_natCast];refine smpD_at h (hnode1 hcv) ?_;rw[after_app,s2,after_cons,hx2];rfl
 ·obtain⟨k,hk,rfl⟩:=smpA_at.1 ha;rw[hlen];exact List.idxOf_lt_length_of_mem (hc.acc h hm hk)
 ·unfold smpA;rw[List.getElem?_map,List.getElem?_range hp.zero];simp only[Option.map_some];have:accW m 0=[]:=by
   have:=(hp.acc hp.zero).2.len;exact List.length_eq_zero_iff.1 (by omega)
  rw[this,nodesL_nil h hp]
 ·have:(smpA m L).length=m.rows.length:=by simp[smpA]
  omega
 ·rw[hc.map_d h hm];exact List.nodup_range
 ·obtain⟨w,s,w1,w2,s1,s2,s3⟩:=hnode x hx;rw[hc.map_d h hm,s3];exact List.mem_range.2 s1
 ·obtain⟨k,hk,rfl⟩:=smpA_at.1 ha;obtain⟨w,s,w1,w2,s1,s2,s3⟩:=hnode x hx;rw[hd k hk,s3]at e;subst e;refine Nat.le_of_not_lt fun hlt=>?_;rw[←w2,h.idx_lt hp w1 (hc.acc h hm hk)]at hlt;have:=(hp.acc hk).2.least w (h.wok hp w1) s2;omega
 ·unfold smpA;rw[List.pairwise_map];refine List.Pairwise.imp_of_mem (fun{j k} hj hk hjk=>?_) List.pairwise_lt_range;have hj:=List.mem_range.1 hj;have hk:=List.mem_range.1 hk;rw[h.idx_lt hp (hc.acc h hm hj) (hc.acc h hm hk)];exact hs j k hjk hk
 ·obtain⟨k,hk,rfl⟩:=smpA_at.1 ha;obtain⟨s,_,_,q⟩:=(h.edge hp (hc.acc h hm hk) (i:=i) (by omega)).1 (hc.step k i hk (by omega));rw[q];simp only;omega
 ·obtain⟨w,s,w1,w2,_,_,_,c1,q1⟩:=hedge a i hi ha;obtain⟨v,s',v1,v2,_,_,_,c2,q2⟩:=hedge x i hi hb;rw[q1,q2];simp only;refine Int.ofNat_le.2 (Nat.le_of_not_lt fun hlt=>?_);rw[h.idx_lt hp (hnode1 c2) (hnode1 c1),rank_snoc,rank_snoc]at hlt;have h1:rank m.ins.toNat v<rank m.ins.toNat w:=by
   have:=Nat.lt_of_add_lt_add_right hlt;exact Nat.lt_of_mul_lt_mul_left this
  rw[←h.idx_lt hp v1 w1,v2,w2]at h1;omega
 ·obtain⟨k,hk,rfl⟩:=smpA_at.1 hu;have hacc:=(hp.acc hk).2;have hne:accW m k≠[]:=fun e=>h0 (by rw[e];exact nodesL_nil h hp);obtain⟨w,a,hw⟩:∃w a,accW m k=w++[a]:=⟨_,_,(List.dropLast_concat_getLast hne).symm⟩;have hok:=hacc.ok;rw[hw]at hok;obtain⟨i,rfl,hi⟩:=(hok.right).nat;obtain⟨s,hsl,hsw⟩:=hp.aft hok.left;have hsa:=(hp.acc hsl).2;have hto:=hacc.to;rw[hw,after_app,hsw,after_cons]at hto;have h1:=hacc.least (accW m s++[(i:Int)]) (hsa.ok.app (WOk.one hi)) (by rw[after_app,hsa.to,after_cons];exact hto);rw[hw,rank_snoc,rank_snoc]at h1;have h2:=hsa.least w hok.left hsw;have h3:rank m.ins.toNat w≤rank m.ins.toNat (accW m s):=by
   have:=Nat.le_of_add_le_add_right h1;exact Nat.le_of_mul_le_mul_left this (by omega)
  have h4:w=accW m s:=rank_inj hok.left hsa.ok (by omega);have hws:accW m s∈nodesL L:=hc.acc h hm hsl;have hwk:accW m k∈nodesL L:=hc.acc h hm hk;refine⟨_,smpA_at.2 ⟨s,hsl,rfl⟩,i,by omega,?_,?_⟩
  ·rw[h.idx_lt hp hws hwk,hw,rank_snoc,←h4];have:=Nat.le_mul_of_pos_left (rank m.ins.toNat w) (show 0<m.ins.toNat by omega);omega
  ·obtain⟨s',_,_,q⟩:=(h.edge hp hws hi).1 (hc.step s i hsl hi);rw[q,hw,h4]
 ·obtain⟨k,hk,rfl⟩:=smpA_at.1 ha;obtain⟨l,hl,rfl⟩:=smpA_at.1 hb;have hiN:i<m.ins.toNat:=by omega
  have hcl:=hc.step l i hl hiN;obtain⟨s,s1,s2,q⟩:=(h.edge hp (hc.acc h hm hl) hiN).1 hcl;obtain rfl:s=l:=by have:=(hp.acc hl).2.to;omega
  obtain⟨_,t,o,_,_,hx2,ht,_⟩:=hp.edge s1 hiN;have hta:afterR m 0 (accW m s++[(i:Int)])=(t:Int):=by rw[after_app,s2,after_cons,hx2];rfl
  have hdt:=smpD_at h (hnode1 hcl) hta;rw[q,Int.toNat_natCast]at hne hR;rw[hd k hk,hdt]at hne;have hka:=(hp.acc hk).2.to;rcases Nat.lt_or_gt_of_ne hne with hlt|hlt
  ·exact h.clash hp (sepW m k t) _ _ k t (hc.acc h hm hk) (hnode1 hcl) hk ht hka hta (.base hR) (hc.sepA k k t hk hlt ht) (hc.sepB s i k t hl hiN hlt ht) (hm.least hk ht hne).1.2.1
  ·exact h.clash hp (sepW m t k) _ _ k t (hc.acc h hm hk) (hnode1 hcl) hk ht hka hta (.base hR) (hc.sepA k t k hk hlt hk) (hc.sepB s i t k hl hiN hlt hk) fun e=>(hm.least ht hk (fun e=>hne e.symm)).1.2.1 e.symm
theorem Cover.merge(hc:Cover m L)(h:LogM m L)(hm:Mnl m)(hs:∀j k,j<k→k<m.rows.length→rk m j<rk m k)(hn:(nodesL L).length≤65537):
  checkT (smpT m L)=0∧mergeT (smpT m L)=some (m.rows.map (·.2)):=by
 have hp:=hm.p;have hin:=hp.v.ins;have hck:checkT (smpT m L)=0:=checkT_tree (h.val hp) h.cons (by omega) hp.v.outs hn;refine⟨hck,?_⟩;rw[(hc.smp h hm hs).mergeT (TV.of hck)];congr 1;unfold smpRows;rw[hc.map_d h hm];apply List.ext_getElem
 ·simp
 intro s h1 h2;have hsl:s<m.rows.length:=by simpa using h2
 rw[List.getElem_map,List.getElem_map,List.getElem_range];have hti:(smpT m L).ins.toNat=m.ins.toNat:=by show((m.ins.toNat:Int)).toNat=m.ins.toNat;exact Int.toNat_natCast _
 rw[hti];apply List.ext_getElem
 ·have:=(hp.v.row _ (List.getElem_mem hsl)).1;simp;omega
 intro i k1 k2;have hiN:i<m.ins.toNat:=by simpa using k1
 obtain⟨r,t,o,hr,he,hx,ht,_⟩:=hp.edge hsl hiN;rw[List.getElem_map,List.getElem_range];have hidx:(List.range m.rows.length).idxOf t=t:=by
  have:=(List.nodup_range (n:=m.rows.length)).idxOf_getElem t (by simpa using ht);rw[List.getElem_range]at this;exact this
 have hr':m.rows[s]=r:=by rw[List.getElem?_eq_getElem hsl]at hr;exact Option.some.inj hr
 have hei:(m.rows[s]).2[i]?=some ((t:Int),o):=by rw[hr'];exact he
 rw[List.getElem?_eq_getElem (by simpa using k2)]at hei;rw[Option.some.inj hei];unfold smpN;rw[hx];simp only[Int.toNat_natCast,hidx]
theorem insW_keep{x z:RW}:∀{W:List RW},z∈W→z∈insW W x
 | y::l,h=>by
   rw[insW];split
   ·rcases List.mem_cons.1 h with rfl|h
    ·exact List.mem_cons_self
    ·exact List.mem_cons_of_mem _ (insW_keep h)
   ·split
    ·exact h
    ·exact List.mem_cons_of_mem _ h
theorem insW_has(x:RW):∀W:List RW,∃z∈insW W x,z.2.1=x.2.1
 | []=>⟨x,by simp[insW],rfl⟩
 | y::l=>by
   rw[insW];split
   ·obtain⟨z,h1,h2⟩:=insW_has x l;exact⟨z,List.mem_cons_of_mem _ h1,h2⟩
   ·split
    ·rename_i h;exact⟨y,List.mem_cons_self,cmpL_zero.1 h⟩
    ·exact⟨x,List.mem_cons_self,rfl⟩
theorem sortL_keep{z:RW}:∀{l W:List RW},z∈W→z∈sortL W l
 | [],_,h=>h
 | x::l,W,h=>sortL_keep (l:=l) (insW_keep h)
theorem sortL_has{x:RW}:∀{l W:List RW},x∈l→∃z∈sortL W l,z.2.1=x.2.1
 | y::l,W,h=>by
   rcases List.mem_cons.1 h with rfl|h
   ·obtain⟨z,h1,h2⟩:=insW_has (false,x.2.1,.unk) W;exact⟨z,sortL_keep (l:=l) h1,h2⟩
   ·exact sortL_has (l:=l) h
theorem sortW_has{x:RW}{l:List RW}(h:x∈l):∃z∈sortW l,z.2.1=x.2.1:=sortL_has h
theorem catR_keep{a:List Int}{z:RW}:∀{B V:List RW},z∈V→z∈catR a V B
 | [],_,h=>h
 | y::B,V,h=>catR_keep (B:=B) (insW_keep h)
theorem catR_has{a:List Int}{y:RW}:∀{B V:List RW},y∈B→∃z∈catR a V B,z.2.1=a++y.2.1
 | b::B,V,h=>by
   rcases List.mem_cons.1 h with rfl|h
   ·obtain⟨z,h1,h2⟩:=insW_has (false,a++y.2.1,.unk) V;exact⟨z,catR_keep (B:=B) h1,h2⟩
   ·exact catR_has (B:=B) h
theorem catL_keep{B:List RW}{z:RW}:∀{A V:List RW},z∈V→z∈catL V A B
 | [],_,h=>h
 | x::A,V,h=>catL_keep (A:=A) (catR_keep h)
theorem catL_has{B:List RW}{x y:RW}(hy:y∈B):∀{A V:List RW},x∈A→∃z∈catL V A B,z.2.1=x.2.1++y.2.1
 | a::A,V,h=>by
   rcases List.mem_cons.1 h with rfl|h
   ·obtain⟨z,h1,h2⟩:=catR_has (a:=x.2.1) (V:=V) hy;exact⟨z,catL_keep (A:=A) h1,h2⟩
   ·exact catL_has hy (A:=A) h
theorem catW_has{A B:List RW}{x y:RW}(hx:x∈A)(hy:y∈B):∃z∈catW A B,z.2.1=x.2.1++y.2.1:=catL_has hy hx
theorem uptoW_nil(n:Nat):(false,[],Cp.unk)∈uptoW n 1∧(false,[],Cp.unk)∈uptoW n 2:=⟨by simp[uptoW,exW],by simp[uptoW,exW,List.range_succ]⟩
theorem uptoW_sym{n i:Nat}(hi:i<n):(false,[(i:Int)],Cp.unk)∈uptoW n 2:=by
 simp only[uptoW,List.mem_flatMap,List.mem_range];refine⟨1,by omega,?_⟩;simp[exW,moreS,oneS];exact⟨i,hi,rfl⟩
theorem uptoW_ok{n k:Nat}(hk:k≤2):∀x∈uptoW n k,WOk n x.2.1:=fun x hx=>by
 simp only[uptoW,List.mem_flatMap,List.mem_range]at hx;obtain⟨j,hj,hx⟩:=hx;rcases(show j=0∨j=1 by omega)with rfl|rfl
 ·simp[exW]at hx;subst hx;exact WOk.nil _
 ·obtain⟨r,hr,s,hs,rfl⟩:=moreS_word (O:=exW n 0) hx;simp[exW]at hr;subst hr;exact WOk.one hs
variable {m:Mach}
theorem Mnl.acc_in(h:Mnl m){k:Nat}(hk:k<m.rows.length):∃z∈stL m,z.2.1=accW m k:=
 sortW_has (x:=(false,accW m k,.unk)) (List.mem_map.2 ⟨k,List.mem_range.2 hk,rfl⟩)
theorem Mnl.sep_in(h:Mnl m){a b:Nat}(hab:a<b)(hb:b<m.rows.length):∃z∈fullL (allW m),z.2.1=sepW m a b:=by
 obtain⟨z,h1,h2⟩:=sortW_has (mem_sepT hab hb);refine⟨z,?_,h2⟩;unfold fullL;have hz:z∈allW m:=h1;cases he:(allW m).isEmpty with
 | false=>rw[if_neg Bool.false_ne_true];exact hz
 | true=>rw[List.isEmpty_iff.1 he]at hz;cases hz
theorem fullL_ne(l:List RW):∃z,z∈fullL l:=by
 unfold fullL;cases l with
 | nil=>exact⟨_,List.mem_singleton.2 rfl⟩
 | cons x l=>exact⟨x,List.mem_cons_self⟩
theorem Mnl.word_in(h:Mnl m){k:Nat}(hk:k<m.rows.length){u:RW}(hu:u∈uptoW m.ins.toNat 2){y:RW}(hy:y∈fullL (allW m)):∃z∈wcL m,z.2.1=accW m k++u.2.1++y.2.1:=by
 obtain⟨a,a1,a2⟩:=h.acc_in hk;obtain⟨b,b1,b2⟩:=catW_has a1 hu;obtain⟨c,c1,c2⟩:=catW_has b1 (uptoW_nil m.ins.toNat).1;obtain⟨z,z1,z2⟩:=catW_has c1 hy;exact⟨z,z1,by rw[z2,c2,b2,a2,List.append_nil]⟩
theorem Mnl.wcL_ok(h:Mnl m):∀z∈wcL m,WOk m.ins.toNat z.2.1∧z.1=false∧z.2.1.length≤m.rows.length+m.rows.length:=fun z hz=>by
 obtain⟨c,hc,y,hy,rfl⟩:=catW_mem hz;obtain⟨b,hb,u,hu,rfl⟩:=catW_mem hc;obtain⟨t1,t2⟩:=h.trL_ok;obtain⟨a1,a2⟩:=h.allW_ok;have l1:=t2 b hb;have l2:=uptoW_short u hu;obtain⟨a,ha,u2,hu2,rfl⟩:=catW_mem hb;obtain⟨s,hs,e⟩:=sortW_mem ha;obtain⟨t,ht,rfl⟩:=List.mem_map.1 hs;have o1:=(h.p.acc (List.mem_range.1 ht)).2.ok;have o2:=uptoW_ok (by omega) u hu;have o3:=uptoW_ok (by omega) u2 hu2;have o4:WOk m.ins.toNat y.2.1∧y.2.1.length≤m.rows.length:=by
  rcases fullL_mem hy with e|e
  ·rw[e];exact⟨WOk.nil _,by simp⟩
  ·obtain⟨v,hv,e2⟩:=sortW_mem e;obtain⟨p,q,q1,q2,rfl⟩:=sepT_mem (Nat.le_refl _) hv;rw[e2];have:=h.least (s:=p) (t:=q) (by omega) q2 (by omega);exact⟨this.1.1,by simp only;omega⟩
 refine⟨?_,rfl,?_⟩
 ·refine WOk.app (WOk.app (WOk.app ?_ o3) o2) o4.1;rw[e];exact o1
 ·simp only[List.length_append]at l1⊢;omega
theorem preB_iff{a b:List Int}:preB a b=true↔a.length<b.length∧b.take a.length=a:=by
 unfold preB;simp only[Bool.and_eq_true,decide_eq_true_eq];constructor
 ·rintro⟨h1,h2⟩;exact⟨h1,(cmpL_zero.1 h2).symm⟩
 ·rintro⟨h1,h2⟩;exact⟨h1,cmpL_zero.2 h2.symm⟩
theorem redW_pre{l:List RW}{N:Nat}(hN:∀x∈l,x.2.1.length≤N):∀(d:Nat) (x:RW),x∈l→N-x.2.1.length≤d→∃y∈redW l,x.2.1.length≤y.2.1.length∧y.2.1.take x.2.1.length=x.2.1:=fun d=>by
 induction d with
 | zero=>
   intro x hx hd;refine⟨x,?_,Nat.le_refl _,List.take_length⟩;unfold redW;rw[List.mem_filter];refine⟨hx,?_⟩;simp only[anyPre,Bool.not_eq_true',List.any_eq_false];intro y hy hp;have:=(preB_iff.1 hp).1;have:=hN y hy;omega
 | succ d ih=>
   intro x hx hd;by_cases hp:anyPre l x=true
   ·unfold anyPre at hp;rw[List.any_eq_true]at hp;obtain⟨y,hy,hp⟩:=hp;obtain⟨p1,p2⟩:=preB_iff.1 hp;have:=hN y hy;obtain⟨z,z1,z2,z3⟩:=ih y hy (by omega);refine⟨z,z1,by omega,?_⟩;have e:=congrArg (List.take x.2.1.length) z3;rw[List.take_take,Nat.min_eq_left (by omega),p2]at e;exact e
   ·refine⟨x,?_,Nat.le_refl _,List.take_length⟩;unfold redW;rw[List.mem_filter];exact⟨hx,by simpa using hp⟩
theorem Mnl.cover(h:Mnl m){L:List TR}(hL:∀x∈wL m,runTR m x∈L):Cover m L:=by
 have hN:=fun z hz=>(h.wcL_ok z hz).2.2;have key:∀{k:Nat} {u y:RW},k<m.rows.length→u∈uptoW m.ins.toNat 2→y∈fullL (allW m)→Cov L (accW m k++u.2.1++y.2.1):=fun hk hu hy=>by
  obtain⟨z,z1,z2⟩:=h.word_in hk hu hy;obtain⟨w,w1,w2,w3⟩:=redW_pre hN _ z z1 (Nat.le_refl _);rw[z2]at w2 w3;exact⟨runTR m w,hL w w1,w2,w3⟩
 refine⟨fun k i hk hi=>?_,fun k a b hk hab hb=>?_,fun k i a b hk hi hab hb=>?_⟩
 ·obtain⟨y,hy⟩:=fullL_ne (allW m);exact(key hk (uptoW_sym hi) hy).pre
 ·obtain⟨y,hy,e⟩:=h.sep_in hab hb;have:=key hk (uptoW_nil m.ins.toNat).2 hy;rw[e,List.append_nil]at this;exact this
 ·obtain⟨y,hy,e⟩:=h.sep_in hab hb;have:=key hk (uptoW_sym hi) hy;rw[e]at this;exact this
theorem Mnl.wL_ok(h:Mnl m)(hn:m.rows.length≤5)(hi:m.ins.toNat≤3):(wL m).length≤600∧wL m≠[]∧∀x∈wL m,WOk m.ins.toNat x.2.1∧x.1=x.2.1.isEmpty∧x.2.1.length≤10:=by
 obtain⟨t1,t2⟩:=h.trL_ok;obtain⟨a1,a2⟩:=h.allW_ok;have hin:=h.p.v.ins;have t1:(trL m).length≤5*4:=Nat.le_trans t1 (Nat.mul_le_mul hn (by omega));have a1:(allW m).length≤5*5:=Nat.le_trans a1 (Nat.mul_le_mul hn hn);have hu1:(uptoW m.ins.toNat 1).length=1:=rfl;have f1:=fullL_len (allW m);have c1:=catW_len (trL m) (uptoW m.ins.toNat 1);rw[hu1]at c1;have d1:=catW_len (catW (trL m) (uptoW m.ins.toNat 1)) (fullL (allW m));have d2:=Nat.mul_le_mul (show(catW (trL m) (uptoW m.ins.toNat 1)).length≤20 by omega) (show(fullL (allW m)).length≤26 by omega);have d3:(wcL m).length≤20*26:=Nat.le_trans d1 d2;have r1:(wL m).length≤(wcL m).length:=List.length_filter_le _ _;obtain⟨y,hy⟩:=fullL_ne (allW m);obtain⟨z,z1,z2⟩:=h.word_in h.p.zero (uptoW_sym (n:=m.ins.toNat) (i:=0) (by omega)) hy;have z3:0<z.2.1.length:=by rw[z2];simp;omega
 have hN:=fun z hz=>(h.wcL_ok z hz).2.2;refine⟨by omega,fun e=>?_,fun x hx=>?_⟩
 ·obtain⟨w,w1,_⟩:=redW_pre hN _ z z1 (Nat.le_refl _);have:w∈wL m:=w1;rw[e]at this;cases this
 ·have hx':x∈wcL m∧(!anyPre (wcL m) x)=true:=by
    have:x∈redW (wcL m):=hx;unfold redW at this;exact List.mem_filter.1 this
  obtain⟨o1,o2,o3⟩:=h.wcL_ok x hx'.1;refine⟨o1,?_,by omega⟩;rw[o2];cases hxe:x.2.1 with
  | cons=>rfl
  | nil=>
    exfalso;have:=hx'.2;simp only[anyPre,Bool.not_eq_true',List.any_eq_false]at this;exact this z z1 (preB_iff.2 ⟨by rw[hxe];exact z3,by rw[hxe];rfl⟩)
theorem nodesL_sum:∀(L:List TR) (l:List (List Int)),(∀t∈L,t.r.length=t.w.length)→(L.foldl (fun l t=>addP t l (preN t.r)) l).length≤l.length+sumW L
 | [],l,_=>by simp[sumW]
 | t::L,l,h=>by
   have ih:=nodesL_sum L (addP t l (preN t.r)) fun u hu=>h u (List.mem_cons_of_mem _ hu);have h1:=addP_len t l (preN t.r);have h2:=preN_le t.r;have h3:=h t List.mem_cons_self;have h4:sumW (t::L)=t.w.length+sumW L:=by simp[sumW]
   rw[List.foldl_cons];omega
theorem sumW_le{N:Nat}:∀{L:List TR},(∀t∈L,t.w.length≤N)→sumW L≤L.length*N
 | [],_=>by simp[sumW]
 | t::L,h=>by
   have ih:=sumW_le (L:=L) fun u hu=>h u (List.mem_cons_of_mem _ hu);have h1:=h t List.mem_cons_self;have h4:sumW (t::L)=t.w.length+sumW L:=by simp[sumW]
   rw[List.length_cons,Nat.succ_mul];omega
theorem Mnl.sample(h:Mnl m)(hs:∀j k,j<k→k<m.rows.length→rk m j<rk m k){W:List RW}(hW:∀x∈W,WOk m.ins.toNat x.2.1∧x.2.1.length≤20)(hl:W.length≤1000)(hall:∀x∈wL m,x∈W):
  LogOk m.ins.toNat m.outs (W.map (runTR m))∧Cons (W.map (runTR m))∧checkT (smpT m (W.map (runTR m)))=0∧mergeT (smpT m (W.map (runTR m)))=some (m.rows.map (·.2)):=by
 have hM:LogM m (W.map (runTR m)):=⟨fun t ht=>by
  obtain⟨x,hx,rfl⟩:=List.mem_map.1 ht;exact⟨(hW x hx).1,rfl⟩⟩
 have hin:=h.p.v.ins;have hshort:∀t∈W.map (runTR m),t.w.length≤20:=fun t ht=>by
  obtain⟨x,hx,rfl⟩:=List.mem_map.1 ht;exact(hW x hx).2
 have hsum:=sumW_le hshort;rw[List.length_map]at hsum;have hval:=hM.val h.p;have hsum2:W.length*20≤1000*20:=Nat.mul_le_mul_right _ hl;have hn:=nodesL_sum (W.map (runTR m)) [[]] fun t ht=>(hval t ht).len;have hn2:(nodesL (W.map (runTR m))).length≤65537:=by
  have e:nodesL (W.map (runTR m))=(W.map (runTR m)).foldl (fun l t=>addP t l (preN t.r)) [[]]:=rfl;rw[e];simp only[List.length_singleton]at hn;omega
 have hc:=h.cover (L:=W.map (runTR m)) fun x hx=>List.mem_map.2 ⟨x,hall x hx,rfl⟩;obtain⟨k1,k2⟩:=hc.merge hM h hs hn2;refine⟨⟨by omega,h.p.v.outs,hval,fun t ht=>by have:=hshort t ht;omega,by simp;omega,by omega⟩,hM.cons,k1,k2⟩
end Go.Avl
