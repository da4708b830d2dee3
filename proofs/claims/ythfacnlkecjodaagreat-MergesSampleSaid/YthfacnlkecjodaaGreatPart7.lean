/-
  Lemmas.
-/
import Derived.Test.YthfacnlkecjodaaGreatPart6
set_option linter.unusedSimpArgs false
set_option linter.unusedVariables false
set_option linter.unnecessarySimpa false
set_option linter.deprecated false
namespace Go.Avl
open Go Go.Proofs.Tryz
set_option maxRecDepth 10000
def edgeM(up red:List Nat)(W:Nat→Nat→Int×Int)(s i:Nat):Int×Int:=
 if(W (rootU up ((red[s]?).getD 0)) i).1≠ -1 then(((redE up red).idxOf ((rootU up (W (rootU up ((red[s]?).getD 0)) i).1.toNat:Nat):Int):Nat),(W (rootU up ((red[s]?).getD 0)) i).2)else(-1,-1)
def rowM(up red:List Nat)(W:Nat→Nat→Int×Int)(I s:Nat):List (Int×Int):=(List.range I).map (edgeM up red W s)
def rowFu(es:List (Int×Int)):List AV:=[.sl false (es.map edgeC) .full]
def machP(up red:List Nat)(W:Nat→Nat→Int×Int)(I s:Nat):List (List AV):=((List.range s).map fun k=>rowFu (rowM up red W I k))++List.replicate (red.length-s) [.sl true [] .zer]
def rowP(up red:List Nat)(W:Nat→Nat→Int×Int)(I s i:Nat):List (Int×Int):=((List.range i).map (edgeM up red W s))++List.replicate (I-i) (0,0)
theorem set_ren{es:List (List AV)}{s k j n:Nat}{cp:Cp}{K:List (Nat×Nat)}(hn:es.all AV.norefs=true)(hk:rlook K k=some j):(es.set s [.tv k n 0 n cp]).map (fun c=>c.map (AV.ren K))=es.set s [.tv j n 0 n cp]:=by
 have hid:es.map (fun c=>c.map (AV.ren K))=es:=by
  conv=>rhs;rw[←List.map_id es]
  refine List.map_congr_left fun c hc=>?_;rw[List.all_eq_true]at hn;have h1:=hn c hc;have:∀(l:List AV),AV.norefs l=true→l.map (AV.ren K)=l:=by
   intro l
   induction l with
   | nil=>intro _;rfl
   | cons y ys ih=>
     intro h;simp only[AV.norefs,Bool.and_eq_true]at h;rw[List.map_cons,ih h.2,AV.ren,if_pos h.1]
  exact this c h1
 rw[List.map_set,hid];congr 1;simp[AV.ren,AV.noref,AV.deep,renLeaf,hk]
theorem set_norefs{es:List (List AV)}{s k n:Nat}{cp:Cp}(h:s<es.length):(es.set s [.tv k n 0 n cp]).all AV.norefs=false:=by
 rw[List.all_eq_false];refine⟨[.tv k n 0 n cp],?_,by simp[AV.norefs,AV.noref]⟩;rw[List.mem_iff_getElem];exact⟨s,by rw[List.length_set];exact h,by simp⟩
theorem machP_next{up red:List Nat}{W:Nat→Nat→Int×Int}{I s:Nat}(hs:s<red.length):(machP up red W I s).set s (rowFu (rowM up red W I s))=machP up red W I (s+1):=by
 obtain⟨d,hd⟩:∃d,red.length-s=d+1:=⟨red.length-s-1,by omega⟩;have hd':red.length-(s+1)=d:=by omega
 rw[machP,machP,hd,hd',List.replicate_succ,List.set_append_right _ _ (by simp),List.length_map,List.length_range,Nat.sub_self,List.set_cons_zero,List.range_succ,List.map_append,List.append_assoc];rfl
theorem rowP_all(up red:List Nat)(W:Nat→Nat→Int×Int)(I s:Nat):rowP up red W I s I=rowM up red W I s:=by simp[rowP,rowM]
theorem rowP_get{up red:List Nat}{W:Nat→Nat→Int×Int}{I s i:Nat}(hi:i<I):(rowP up red W I s i)[i]?=some (0,0):=by
 rw[rowP,List.getElem?_append_right (by simp),List.length_map,List.length_range,Nat.sub_self,List.getElem?_replicate,if_pos (by omega)]
theorem rowP_next{up red:List Nat}{W:Nat→Nat→Int×Int}{I s i:Nat}(hi:i<I):(rowP up red W I s i).set i (edgeM up red W s i)=rowP up red W I s (i+1):=by
 obtain⟨d,hd⟩:∃d,I-i=d+1:=⟨I-i-1,by omega⟩;have hd':I-(i+1)=d:=by omega
 rw[rowP,rowP,hd,hd',List.replicate_succ,List.set_append_right _ _ (by simp),List.length_map,List.length_range,Nat.sub_self,List.set_cons_zero,List.range_succ,List.map_append,List.append_assoc];rfl
set_option maxHeartbeats 8000000 in
theorem machine49_body{t:Mach}(v:TV t){I:Nat}(hI:t.ins=(I:Int)){N:Nat}(hNr:N=t.rows.length){up:List Nat}(hu:UpOk up)(hul:up.length=N)(W:Nat→Nat→Int×Int)(hW:∀p i,p<N→rootU up p=p→i<I→(W p i).1=-1∨(0≤(W p i).1∧(W p i).1<N))(nl:Bool)(red:List Nat)(c:Cp)(hred:∀r∈red,r<N)(hrl:1≤red.length∧red.length<1000000)(hnd:(redE up red).Nodup)
  (hall:∀r∈red,∀i,i<I→(W (rootU up r) i).1≠ -1→((rootU up (W (rootU up r) i).1.toNat:Nat):Int)∈redE up red){R:AV→Mem→Nat→Prop}
  (hR:∀up',UpOk up'→up'.length=N→(∀k,rootU up' k=rootU up k)→R (.ag [.sc (.int .i64 t.ins),.sc (.int .i64 t.outs),.sl false ((List.range red.length).map fun s=>rowFu (rowM up red W I s)) .full]) (frM N up' (rowsV W N I)++[(1000101,.cells [.sc (.int .i64 t.ins),.sc (.int .i64 t.outs),.sl false ((List.range red.length).map fun s=>rowFu (rowM up red W I s)) .full])]) 1000102):
  BodyIs prog 36 [.rf 1000010 0,.ag t.cells,.sl nl (red.map natC) c] (frM N up (rowsV W N I)) 1000100 R:=by
 have hrw:=v.rows;have hin:=v.ins;refine BodyIs.of (nv:=3) (hid:=[4,6,7,8,9,10,11,12,24,25,26,27,46,47,48,49,63,13,14,22,36]) func36 rfl (by kernel_rfl) (by simp[ntmps36]) fun h0=>?_;rw[ntmps36,results36];unfold frM;refine EvC.a ?_ (by simp only[go_sem,Mach.cells]<;>rfl);refine EvC.z 1000100 ?_;apply EvC.seq;apply EvC.rs
 ·simp only[go_sem]<;>rfl
 ·simp
 refine XR.gcTo ⟨[(0,.rf 1000010 0),(2,.sl nl (red.map natC) c),(4,.ia t.cells),(6,.rf 1000101 0),(13,.rf 1000010 0),(14,.sl nl (red.map natC) c)],[],frM N up (rowsV W N I)++[(1000101,.cells [.sc (.int .i64 0),.sc (.int .i64 0),.sl true [] .zer])],1000150⟩ [0,2,4,6,13,14] [(1000010,1000010),(1000011,1000011),(1000101,1000101)] rfl (by simp only[go_sem,frM,Mach.cells,List.cons_append,List.nil_append]<;>rfl) ?_;refine XR.callF (frM N up (rowsV W N I)) [(1000101,.cells [.sc (.int .i64 0),.sc (.int .i64 0),.sl true [] .zer])] rfl rfl (by simp only[go_sem]<;>rfl) (by simp only[go_sem]<;>rfl) (by simp only[go_sem]<;>rfl) (by simp only[go_sem]<;>rfl) rfl ?_;refine states48_body ⟨by omega,by omega⟩ hu hul _ nl red c hred hrl.2 hnd ?_;intro up1 hu1 hul1 hroot1;refine⟨by simp,⟨[(1000010,1000010),(1000011,1000011),(1000150,1000150)],rfl,by simp only[go_sem,frM,List.cons_append,List.nil_append]<;>rfl,rfl,rfl⟩,?_⟩;apply XR.done
 ·simp only[go_sem]<;>rfl
 ·simp
 unfold frM;have hrlz:(List.replicate red.length [AV.sl true [] .zer]).length=red.length:=List.length_replicate;apply EvC.seq;apply EvC.drwA mixed
 ·apply Tr.done
  ·simp only[go_sem,Mach.cells,List.length_map,List.cons_append,List.nil_append,hrlz]<;>rfl
  ·simp[room_eq];omega
 ·kernel_rfl
 refine EvC.seq ?_;refine EvC.a ?_ (by simp only[go_sem,List.length_map]<;>rfl);refine EvC.block ?_;refine EvC.loopS (σ:=Nat×List Nat) (fun g=>⟨[(0,.rf 1000010 0),(4,.ia t.cells),(6,.rf 1000101 0),(7,.mp 1000150),(8,.rf 1000103 0),(24,.sl nl (red.map natC) c),(25,.sc (.int .i64 red.length)),(26,.sc (.int .i64 g.1))],[],
   [(1000010,.cells [.tv 1000011 N 0 N .unk,.sl false (rowsV W N I) .unk]),(1000011,.arr 1 (g.2.map natC) false),(1000150,.map 3 (entsI 0 (redE up red))),(1000101,.cells [.sc (.int .i64 0),.sc (.int .i64 0),.sl true [] .zer]),(1000102,.arr 1 (machP up red W I g.1) false),(1000103,.cells [.sc (.int .i64 t.ins),.sc (.int .i64 t.outs),.tv 1000102 red.length 0 red.length (.val red.length)])],1000151⟩) (fun g=>red.length-g.1)
  (fun g=>g.1≤red.length∧UpOk g.2∧g.2.length=N∧∀k,rootU g.2 k=rootU up k) [0,4,6,7,8,24,25,26] 1000151 ?_ ?_
 ·have hz2:(List.replicate red.length [AV.sl true [] .zer]).all AV.norefs=true:=by simp[List.all_eq_true,AV.norefs,AV.noref]
  exact⟨[(1000010,1000010),(1000011,1000011),(1000150,1000150),(1000101,1000101),(1000158,1000102),(1000160,1000103)],(0,up1),rfl,(by simp only[go_sem,hz2,if_true,Mach.cells,machP,List.range_zero,List.map_nil,List.nil_append,Nat.sub_zero,Int.natCast_zero]<;>rfl),Nat.zero_le _,hu1,hul1,hroot1⟩
 clear hroot1 hul1 hu1;rintro⟨s,u⟩ ⟨h1,h2,h3,h4⟩;simp only at h1 h2 h3 h4⊢;have hsin:(s:Int).toNat=s:=Int.toNat_natCast s;have hpl:(machP up red W I s).length=red.length:=by simp[machP];omega
 have hpn:∀s,(machP up red W I s).all AV.norefs=true:=fun s=>by simp[machP,rowFu,List.all_eq_true,AV.norefs,AV.noref]
 refine EvC.a ?_;refine EvC.seq ?_;refine EvC.cd (fun hc=>?_) (fun hc=>?_);rotate_left
 ·
  obtain rfl:s=red.length:=by have:¬s<red.length:=by simpa using hc
                              omega
  refine EvC.exit ?_;refine EvC.frzD 1000102 (by simp only[go_sem,hpn,hpl]<;>rfl) ?_;have hpe:machP up red W I red.length=(List.range red.length).map fun s=>rowFu (rowM up red W I s):=by simp[machP]
  rw[hpe];refine EvC.a ?_;refine EvC.gcE (st2:=⟨[(6,.rf 1000101 0)],[],frM N u (rowsV W N I)++[(1000101,.cells [.sc (.int .i64 t.ins),.sc (.int .i64 t.outs),.sl false ((List.range red.length).map fun s=>rowFu (rowM up red W I s)) .full])],1000102⟩) [6] [(1000010,1000010),(1000011,1000011),(1000101,1000101)] 1000102 rfl (by simp only[go_sem,frM,List.cons_append,List.nil_append]<;>rfl) ?_;refine EvC.ret ⟨.inl rfl,_,(by simp only[go_sem,frM,List.cons_append,List.nil_append]<;>rfl),?_⟩;exact hR u h2 h3 h4
 have hs:s<red.length:=by simpa using hc
 clear hc;refine EvC.skip ?_;refine EvC.seq ?_;refine EvC.block ?_;have hx:red[s]?=some (red[s]'hs):=List.getElem?_eq_getElem hs;have hxN:=hred _ (List.getElem_mem hs);have hxm:=List.getElem_mem hs;have hem:∀i,edgeM up red W s i=if(W (rootU up (red[s]'hs)) i).1≠ -1 then((((redE up red).idxOf ((rootU up (W (rootU up (red[s]'hs)) i).1.toNat:Nat):Int):Nat):Int),(W (rootU up (red[s]'hs)) i).2)else(-1,-1):=fun i=>by
  unfold edgeM;rw[hx];rfl
 generalize red[s]'hs=x at hx hxN hxm hem;have hIn:t.ins.toNat=I:=by omega
 have hpi:(machP up red W I s)[s]?=some [.sl true [] .zer]:=by
  rw[machP,List.getElem?_append_right (by simp),List.length_map,List.length_range,Nat.sub_self,List.getElem?_replicate,if_pos (by omega)]
 have hrI:(List.replicate I [AV.sc (.int .i64 0),.sc (.int .i64 0)]).length=I:=List.length_replicate;refine EvC.a ?_ (by simp only[go_sem,hx,natC,hsin,List.length_map]<;>rfl) (by simp;try omega);apply EvC.seq;apply EvC.drwA mixed
 ·apply Tr.done
  ·simp only[go_sem,Mach.cells,hIn,hI,Int.toNat_natCast,hpl,hpi,hsin,hrI]<;>rfl
  ·simp[room_eq,hpl];omega
 ·kernel_rfl
 obtain⟨q1,q2,q3,q4⟩:=halved_ok h2 (n:=x) (by omega);have w1:=least44_is h2 (by omega) (n:=x) (by omega);have hpN:rootU up x<N:=by have:=rootU_le hu x;omega
 have hall':=hall x hxm;rw[h3,h4]at w1;have hul1:(u.map natC).length=N:=by rw[List.length_map,h3]
 obtain⟨u1,hu1⟩:∃u1,u1=halved u x:=⟨_,rfl⟩;rw[←hu1]at q2 q3 q4 w1;have hul2:(u1.map natC).length=N:=by rw[List.length_map,q3,h3]
 have hu1r:∀k,rootU u1 k=rootU up k:=fun k=>by rw[q4,h4]
 have hu1l:u1.length=N:=by rw[q3,h3]
 clear h2 h3 h4 q1 q4 hu1;have hpp:=rootU_root hu x;generalize rootU up x=p at hpN hem hall' w1 hpp;have hpin:(p:Int).toNat=p:=Int.toNat_natCast p;have hvl:=rowsV_len W N I;have hvp:=rowsV_get (W:=W) (I:=I) hpN;apply EvC.seq;apply EvC.drwA mixed
 ·apply Tr.run
  ·simp only[go_sem]<;>rfl
  ·simp
  apply Tr.cons
  ·exact .callW (i:=1000010) (u:=1000011) rfl rfl (by simp only[go_sem]<;>rfl) (by simp only[go_sem]<;>rfl) (by simp only[go_sem]<;>rfl) (by simp only[go_sem]<;>rfl) (by simp only[go_sem]<;>rfl) (by simp only[go_sem]<;>rfl) hul1.symm (by omega) (by rw[hul2,hul1]) (norefs_natC _) (norefs_natC _) rfl rfl (by simp only[go_sem]<;>rfl) w1
  apply Tr.done
  ·simp only[go_sem,hvp,hvl,hpin,gcells_len]<;>rfl
  ·simp;try omega
 ·kernel_rfl
 refine EvC.block ?_;refine EvC.loopS (σ:=Nat×List Nat) (fun g=>⟨[(0,.rf 1000010 0),(4,.ia t.cells),(6,.rf 1000101 0),(7,.mp 1000150),(8,.rf 1000103 0),(9,.sc (.int .i64 s)),(24,.sl nl (red.map natC) c),(25,.sc (.int .i64 red.length)),(26,.sc (.int .i64 s)),(46,.sl false (gcells edgeC (W p) I) .unk),(47,.sc (.int .i64 I)),(48,.sc (.int .i64 g.1))],[],
   [(1000010,.cells [.tv 1000011 N 0 N .unk,.sl false (rowsV W N I) .unk]),(1000011,.arr 1 (g.2.map natC) false),(1000150,.map 3 (entsI 0 (redE up red))),(1000101,.cells [.sc (.int .i64 0),.sc (.int .i64 0),.sl true [] .zer]),(1000102,.arr 1 ((machP up red W I s).set s [.tv 1000104 I 0 I (.val I)]) false),(1000103,.cells [.sc (.int .i64 t.ins),.sc (.int .i64 t.outs),.tv 1000102 red.length 0 red.length (.val red.length)]),(1000104,.arr 2 ((rowP up red W I s g.1).map edgeC) false)],1000151⟩) (fun g=>I-g.1)
  (fun g=>g.1≤I∧UpOk g.2∧g.2.length=N∧∀k,rootU g.2 k=rootU up k) [0,4,6,7,8,9,24,25,26,46,47,48] 1000151 ?_ ?_
 ·have hsr:=set_ren (n:=I) (cp:=.val I) (hpn s) (s:=s) (k:=1000162) (j:=1000104) (K:=[(1000010,1000010),(1000011,1000011),(1000150,1000150),(1000101,1000101),(1000102,1000102),(1000103,1000103),(1000162,1000104)]) rfl;have hsnr:=set_norefs (k:=1000162) (n:=I) (cp:=.val I) (show s<(machP up red W I s).length by omega);have hz3:(List.replicate I [AV.sc (.int .i64 0),.sc (.int .i64 0)]).all AV.norefs=true:=by simp[List.all_eq_true,AV.norefs,AV.noref]
  have hr0:(rowP up red W I s 0).map edgeC=List.replicate I [AV.sc (.int .i64 0),.sc (.int .i64 0)]:=by simp[rowP,edgeC]
  exact⟨[(1000010,1000010),(1000011,1000011),(1000150,1000150),(1000101,1000101),(1000102,1000102),(1000103,1000103),(1000162,1000104)],(0,u1),rfl,(by simp only[go_sem,hsr,hsnr,hz3,hr0,hI,if_true,Mach.cells,Int.natCast_zero]<;>rfl),Nat.zero_le _,q2,hu1l,hu1r⟩
 clear q2 hu1l hu1r w1 hul1 hul2;rintro⟨i,u⟩ ⟨g1,g2,g3,g4⟩;simp only at g1 g2 g3 g4⊢;have hiin:(i:Int).toNat=i:=Int.toNat_natCast i;have hul1:(u.map natC).length=N:=by rw[List.length_map,g3]
 have hrl1:(rowP up red W I s i).length=I:=by simp[rowP];omega
 have hsl1:((machP up red W I s).set s [.tv 1000104 I 0 I (.val I)]).length=red.length:=by rw[List.length_set,hpl]
 have hsg:((machP up red W I s).set s [AV.tv 1000104 I 0 I (.val I)])[s]?=some [.tv 1000104 I 0 I (.val I)]:=by rw[List.getElem?_set_self (by omega)]
 refine EvC.a ?_;refine EvC.seq ?_;refine EvC.cd (fun hc=>?_) (fun hc=>?_);rotate_left
 ·
  obtain rfl:i=I:=by have:¬i<I:=by simpa using hc
                     omega
  refine EvC.exit ?_;refine EvC.frz 1000104 (by simp only[go_sem,hrl1,List.length_map]<;>rfl) ?_;refine EvC.snapE 1000102 s (by simp only[go_sem,hsg,hrl1,List.length_map]<;>rfl) ?_;have hmn:=machP_next (up:=up) (W:=W) (I:=i) hs;rw[rowFu,←rowP_all]at hmn;refine EvC.bi ?_;exact⟨[(1000010,1000010),(1000011,1000011),(1000150,1000150),(1000101,1000101),(1000102,1000102),(1000103,1000103)],(s+1,u),rfl,(by simp only[go_sem,List.set_set,hmn,hpn (s+1),if_true,Int.natCast_add,Int.natCast_one]<;>rfl),⟨hs,g2,g3,g4⟩,by simp only;omega⟩
 have hiI:i<I:=by simpa using hc
 clear hc;refine EvC.skip ?_;refine EvC.seq ?_;refine EvC.block ?_;have hg:=gcells_get edgeC (W p) hiI;have hw:=hW p i hpN hpp hiI;have hem1:=hem i;have hal1:=hall' i hiI;generalize W p i=e at hg hw hem1 hal1;obtain⟨e1,e2⟩:=e;simp only at hw hem1 hal1;refine EvC.a ?_ (by simp only[go_sem,hg,hiin,edgeC,gcells_len]<;>rfl) (by simp;try omega);refine EvC.z 1000155 ?_;have hrg:((rowP up red W I s i).map edgeC)[i]?=some [.sc (.int .i64 0),.sc (.int .i64 0)]:=by rw[List.getElem?_map,rowP_get hiI];rfl
 have hrml:((rowP up red W I s i).map edgeC).length=I:=by rw[List.length_map,hrl1]
 have hnx:=rowP_next (up:=up) (red:=red) (W:=W) (s:=s) hiI;rw[hem1]at hnx;have hmap:∀e:Int×Int,((rowP up red W I s i).set i e).map edgeC=((rowP up red W I s i).map edgeC).set i [.sc (.int .i64 e.1),.sc (.int .i64 e.2)]:=fun e=>by rw[List.map_set];rfl
 have hsr:=set_ren (n:=I) (cp:=.val I) (hpn s) (s:=s) (k:=1000104) (j:=1000104) (K:=[(1000010,1000010),(1000011,1000011),(1000150,1000150),(1000101,1000101),(1000102,1000102),(1000103,1000103),(1000104,1000104)]) rfl;have hsnr:=set_norefs (k:=1000104) (n:=I) (cp:=.val I) (show s<(machP up red W I s).length by omega);refine EvC.a ?_ (by simp only[go_sem,hsl1,hsg,hsin,hiin,hrg,hrml]<;>rfl) (by simp[hsl1,hrml];try omega);have hL1g:(((rowP up red W I s i).map edgeC).set i [.sc (.int .i64 (-1)),.sc (.int .i64 (-1))])[i]?=some [.sc (.int .i64 (-1)),.sc (.int .i64 (-1))]:=List.getElem?_set_self (by omega);have hL1l:(((rowP up red W I s i).map edgeC).set i [.sc (.int .i64 (-1)),.sc (.int .i64 (-1))]).length=I:=by rw[List.length_set,hrml]
 refine EvC.a ?_;by_cases he:e1=-1
 ·rw[if_neg (by rw[he];simp)]at hnx;have hm2:=hmap (-1,-1);rw[hnx]at hm2;simp only at hm2;refine EvC.cs ?_ (by simp only[go_sem,decide_eq_true he]<;>rfl);refine EvC.bi ?_;exact⟨[(1000010,1000010),(1000011,1000011),(1000150,1000150),(1000101,1000101),(1000102,1000102),(1000103,1000103),(1000104,1000104)],(i+1,u),rfl,(by simp only[go_sem,hsr,hsnr,←hm2,Int.natCast_add,Int.natCast_one]<;>rfl),⟨hiI,g2,g3,g4⟩,by simp only;omega⟩
 rw[if_pos he]at hnx;refine EvC.ct ?_ (by simp only[go_sem,decide_eq_false he]<;>rfl);obtain⟨q,hq⟩:∃q:Nat,e1=(q:Int):=⟨e1.toNat,by omega⟩;subst hq;rw[Int.toNat_natCast]at hnx hal1;have hqN:q<N:=by omega
 obtain⟨q1,q2,q3,q4⟩:=halved_ok g2 (n:=q) (by omega);have w2:=least44_is g2 (by omega) (n:=q) (by omega);rw[g3,g4]at w2;obtain⟨u2,hu2⟩:∃u2,u2=halved u q:=⟨_,rfl⟩;rw[←hu2]at q2 q3 q4 w2;have hul2:(u2.map natC).length=N:=by rw[List.length_map,q3,g3]
 have hlook:=elook_entsI ((rootU up q:Nat):Int) (redE up red) 0;rw[if_pos (hal1 he),Nat.zero_add]at hlook;have hm2:=hmap ((((redE up red).idxOf ((rootU up q:Nat):Int):Nat):Int),e2);rw[hnx]at hm2;simp only at hm2;generalize rootU up q=m at w2 hlook hm2;generalize (redE up red).idxOf (m:Int)=k at hlook hm2;have hL3:(((rowP up red W I s i).map edgeC).set i [.sc (.int .i64 (-1)),.sc (.int .i64 (-1))]).set i [.sc (.int .i64 (k:Int)),.sc (.int .i64 e2)]=(rowP up red W I s (i+1)).map edgeC:=by rw[List.set_set,←hm2]
 generalize ((rowP up red W I s i).map edgeC).set i [.sc (.int .i64 (-1)),.sc (.int .i64 (-1))]=L1 at hL1g hL1l hL3⊢;apply EvC.drwA mixed
 ·apply Tr.run
  ·simp only[go_sem,hsl1,hsg,hsin]<;>rfl
  ·simp[hsl1];try omega
  apply Tr.cons
  ·exact .callW (i:=1000010) (u:=1000011) rfl rfl (by simp only[go_sem]<;>rfl) (by simp only[go_sem]<;>rfl) (by simp only[go_sem]<;>rfl) (by simp only[go_sem]<;>rfl) (by simp only[go_sem]<;>rfl) (by simp only[go_sem]<;>rfl) hul1.symm (by omega) (by rw[hul2,hul1]) (norefs_natC _) (norefs_natC _) rfl rfl (by simp only[go_sem]<;>rfl) w2
  apply Tr.done
  ·simp only[go_sem,hlook,hiin,hL1g,hL1l,hL3]<;>rfl
  ·simp[hL1l];try omega
 ·kernel_rfl
 refine EvC.bi ?_;exact⟨[(1000010,1000010),(1000011,1000011),(1000150,1000150),(1000101,1000101),(1000102,1000102),(1000103,1000103),(1000104,1000104)],(i+1,u2),rfl,(by simp only[go_sem,hsr,hsnr,Int.natCast_add,Int.natCast_one]<;>rfl),⟨hiI,q2,by simp only;omega,fun k=>by simp only;rw[q4,g4]⟩,by simp only;omega⟩
theorem rowT_has{outs:Int}:∀{r:List (Int×Int)} {nx nx':Int},1≤nx→rowT outs r nx=some nx'→∀m:Int,nx≤m→m<nx'→∃(j:Nat) (e:Int×Int),r[j]?=some e∧e.1=m
 | [],nx,nx',_,h,m,h1,h2=>by simp[rowT]at h;omega
 | y::r,nx,nx',h0,h,m,h1,h2=>by
   rw[rowT]at h;split at h
   ·obtain⟨j,e,k1,k2⟩:=rowT_has h0 h m h1 h2;exact⟨j+1,e,by simpa using k1,k2⟩
   ·split at h
    ·rename_i hy;by_cases hm:m=nx
     ·exact⟨0,y,rfl,by rw[hm];exact hy.1⟩
     ·obtain⟨j,e,k1,k2⟩:=rowT_has (by omega) h m (by omega) h2;exact⟨j+1,e,by simpa using k1,k2⟩
    ·cases h
theorem rowT_uniq{outs:Int}:∀{r:List (Int×Int)} {nx nx':Int},1≤nx→rowT outs r nx=some nx'→∀(j j':Nat) (e e':Int×Int),r[j]?=some e→r[j']?=some e'→e.1≠ -1→e.1=e'.1→j=j'
 | [],_,_,_,_,j,_,_,_,h,_,_,_=>by simp at h
 | y::r,nx,nx',h0,h,j,j',e,e',h1,h2,h3,h4=>by
   have hge:=fun e (he:e∈r) (nx0:Int) (hr:rowT outs r nx0=some nx')=>rowT_edges hr e he;rw[rowT]at h;split at h
   ·rename_i hy;cases j with
    | zero=>simp at h1;subst h1;exact absurd hy.1 h3
    | succ j=>cases j' with
      | zero=>simp at h2;subst h2;rw[h4]at h3;exact absurd hy.1 h3
      | succ j'=>rw[rowT_uniq h0 h j j' e e' (by simpa using h1) (by simpa using h2) h3 h4]
   ·split at h
    ·rename_i hy;cases j with
     | zero=>cases j' with
       | zero=>rfl
       | succ j'=>
         simp at h1 h2;subst h1;have:=hge e' (List.mem_of_getElem? h2) _ h;omega
     | succ j=>cases j' with
       | zero=>
         simp at h1 h2;subst h2;have:=hge e (List.mem_of_getElem? h1) _ h;omega
       | succ j'=>rw[rowT_uniq (by omega) h j j' e e' (by simpa using h1) (by simpa using h2) h3 h4]
    ·cases h
theorem rowsT_has{ins outs:Int}:∀{rs:List Row} {n nx nx':Int},1≤nx→rowsT ins outs rs n nx=some nx'→∀m:Int,nx≤m→m<nx'→∃(i j:Nat) (r:Row) (e:Int×Int),rs[i]?=some r∧r.2[j]?=some e∧e.1=m∧n+i<m
 | [],n,nx,nx',_,h,m,h1,h2=>by simp[rowsT]at h;omega
 | y::rs,n,nx,nx',h0,h,m,h1,h2=>by
   rw[rowsT]at h;split at h
   ·cases h
   ·rename_i hc;split at h
    ·cases h
    ·rename_i k hk;have hge:=rowT_ge hk;by_cases hm:m<k
     ·obtain⟨j,e,k1,k2⟩:=rowT_has h0 hk m h1 hm;exact⟨0,j,y,e,rfl,k1,k2,by simp;omega⟩
     ·obtain⟨i,j,r,e,k1,k2,k3,k4⟩:=rowsT_has (by omega) h m (by omega) h2;exact⟨i+1,j,r,e,by simpa using k1,k2,k3,by simp only[Int.natCast_add,Int.natCast_one];omega⟩
theorem rowsT_uniq{ins outs:Int}:∀{rs:List Row} {n nx nx':Int},1≤nx→rowsT ins outs rs n nx=some nx'→∀(i i' j j':Nat) (r r':Row) (e e':Int×Int),rs[i]?=some r→rs[i']?=some r'→r.2[j]?=some e→r'.2[j']?=some e'→e.1≠ -1→e.1=e'.1→i=i'∧j=j'
 | [],_,_,_,_,_,i,_,_,_,_,_,_,_,h,_,_,_,_,_=>by simp at h
 | y::rs,n,nx,nx',h0,h,i,i',j,j',r,r',e,e',h1,h2,h3,h4,h5,h6=>by
   rw[rowsT]at h;split at h
   ·cases h
   ·split at h
    ·cases h
    ·rename_i k hk;have hge:=rowT_ge hk;have hlow:∀(i:Nat) (r:Row) (j:Nat) (e:Int×Int),rs[i]?=some r→r.2[j]?=some e→e.1≠ -1→k≤e.1:=fun i r j e k1 k2 k3=>by
      have hrow:=fun(rs:List Row)=>rs;have:∀{rs:List Row} {n nx nx':Int},rowsT ins outs rs n nx=some nx'→∀(i:Nat) (r:Row),rs[i]?=some r→∀e∈r.2,e.1=-1∨nx≤e.1:=by
       intro rs
       induction rs with
       | nil=>intro _ _ _ _ i r h;simp at h
       | cons y rs ih=>
         intro n nx nx' h i r hr e he;rw[rowsT]at h;split at h
         ·cases h
         ·split at h
          ·cases h
          ·rename_i k hk;have hge:=rowT_ge hk;cases i with
           | zero=>
             simp at hr;subst hr;rcases rowT_edges hk e he with h1|h1
             ·exact .inl h1.1
             ·exact .inr h1.1
           | succ i=>
             rcases ih h i r (by simpa using hr) e he with h1|h1
             ·exact .inl h1
             ·exact .inr (by omega)
      rcases this h i r k1 e (List.mem_of_getElem? k2)with h7|h7
      ·exact absurd h7 k3
      ·exact h7
     have hhi:∀(j:Nat) (e:Int×Int),y.2[j]?=some e→e.1≠ -1→e.1<k:=fun j e k1 k2=>by
      rcases rowT_edges hk e (List.mem_of_getElem? k1)with h7|h7
      ·exact absurd h7.1 k2
      ·exact h7.2.1
     cases i with
     | zero=>cases i' with
       | zero=>
         simp at h1 h2;subst h1 h2;exact⟨rfl,rowT_uniq h0 hk j j' e e' h3 h4 h5 h6⟩
       | succ i'=>
         simp at h1 h2;subst h1;have:=hhi j e h3 h5;have:=hlow i' r' j' e' h2 h4 (by rw[←h6];exact h5);omega
     | succ i=>cases i' with
       | zero=>
         simp at h1 h2;subst h2;have:=hhi j' e' h4 (by rw[←h6];exact h5);have:=hlow i r j e h1 h3 h5;omega
       | succ i'=>
         obtain⟨k1,k2⟩:=rowsT_uniq (by omega) h i i' j j' r r' e e' (by simpa using h1) (by simpa using h2) h3 h4 h5 h6;exact⟨by rw[k1],k2⟩
structure TP (t:Mach):Prop where
 has:∀m:Nat,1≤m→m<t.rows.length→∃p i:Nat,p<m∧(i:Int)<t.ins∧(eT t p i).1=m
 uniq:∀p i p' i':Nat,(eT t p i).1≠ -1→(eT t p i).1=(eT t p' i').1→p=p'∧i=i'
theorem eT_get{t:Mach}{p i:Nat}(h:(eT t p i).1≠ -1):∃r,t.rows[p]?=some r∧r.2[i]?=some (eT t p i):=by
 have hp:=eT_in h;refine⟨t.rows[p],List.getElem?_eq_getElem hp,?_⟩;unfold eT at h⊢;rw[List.getElem?_eq_getElem hp]at h⊢;simp only[Option.map_some,Option.getD_some]at h⊢;cases he:t.rows[p].2[i]? with
 | none=>rw[he]at h;exact absurd rfl h
 | some e=>rfl
theorem TP.of{t:Mach}(h:checkT t=0):TP t:=by
 have v:=TV.of h;unfold checkT at h;split at h
 ·cases h
 ·split at h
  ·cases h
  ·split at h
   ·rename_i nx hnx;split at h
    ·rename_i h3;subst h3;refine⟨fun m h1 h2=>?_,fun p i p' i' h1 h2=>?_⟩
     ·obtain⟨i,j,r,e,k1,k2,k3,k4⟩:=rowsT_has (by omega) hnx (m:Int) (by omega) (by omega);have hjl:=(v.row i r k1).1;have hj:=(List.getElem?_eq_some_iff.1 k2).1;refine⟨i,j,by omega,by omega,?_⟩;rw[eT,k1];simp only[Option.map_some,Option.getD_some,k2];exact k3
     ·obtain⟨r,k1,k2⟩:=eT_get h1;obtain⟨r',k3,k4⟩:=eT_get (t:=t) (p:=p') (i:=i') (by rw[←h2];exact h1);exact rowsT_uniq (by omega) hnx p p' i i' r r' _ _ k1 k3 k2 k4 h1 h2
    ·cases h
   ·cases h
def isRed(c red:List Nat)(k:Nat):Bool:=red.any fun r=>decide (pU c r=k)
theorem isRed_iff{c red:List Nat}{k:Nat}:isRed c red k=true↔∃r∈red,pU c r=k:=by
 unfold isRed;rw[List.any_eq_true];simp
def candC(t:Mach)(c red:List Nat):List Nat:=
 (List.range t.rows.length).flatMap fun n=>if isRed c red (pU c n)=true then(List.range t.ins.toNat).filterMap fun i=>if(eT t n i).1≠ -1∧isRed c red (pU c (eT t n i).1.toNat)=false then some (eT t n i).1.toNat else none else []
theorem mem_candC{t:Mach}{c red:List Nat}{m:Nat}:m∈candC t c red↔∃n i:Nat,n<t.rows.length∧i<t.ins.toNat∧isRed c red (pU c n)=true∧(eT t n i).1≠ -1∧isRed c red (pU c m)=false∧m=(eT t n i).1.toNat:=by
 unfold candC;rw[List.mem_flatMap];constructor
 ·rintro⟨n,hn,h⟩;split at h
  ·rename_i hr;obtain⟨i,hi,h⟩:=List.mem_filterMap.1 h;split at h
   ·rename_i hc;have:=Option.some.inj h;subst this;exact⟨n,i,List.mem_range.1 hn,List.mem_range.1 hi,hr,hc.1,hc.2,rfl⟩
   ·cases h
  ·cases h
 ·rintro⟨n,i,h1,h2,h3,h4,h5,rfl⟩;exact⟨n,List.mem_range.2 h1,by rw[if_pos h3];exact List.mem_filterMap.2 ⟨i,List.mem_range.2 h2,if_pos ⟨h4,h5⟩⟩⟩
def minL:List Nat→Int
 | []=> -1
 | k::l=>if minL l<0∨(k:Int)<minL l then k else minL l
theorem minL_min:∀l:List Nat,MinOf (·∈l) (minL l)
 | []=>.inl ⟨rfl,fun k h=>by cases h⟩
 | k::l=>((minL_min l).add k).congr fun j=>by rw[List.mem_cons];exact Or.comm
def nextC(t:Mach)(c red:List Nat):Int:=minL (candC t c red)
theorem nextC_min(t:Mach)(c red:List Nat):MinOf (·∈candC t c red) (nextC t c red):=minL_min _
theorem cand_le{t:Mach}(p:TP t){c red:List Nat}(h0:isRed c red (pU c 0)=true):∀k,k<t.rows.length→isRed c red (pU c k)=false→∃m∈candC t c red,m≤k:=by
 intro k
 induction k using Nat.strongRecOn with
 | _ k ih=>
   intro hk hn;have hk0:k≠0:=fun e=>by rw[e,h0]at hn;cases hn
   obtain⟨q,i,h1,h2,h3⟩:=p.has k (by omega) hk;cases hq:isRed c red (pU c q)with
   | true=>
     exact⟨k,mem_candC.2 ⟨q,i,by omega,by omega,hq,by rw[h3];omega,hn,by rw[h3];omega⟩,Nat.le_refl _⟩
   | false=>
     obtain⟨m,k1,k2⟩:=ih q h1 (by omega) hq;exact⟨m,k1,by omega⟩
theorem next_eq{t:Mach}(v:TV t)(tp:TP t){I:Nat}(hI:t.ins=(I:Int)){up:List Nat}{W:Nat→Nat→Int×Int}(hF:FI t up W fun _ _=>False){red:List Nat}(hred:∀r∈red,r<t.rows.length)(h0:0∈red){o:Int}
  (ho:MinOf (fun k=>∃r∈red,NxtI up red W (rootU up r) I k) o):o=nextC t (rootsL up t.rows.length) red:=by
 have hpU:=rootsL_pU hF.ok hF.len;obtain⟨c,hc⟩:∃c,c=rootsL up t.rows.length:=⟨_,rfl⟩;rw[←hc]at hpU⊢;have hrn:∀k,isRed c red k=false↔∀r∈red,rootU up r≠k:=fun k=>by
  constructor
  ·intro h r hr e;rw[show isRed c red k=true from isRed_iff.2 ⟨r,hr,by rw[hpU];exact e⟩]at h;cases h
  ·intro h;cases hk:isRed c red k with
   | false=>rfl
   | true=>
     obtain⟨r,h1,h2⟩:=isRed_iff.1 hk;exact absurd (by rw[←hpU];exact h2) (h r h1)
 have hin:=v.ins;have hA:∀k,(∃r∈red,NxtI up red W (rootU up r) I k)→∃m∈candC t c red,pU c m=k:=fun k ⟨r,hr,j,h1,h2,h3,h4⟩=>by
  have hrN:=hred r hr;have hpN:rootU up r<t.rows.length:=by have:=rootU_le hF.ok r;omega
  obtain⟨m,k1,k2,k3⟩:=hF.row (rootU up r) j hpN (rootU_root hF.ok r) (by omega) (knownE_to h2);rw[k3]at h2 h3;refine⟨(eT t m j).1.toNat,mem_candC.2 ⟨m,j,k1,by omega,isRed_iff.2 ⟨r,hr,by rw[hpU,hpU,k2]⟩,h2,?_,rfl⟩,by rw[hpU,h3]⟩;rw[hrn,hpU,←h3];exact h4
 have hB:∀m,m∈candC t c red→∃r∈red,NxtI up red W (rootU up r) I (pU c m):=fun m hm=>by
  obtain⟨n,i,h1,h2,h3,h4,h5,rfl⟩:=mem_candC.1 hm;obtain⟨r,hr,h6⟩:=isRed_iff.1 h3;rw[hpU,hpU]at h6;obtain⟨k1,k2,k3⟩:=hF.node n i h1 (by omega) (knownE_to h4);have hw:(W (rootU up n) i).1≠ -1:=fun e=>h4 (((clashE_iff (knownE_to h4) k1).1 k2).1.2 e);have hto:=k3 (bothE_iff.2 ⟨h4,hw⟩);have e:(fun a b=>rootU up a=rootU up b∨False)=fun a b=>rootU up a=rootU up b:=by funext a b;simp
  rw[e]at hto;refine⟨r,hr,i,by omega,by rw[h6];exact hw,by rw[hpU,h6];exact hto.fn,?_⟩;rw[←hrn];exact h5
 have hC:=cand_le tp (c:=c) (red:=red) (isRed_iff.2 ⟨0,h0,rfl⟩);have hS:MinOf (·∈candC t c red) o:=by
  rcases ho with⟨h1,h2⟩|⟨k,h1,h2,h3⟩
  ·exact .inl ⟨h1,fun m hm=>h2 _ (hB m hm)⟩
  ·obtain⟨m,hm,hmk⟩:=hA k h2;have hkn:isRed c red (pU c k)=false:=by
    obtain⟨_,_,_,_,_,_,h5,_⟩:=mem_candC.1 hm;rw[←hmk,hpU,hpU,rootU_root hF.ok,←hpU];exact h5
   have hkN:k<t.rows.length:=by
    obtain⟨n,i,q1,q2,q3,q4,q5,q6⟩:=mem_candC.1 hm;have:=v.to q1 (by omega:(i:Int)<t.ins) q4;have:=rootU_le hF.ok m;rw[←hpU]at this;omega
   obtain⟨m',hm',hle⟩:=hC k hkN hkn;have h4:=h3 _ (hB m' hm');have h5:=rootU_le hF.ok m';rw[←hpU]at h5;have e:m'=k:=by omega
   subst e;exact .inr ⟨m',h1,hm',fun m2 hm2=>by
    have h6:=h3 _ (hB m2 hm2);have h7:=rootU_le hF.ok m2;rw[←hpU]at h7;omega⟩
 exact hS.uniq (nextC_min t c red)
def placeC(c l:List Nat)(k:Nat):Int:=if(l.map (pU c)).idxOf k<l.length then((l.map (pU c)).idxOf k:Int)else -1
def edgeR(t:Mach)(c red:List Nat)(s i:Nat):Int×Int:=
 match(List.range t.rows.length).reverse.find? fun n=>decide (pU c n=pU c ((red[s]?).getD 0))&&decide ((eT t n i).1≠ -1)with
 | some n=>(placeC c red (pU c (eT t n i).1.toNat),(eT t n i).2)
 | none=>(-1,-1)
def machC(t:Mach)(c red:List Nat):List (List (Int×Int)):=(List.range red.length).map fun s=>(List.range t.ins.toNat).map (edgeR t c red s)
theorem idxOf_cast(l:List Nat)(k:Nat):(l.map fun(x:Nat)=>(x:Int)).idxOf (k:Int)=l.idxOf k:=by
 induction l with
 | nil=>rfl
 | cons x l ih=>
   rw[List.map_cons,List.idxOf_cons,List.idxOf_cons,ih];by_cases h:x=k
   ·subst h;simp
   ·have h1:(x==k)=false:=by simpa using h
    have h2:((x:Int)==(k:Int))=false:=beq_eq_false_iff_ne.2 fun e=>h (Int.ofNat.inj e);rw[h1,h2]
theorem next_none{t:Mach}(v:TV t){I:Nat}(hI:t.ins=(I:Int)){up:List Nat}{W:Nat→Nat→Int×Int}(hF:FI t up W fun _ _=>False){red:List Nat}(hred:∀r∈red,r<t.rows.length)(hn:nextC t (rootsL up t.rows.length) red<0):
  ∀r∈red,∀i,i<I→(W (rootU up r) i).1≠ -1→∃r'∈red,rootU up r'=rootU up (W (rootU up r) i).1.toNat:=by
 intro r hr i hi hw;have hpU:=rootsL_pU hF.ok hF.len;have hrN:=hred r hr;have hpN:rootU up r<t.rows.length:=by have:=rootU_le hF.ok r;omega
 obtain⟨m,k1,k2,k3⟩:=hF.row (rootU up r) i hpN (rootU_root hF.ok r) (by omega) (knownE_to hw);rw[k3]at hw⊢;cases hx:isRed (rootsL up t.rows.length) red (pU (rootsL up t.rows.length) (eT t m i).1.toNat)with
 | true=>
   obtain⟨r',h1,h2⟩:=isRed_iff.1 hx;rw[hpU,hpU]at h2;exact⟨r',h1,h2⟩
 | false=>
   exfalso;have hm:=nextC_min t (rootsL up t.rows.length) red;have hc:(eT t m i).1.toNat∈candC t (rootsL up t.rows.length) red:=mem_candC.2 ⟨m,i,k1,by omega,isRed_iff.2 ⟨r,hr,by rw[hpU,hpU,k2]⟩,hw,hx,rfl⟩;rcases hm with⟨_,h2⟩|⟨k,h1,_⟩
   ·exact h2 _ hc
   ·omega
theorem machine_eq{t:Mach}(v:TV t){I:Nat}(hI:t.ins=(I:Int)){up:List Nat}{W:Nat→Nat→Int×Int}(hF:FI t up W fun _ _=>False){red:List Nat}(hred:∀r∈red,r<t.rows.length)(hn:nextC t (rootsL up t.rows.length) red<0):
  ((List.range red.length).map fun s=>rowM up red W I s)=machC t (rootsL up t.rows.length) red:=by
 have hpU:=rootsL_pU hF.ok hF.len;have hall:=next_none v hI hF hred hn;have hin:=v.ins;have hIn:t.ins.toNat=I:=by omega
 unfold machC rowM;refine List.map_congr_left fun s hs=>?_;have hs:=List.mem_range.1 hs;rw[hIn];refine List.map_congr_left fun i hi=>?_;have hi:=List.mem_range.1 hi;have hx:red[s]?=some red[s]:=List.getElem?_eq_getElem hs;have hxm:=List.getElem_mem hs;have hxN:=hred _ hxm;unfold edgeM edgeR;rw[hx];simp only[Option.getD_some];generalize red[s]=x at hxm hxN;have hpN:rootU up x<t.rows.length:=by have:=rootU_le hF.ok x;omega
 cases hfd:(List.range t.rows.length).reverse.find? fun n=>decide (pU (rootsL up t.rows.length) n=pU (rootsL up t.rows.length) x)&&decide ((eT t n i).1≠ -1)with
 | none=>
   rw[List.find?_eq_none]at hfd;rw[if_neg];intro hw;obtain⟨m,k1,k2,k3⟩:=hF.row (rootU up x) i hpN (rootU_root hF.ok x) (by omega) (knownE_to hw);refine hfd m (List.mem_reverse.2 (List.mem_range.2 k1)) ?_;rw[hpU,hpU,k2,←k3];simp[hw]
 | some n=>
   have h1:=List.find?_some hfd;have h2:=List.mem_range.1 (List.mem_reverse.1 (List.mem_of_find?_eq_some hfd));simp only[Bool.and_eq_true,decide_eq_true_eq,hpU]at h1;obtain⟨h3,h4⟩:=h1;obtain⟨k1,k2,k3⟩:=hF.node n i h2 (by omega) (knownE_to h4);rw[h3]at k1 k2 k3;have hcl:=(clashE_iff (knownE_to h4) k1).1 k2;have hw:(W (rootU up x) i).1≠ -1:=fun e=>h4 (hcl.1.2 e);have hto:=k3 (bothE_iff.2 ⟨h4,hw⟩);have e:(fun a b=>rootU up a=rootU up b∨False)=fun a b=>rootU up a=rootU up b:=by funext a b;simp
   rw[e]at hto;have hto:=hto.fn;obtain⟨r',hr1,hr2⟩:=hall x hxm i hi hw;rw[if_pos hw];simp only;rw[hcl.2 h4,hpU,hto];have hE:redE up red=(red.map (pU (rootsL up t.rows.length))).map fun(x:Nat)=>(x:Int):=by
    rw[List.map_map,redE];exact List.map_congr_left fun r _=>by simp[hpU]
   rw[hE,idxOf_cast,placeC,if_pos];have hmem:rootU up (W (rootU up x) i).1.toNat∈red.map (pU (rootsL up t.rows.length)):=List.mem_map.2 ⟨r',hr1,by rw[hpU];exact hr2⟩;have:=List.idxOf_lt_length_of_mem hmem
   rwa[List.length_map]at this
def mergeC(t:Mach):Nat→List Nat→List Nat→Option (List (List (Int×Int)))
 | 0,_,_=>none
 | f+1,c,red=>if 64<red.length then none else if nextC t c red<0 then some (machC t c red)else
   match absorbC t c red (nextC t c red).toNat with
   | some d=>mergeC t f d red
   | none=>mergeC t f c (red++[(nextC t c red).toNat])
def mergeT(t:Mach):Option (List (List (Int×Int))):=mergeC t (t.rows.length*t.rows.length+67) (List.range t.rows.length) [0]
theorem absorb_inv{t:Mach}{c d red:List Nat}{n:Nat}(h:absorbC t c red n=some d):∃r∈red,foldC t c r n=some d:=by
 unfold absorbC at h;obtain⟨r,h1,h2⟩:=List.exists_of_findSome?_eq_some h;exact⟨r,h1,h2⟩
theorem absorb_inv_none{t:Mach}{c red:List Nat}{n:Nat}(h:absorbC t c red n=none):∀r∈red,foldC t c r n=none:=by
 unfold absorbC at h
 rwa[List.findSome?_eq_none_iff]at h
theorem next_node{t:Mach}(v:TV t){c red:List Nat}(h:¬nextC t c red<0):(nextC t c red).toNat<t.rows.length∧isRed c red (pU c (nextC t c red).toNat)=false∧(((nextC t c red).toNat:Nat):Int)=nextC t c red:=by
 have hin:=v.ins;rcases nextC_min t c red with⟨h1,_⟩|⟨k,h1,h2,_⟩
 ·omega
 ·rw[h1,Int.toNat_natCast];obtain⟨n,i,q1,q2,q3,q4,q5,q6⟩:=mem_candC.1 h2;have:=v.to q1 (by omega:(i:Int)<t.ins) q4;exact⟨by omega,q5,rfl⟩
structure RedOk (t:Mach) (c red:List Nat):Prop where
 zero:0∈red
 lt:∀r∈red,r<t.rows.length
 sep:∀(i j a b:Nat),i<j→red[i]?=some a→red[j]?=some b→∀c',IsF t c'→(∀x y,pU c x=pU c y→pU c' x=pU c' y)→pU c' a≠pU c' b
theorem RedOk.nodup{t:Mach}{c red:List Nat}(h:RedOk t c red)(hc:IsF t c):(red.map (pU c)).Nodup:=by
 refine List.pairwise_iff_getElem.2 fun i j hi hj hij=>?_;rw[List.getElem_map,List.getElem_map];have hi':i<red.length:=by simpa using hi
 have hj':j<red.length:=by simpa using hj
 exact h.sep i j _ _ hij (List.getElem?_eq_getElem hi') (List.getElem?_eq_getElem hj') c hc fun _ _ h=>h
theorem fold_mono{t:Mach}(v:TV t){c d:List Nat}(hc:IsF t c){a b:Nat}(ha:a<t.rows.length)(hb:b<t.rows.length)(h:foldC t c a b=some d):IsF t d∧(∀x y,pU c x=pU c y→pU d x=pU d y)∧pU d a=pU d b:=by
 have hs:=foldC_spec v hc ha hb;rw[h]at hs;exact⟨hs.1,fun x y hxy=>(hs.2.1 x y).2 (.base (.inl hxy)),(hs.2.1 a b).2 (.base (.inr ⟨rfl,rfl⟩))⟩
theorem fold_sep{t:Mach}(v:TV t){c c':List Nat}(hc:IsF t c){a b:Nat}(ha:a<t.rows.length)(hb:b<t.rows.length)(h:foldC t c a b=none)(hc':IsF t c')(hm:∀x y,pU c x=pU c y→pU c' x=pU c' y):pU c' a≠pU c' b:=fun he=>by
 have hs:=foldC_spec v hc ha hb;rw[h]at hs;obtain⟨x,y,i,h1,h2,h3⟩:=hs;have hxy:=hc'.cong (R:=pairR c a b) (fun x y hxy=>by
  rcases hxy with hxy|⟨rfl,rfl⟩
  ·exact hm x y hxy
  ·exact he) h1
 have:=(hc'.clo x y i hxy h2).1;rw[h3]at this;cases this
theorem RedOk.absorb{t:Mach}(v:TV t){c d red:List Nat}(h:RedOk t c red)(hc:IsF t c){n:Nat}(hn:n<t.rows.length)(hd:absorbC t c red n=some d):RedOk t d red∧IsF t d:=by
 obtain⟨r,hr,hf⟩:=absorb_inv hd;obtain⟨h1,h2,_⟩:=fold_mono v hc (h.lt r hr) hn hf;exact⟨⟨h.zero,h.lt,fun i j a b hij hi hj c' hc' hm=>h.sep i j a b hij hi hj c' hc' fun x y hxy=>hm x y (h2 x y hxy)⟩,h1⟩
theorem RedOk.push{t:Mach}(v:TV t){c red:List Nat}(h:RedOk t c red)(hc:IsF t c){n:Nat}(hn:n<t.rows.length)(hd:absorbC t c red n=none):RedOk t c (red++[n]):=by
 have hno:=absorb_inv_none hd;refine⟨List.mem_append_left _ h.zero,fun r hr=>?_,fun i j a b hij hi hj c' hc' hm=>?_⟩
 ·rcases List.mem_append.1 hr with hr|hr
  ·exact h.lt r hr
  ·rw[List.mem_singleton.1 hr];exact hn
 ·by_cases hjl:j<red.length
  ·rw[List.getElem?_append_left hjl]at hj;rw[List.getElem?_append_left (by omega)]at hi;exact h.sep i j a b hij hi hj c' hc' hm
  ·have hjn:j=red.length:=by
     have:=(List.getElem?_eq_some_iff.1 hj).1;simp at this;omega
   subst hjn;rw[List.getElem?_append_right (Nat.le_refl _),Nat.sub_self]at hj;cases hj;rw[List.getElem?_append_left hij]at hi;have ham:=List.mem_of_getElem? hi;exact fold_sep v hc (h.lt a ham) hn (hno a ham) hc' hm
theorem absorb_sum{t:Mach}(v:TV t){c d red:List Nat}(h:RedOk t c red)(hc:IsF t c){n:Nat}(hn:n<t.rows.length)(hnr:isRed c red (pU c n)=false)(hd:absorbC t c red n=some d):sumR d t.rows.length<sumR c t.rows.length:=by
 obtain⟨r,hr,hf⟩:=absorb_inv hd;have hrN:=h.lt r hr;obtain⟨h1,h2,h3⟩:=fold_mono v hc hrN hn hf;have hle:∀k,pU d k≤pU c k:=fun k=>by
  have:=h2 k (pU c k) (hc.can.fix k).symm;rw[this];exact h1.can.le _
 have hne:pU c r≠pU c n:=fun e=>by
  rw[show isRed c red (pU c n)=true from isRed_iff.2 ⟨r,hr,e⟩]at hnr;cases hnr
 have hrr:=hc.can.le r;have hnn:=hc.can.le n;have e1:=h2 r (pU c r) (hc.can.fix r).symm;have e2:=h2 n (pU c n) (hc.can.fix n).symm;refine(sumR_less (q:=max (pU c r) (pU c n)) (fun k=>by rw[h1.can.root,hc.can.root];exact hle k) ?_ t.rows.length).2 (by omega);rw[h1.can.root,hc.can.root];by_cases hlt:pU c r<pU c n
 ·rw[Nat.max_eq_right (by omega),hc.can.fix,←e2,←h3,e1];have:=h1.can.le (pU c r);omega
 ·rw[Nat.max_eq_left (by omega),hc.can.fix,←e1,h3,e2];have:=h1.can.le (pU c n);omega
theorem redOk_zero{t:Mach}(v:TV t):RedOk t (List.range t.rows.length) [0]:=by
 have:=v.rows;refine⟨by simp,fun r hr=>by rw[List.mem_singleton.1 hr];omega,fun i j a b hij hi hj=>?_⟩;have:=(List.getElem?_eq_some_iff.1 hj).1;simp at this;omega
theorem redE_nodup{t:Mach}{up red:List Nat}(hu:UpOk up)(hl:up.length=t.rows.length)(h:(red.map (pU (rootsL up t.rows.length))).Nodup):(redE up red).Nodup:=by
 have hE:redE up red=(red.map (pU (rootsL up t.rows.length))).map fun(x:Nat)=>(x:Int):=by
  rw[List.map_map,redE];exact List.map_congr_left fun r _=>by simp[rootsL_pU hu hl]
 rw[hE];refine List.pairwise_iff_getElem.2 fun i j hi hj hij he=>?_;have h1:=List.pairwise_iff_getElem.1 h i j (by simpa using hi) (by simpa using hj) hij;simp only[List.getElem_map]at he h1;omega
def zeroM:AV:=.ag [.sc (.int .i64 0),.sc (.int .i64 0),.sl true [] .zer]
def mergeRes(t:Mach):AV:=
 if nodesE t []≠0 then .tu [zeroM,.sc (.int .i64 (nodesE t []))]
 else match mergeT t with
  | some rows=>.tu [.ag [.sc (.int .i64 t.ins),.sc (.int .i64 t.outs),.sl false (rows.map rowFu) .full],.sc (.int .i64 0)]
  | none=>.tu [zeroM,.sc (.int .i64 3)]
theorem sumR_rootsL{up:List Nat}(h:UpOk up){N:Nat}(hl:up.length=N)(n:Nat):sumR (rootsL up N) n=sumR up n:=sumR_same (fun k=>by rw[(rootsL_can h hl).root,rootsL_pU h hl]) n
theorem FI.rowsIn{t:Mach}(v:TV t){I:Nat}(hI:t.ins=(I:Int)){up:List Nat}{W:Nat→Nat→Int×Int}{P:Nat→Nat→Prop}(h:FI t up W P):∀p i,p<t.rows.length→rootU up p=p→i<I→(W p i).1=-1∨(0≤(W p i).1∧(W p i).1<t.rows.length):=fun p i hp hpr hi=>by
 by_cases hw:(W p i).1=-1
 ·exact .inl hw
 ·obtain⟨m,h1,_,h3⟩:=h.row p i hp hpr (by omega) (knownE_to hw);rw[h3]at hw⊢;have:=v.to h1 (by omega:(i:Int)<t.ins) hw;exact .inr (by omega)
theorem mlook_above:∀{X:Mem} {b k:Nat},(X.all fun p=>decide (p.1<b))=true→b≤k→mlook X k=none
 | [],_,_,_,_=>rfl
 | (i,o)::X,b,k,h,hk=>by
   simp only[List.all_cons,Bool.and_eq_true,decide_eq_true_eq]at h;simp only[mlook];rw[if_neg (by omega)];exact mlook_above h.2 hk
theorem foldM_framedX{N I:Nat}(hN:N≤1000000)(up:List Nat)(W:Nat→Nat→Int×Int){X:Mem}(hX:(X.all fun p=>decide (p.1<1000200))=true):Framed X (.rf 1000200 0) (foldM N I up W) 3000000:=by
 refine⟨osegK [(1000200,1000200),(1000201,1000201),(1000202,1000202)] N [],osegK_ok (A:=[(1000200,1000200),(1000201,1000201),(1000202,1000202)]) rfl rfl rfl hN (by omega),foldM_ren hN up W,?_,?_⟩
 ·simp only[go_sem,rlook_osegK_hi hN,List.append_nil]<;>rfl
 rw[List.all_eq_true];intro p hp;rw[osegK,List.append_nil]at hp;rcases List.mem_append.1 hp with hp|hp
 ·simp only[List.mem_cons,List.mem_nil_iff,or_false]at hp;rcases hp with rfl|rfl|rfl<;>simp[mlook_above hX]
 ·obtain⟨i,hi,rfl⟩:=mem_oK hp;simp[mlook_above hX (show 1000200≤2000000+i by omega)]
set_option maxHeartbeats 8000000 in
theorem merge20_is(t:Mach)(hr:∀r∈t.rows,r.2.length<1000000)(hf:RowsF t):PureIs prog 9 [.ag t.cells] (mergeRes t):=by
 have hN:=nodes37_is t hr true [] .zer (by simp);rw[show([]:List Int).map intC=[]from rfl]at hN;unfold mergeRes zeroM;generalize hne:nodesE t []=e at hN;refine PureIs.of1 8 [11,14,16,19,26,35,15,20,21,22,23,27,28,29,31,32,33] func9 ntmps9 results9 fun _=>?_;refine EvC.a ?_ (by simp only[go_sem,Mach.cells]<;>rfl);refine EvC.z 0 ?_;rw[Mach.cells]at hN;refine EvC.seq ?_;refine EvC.k1 ?_ (c1:=.ca hN);refine EvC.a ?_;by_cases he:e=0;rotate_left
 ·rw[if_pos he];refine EvC.ct ?_ (by simp only[go_sem,decide_eq_false he]<;>rfl);refine EvC.a ?_;refine EvC.rz ?_;simp only[go_sem]
 first|rw[if_neg Bool.false_ne_true,if_neg (fun h=>h he)]|rw[if_neg (fun h=>h he)]
 subst he;obtain⟨v,_⟩:=nodesE_ok hne;have hck:checkT t=0:=by
  unfold nodesE at hne;by_cases h:checkT t=0
  ·exact h
  ·rw[if_pos h]at hne;exact absurd hne h
 have tp:=TP.of hck;have hin:=v.ins;have hrw:=v.rows;have hI:t.ins=((t.ins.toNat:Nat):Int):=(Int.toNat_of_nonneg (by omega)).symm;obtain⟨I,hId⟩:∃I,I=t.ins.toNat:=⟨_,rfl⟩;rw[←hId]at hI;refine EvC.cs ?_;apply EvC.seq;apply EvC.rs
 ·simp only[go_sem]<;>rfl
 ·simp
 obtain⟨N,hNd⟩:∃N,N=t.rows.length:=⟨_,rfl⟩;have hn1:N≤1000000:=by omega
 have hal:=fun R=>alone42_body v (v.rowsF hf) hI (R:=R);rw[←hNd]at hal;refine XR.gcTo ⟨[(1,.ia t.cells),(2,.rf 1000050 0),(14,.ag t.cells)],[],[]++[(1000050,.cells [.sc (.int .i64 0),.sc (.int .i64 0),.sl true [] .zer])],1000100⟩ [1,2,14] [(1,1000050)] rfl (by simp only[go_sem,Mach.cells,List.nil_append]<;>rfl) ?_;refine XR.callF [] [(1000050,.cells [.sc (.int .i64 0),.sc (.int .i64 0),.sl true [] .zer])] rfl rfl (by simp only[go_sem]<;>rfl) (by simp only[go_sem]<;>rfl) (by simp only[go_sem]<;>rfl) (by simp only[go_sem]<;>rfl) rfl ?_;refine hal _ ?_;refine⟨by simp,foldM_framedX hn1 _ _ rfl,?_⟩;apply XR.done
 ·simp only[go_sem]<;>rfl
 ·simp
 obtain⟨up0,hup0⟩:∃u,u=List.range N:=⟨_,rfl⟩;have hLX:=fun X k hk=>otab_lookX 2 edgeC (eT t) (n:=N) (m:=I) hn1 X k hk;have hoc:=ocell_len I N;rw[←hup0];unfold foldM;refine EvC.ofzAll N (fun i hi=>⟨2,gcells edgeC (eT t i) I,false,by simp only[List.cons_append,mlook,o_ne (show i<1000000 by omega),if_false,otab_getX 2 edgeC (eT t) _ hi,go_sem],gcells_norefs norefs_edgeC _ _⟩) ?_;have hfz:=fun X=>otab_fzX 2 edgeC (eT t) N I X;obtain⟨MM,hMM⟩:∃MM:Mem,MM=(1000200,.cells [.tv 1000201 N 0 N .unk,.tv 1000202 N 0 N .unk])::(1000201,.arr 1 (up0.map natC) false)::(1000202,.arr 1 (ocell I N) false)::(otabF 2 edgeC (eT t) N I++[(1000050,.cells [.sc (.int .i64 0),.sc (.int .i64 0),.sl true [] .zer])]):=⟨_,rfl⟩;have hsn:(ocell I N).map (fun c=>c.map (AV.deep (snap MM)))=rowsV (eT t) N I:=ocell_snap (e:=2) (row:=fun s=>gcells edgeC (eT t s) I) (fun s hs=>by
  rw[hMM];simp only[mlook,o_ne (show s<1000000 by omega),if_false,mlook_append,otabF_look 2 edgeC (eT t) hs,go_sem]) (fun s _=>gcells_len _ _ _)
 rw[hMM]at hsn;have hvl:=rowsV_len (eT t) N I;have hvn:(rowsV (eT t) N I).all AV.norefs=true:=by simp[rowsV,List.all_eq_true,AV.norefs,AV.noref]
 have hLF:∀X k,notO k=true→mlook (otabF 2 edgeC (eT t) N I++X) k=mlook X k:=fun X k hk=>by
  rw[mlook_append,show mlook (otabF 2 edgeC (eT t) N I) k=none from by
   rw[otabF,mlook_msegA];split
   ·rw[List.getElem?_eq_none];unfold notO at hk;simp at hk;simp;omega
   ·rfl]
 have hmF:∀f,memMap f (otabF 2 edgeC (eT t) N I)=otabF 2 edgeC (eT t) N I:=fun f=>by rw[otabF,memMap_msegA,List.map_map];rfl
 refine EvC.snapA 1000202 (by simp only[go_sem,List.cons_append,ofzAll_cons hn1,hfz,hsn]<;>rfl) ?_;refine EvC.frzD 1000202 (by simp only[go_sem,hvn,hvl,memMap_append,hmF]<;>rfl) ?_;refine EvC.gcE (st2:=⟨[(1,.ia t.cells),(2,.rf 1000050 0),(5,.rf 1000010 0)],[],frM N up0 (rowsV (eT t) N I)++[(1000050,.cells [.sc (.int .i64 0),.sc (.int .i64 0),.sl true [] .zer])],1000100⟩) [1,2,5] [(1000200,1000010),(1000201,1000011),(1000050,1000050)] 1000100 rfl (by simp only[go_sem,hLF,frM,List.cons_append,List.nil_append]<;>rfl) ?_;refine EvC.a ?_;refine EvC.fz 1000100 (by simp only[go_sem]<;>rfl) ?_;refine EvC.seq ?_;refine EvC.block ?_;obtain⟨res,hres⟩:∃res,res=mergeT t:=⟨_,rfl⟩;rw[←hres];clear hMM hsn hLX hfz hLF hmF hvn hvl;refine EvC.loopS (σ:=Nat×List Nat×(Nat→Nat→Int×Int)×List Nat) (fun g=>⟨[(1,.ia t.cells),(2,.rf 1000050 0),(5,.rf 1000010 0),(6,.tl 1000040 g.2.2.2.length false)],[],frM N g.2.1 (rowsV g.2.2.1 N I)++[(1000050,.cells [.sc (.int .i64 0),.sc (.int .i64 0),.sl true [] .zer]),(1000040,.arr 1 (g.2.2.2.map natC) true)],1000100⟩) (fun g=>g.1)
  (fun g=>FI t g.2.1 g.2.2.1 (fun _ _=>False)∧RedOk t (rootsL g.2.1 N) g.2.2.2∧mergeC t g.1 (rootsL g.2.1 N) g.2.2.2=res∧sumR g.2.1 N+66<g.1+g.2.2.2.length∧g.2.2.2.length≤65) [1,2,5,6] 1000100 ?_ ?_
 ·refine⟨[(1000010,1000010),(1000011,1000011),(1000050,1000050),(1000100,1000040)],(N*N+67,up0,eT t,[0]),rfl,?_,?_,?_,?_,?_,by simp⟩
  ·simp only[go_sem,frM,List.cons_append,List.nil_append,List.map_cons,List.map_nil,natC,List.length_singleton,Int.natCast_zero]<;>rfl
  ·rw[hup0,hNd];exact FI.alone t
  ·rw[hup0,rootsL_range,hNd];exact redOk_zero v
  ·rw[hup0,rootsL_range,hres,mergeT,hNd]
  ·have:=sumR_le (up:=up0) (by rw[hup0];exact upOk_range N) N;simp only[List.length_singleton];omega
 rintro⟨f,up,W,red⟩ ⟨hF,hro,hm,hfu,hle⟩;simp only at hF hro hm hfu hle⊢;have hrl:(red.map natC).length=red.length:=List.length_map _;unfold frM;refine EvC.seq ?_;refine EvC.a ?_ (by simp only[go_sem,List.cons_append,List.nil_append,hrl]<;>rfl);refine EvC.cd (fun hc=>?_) (fun hc=>?_);rotate_left
 ·
  have hlt:¬red.length≤64:=by have:¬(red.length:Int)≤64:=by simpa using hc
                              omega
  have hres:res=none:=by
   rw[←hm];cases f with
   | zero=>rfl
   | succ f=>rw[mergeC,if_pos (by omega)]
  rw[hres];refine EvC.exit ?_;refine EvC.a ?_;refine EvC.rz ?_;simp only[go_sem]
 have hlt:red.length≤64:=by have:(red.length:Int)≤64:=by simpa using hc
                            omega
 clear hc;refine EvC.skip ?_;refine EvC.block ?_;have hfis:=hF.isF;rw[←hNd]at hfis;have hnd:=redE_nodup hF.ok hF.len (by rw[←hNd];exact hro.nodup hfis);have hrdN:∀r∈red,r<N:=fun r hr=>by rw[hNd];exact hro.lt r hr
 have hul:up.length=N:=by rw[hF.len,hNd]
 apply EvC.seq;apply EvC.rs
 ·simp only[go_sem]<;>rfl
 ·simp
 refine XR.gcTo ⟨[(1,.ia t.cells),(2,.rf 1000050 0),(5,.rf 1000010 0),(6,.tl 1000040 red.length false),(20,.rf 1000010 0),(21,.rf 1000010 0),(22,.tl 1000040 red.length false)],[],frM N up (rowsV W N I)++[(1000050,.cells [.sc (.int .i64 0),.sc (.int .i64 0),.sl true [] .zer]),(1000040,.arr 1 (red.map natC) true)],1000150⟩ [1,2,5,6,20,21,22] [(1000010,1000010),(1000011,1000011),(1000050,1000050),(1000040,1000040)] rfl (by simp only[go_sem,frM,List.cons_append,List.nil_append]<;>rfl) ?_;refine XR.callF (frM N up (rowsV W N I)) [(1000050,.cells [.sc (.int .i64 0),.sc (.int .i64 0),.sl true [] .zer]),(1000040,.arr 1 (red.map natC) true)] (xs:=[.rf 1000010 0,.sl false (red.map natC) .unk]) rfl rfl (by simp only[go_sem]<;>rfl) (by simp only[go_sem]<;>rfl) (by simp only[go_sem,frM,List.cons_append,List.nil_append,hrl]<;>rfl) (by simp only[go_sem]<;>rfl) rfl ?_;refine states48_body ⟨by omega,by omega⟩ hF.ok hul _ false red .unk hrdN (by omega) hnd ?_;intro up1 hu1 hul1 hroot1;refine⟨by simp,⟨[(1000010,1000010),(1000011,1000011),(1000150,1000150)],rfl,by simp only[go_sem,frM,List.cons_append,List.nil_append]<;>rfl,rfl,rfl⟩,?_⟩;rw[←redE_same hroot1];refine XR.callF (frM N up1 (rowsV W N I)++[(1000150,.map 3 (entsI 0 (redE up1 red)))]) [(1000050,.cells [.sc (.int .i64 0),.sc (.int .i64 0),.sl true [] .zer]),(1000040,.arr 1 (red.map natC) true)] (xs:=[.rf 1000010 0,.mp 1000150]) rfl rfl (by simp only[go_sem]<;>rfl) (by simp only[go_sem]<;>rfl) (by simp only[go_sem,frM,List.cons_append,List.nil_append,hrl]<;>rfl) (by simp[go_sem]) rfl ?_;have hF1:=hF.same hu1 (by rw[hul1,hul]) hroot1;have hrl1:rootsL up1 N=rootsL up N:=rootsL_eq hroot1;refine next47_body ⟨by omega,by omega⟩ (by omega) hu1 hul1 W (fun p i h1 h2 h3=>by rw[hNd]at h1⊢;exact hF1.rowsIn v hI p i h1 h2 h3) red hrdN ?_;intro up2 o hu2 hul2 hroot2 hmin;have ho:=next_eq v tp hI hF1 (fun r hr=>hro.lt r hr) hro.zero hmin;rw[←hNd,hrl1]at ho;refine⟨by simp only[go_sem],⟨[(1000010,1000010),(1000011,1000011)],rfl,by simp only[go_sem,frM]<;>rfl,rfl,rfl⟩,?_⟩;apply XR.done
 ·simp only[go_sem]<;>rfl
 ·simp
 have hF2:=hF1.same hu2 (by rw[hul2,hul1]) hroot2;have hrl2:rootsL up2 N=rootsL up N:=by rw[rootsL_eq hroot2,hrl1]
 rw[←hrl2]at hro hm hfis ho;have hsum:sumR up2 N=sumR up N:=by rw[sumR_same hroot2,sumR_same hroot1]
 rw[←hsum]at hfu;have hnd2:=redE_nodup hF2.ok hF2.len (by rw[←hNd];exact hro.nodup hfis);clear hmin hF hF1 hroot1 hroot2 hrl1 hrl2 hsum hu1 hul1 hul hnd;refine EvC.seq ?_;refine EvC.a ?_;by_cases hon:o<0
 ·refine EvC.ct ?_ (by simp only[go_sem,decide_eq_true hon]<;>rfl);have hresv:res=some (machC t (rootsL up2 N) red):=by
   rw[←hm];cases f with
   | zero=>omega
   | succ f=>rw[mergeC,if_neg (by omega),if_pos (by rw[←ho];exact hon)]
  have hnn:nextC t (rootsL up2 t.rows.length) red<0:=by rw[←hNd,←ho];exact hon
  have hme:=machine_eq v hI hF2 (fun r hr=>hro.lt r hr) hnn;rw[←hNd]at hme;have hal2:=next_none v hI hF2 (fun r hr=>hro.lt r hr) hnn;apply EvC.seq;apply EvC.rs
  ·simp only[go_sem]<;>rfl
  ·simp[Mach.cells]
  refine XR.gcTo ⟨[(1,.ia t.cells),(2,.rf 1000050 0),(27,.rf 1000010 0),(28,.ag t.cells),(29,.tl 1000040 red.length false)],[],frM N up2 (rowsV W N I)++[(1000050,.cells [.sc (.int .i64 0),.sc (.int .i64 0),.sl true [] .zer]),(1000040,.arr 1 (red.map natC) true)],1000100⟩ [1,2,27,28,29] [(1000010,1000010),(1000011,1000011),(1000050,1000050),(1000040,1000040)] rfl (by simp only[go_sem,frM,Mach.cells,List.cons_append,List.nil_append]<;>rfl) ?_;refine XR.callF (frM N up2 (rowsV W N I)) [(1000050,.cells [.sc (.int .i64 0),.sc (.int .i64 0),.sl true [] .zer]),(1000040,.arr 1 (red.map natC) true)] (xs:=[.rf 1000010 0,.ag t.cells,.sl false (red.map natC) .unk]) rfl rfl (by simp only[go_sem]<;>rfl) (by simp only[go_sem]<;>rfl) (by simp only[go_sem,frM,Mach.cells,List.cons_append,List.nil_append,hrl]<;>rfl) (by simp only[go_sem]<;>rfl) rfl ?_;refine machine49_body v hI hNd hu2 hul2 W (fun p i h1 h2 h3=>by rw[hNd]at h1⊢;exact hF2.rowsIn v hI p i h1 h2 h3) false red .unk hrdN ⟨by
   have:=List.length_pos_of_mem hro.zero;omega,by omega⟩ hnd2 (fun r hr i hi hw=>?_) ?_
  ·obtain⟨r',h1,h2⟩:=hal2 r hr i hi hw;exact List.mem_map.2 ⟨r',h1,by rw[h2]⟩
  intro up3 hu3 hul3 hroot3;have hrows:((List.range red.length).map fun s=>rowFu (rowM up2 red W I s))=(machC t (rootsL up2 N) red).map rowFu:=by
   rw[←hme,List.map_map];rfl
  rw[hrows,hresv];refine⟨by simp,⟨[(1000010,1000010),(1000011,1000011),(1000101,1000101)],rfl,by simp only[go_sem,frM,List.cons_append,List.nil_append]<;>rfl,rfl,rfl⟩,?_⟩;apply XR.done
  ·simp only[go_sem,frM,List.cons_append,List.nil_append]<;>rfl
  ·simp
  refine EvC.rz ?_;simp only[go_sem]
 refine EvC.cs ?_ (by simp only[go_sem,decide_eq_false hon]<;>rfl);have hnn:¬nextC t (rootsL up2 t.rows.length) red<0:=by rw[←hNd,←ho];exact hon
 obtain⟨hn1',hn2',hn3'⟩:=next_node v hnn;rw[←hNd,←ho]at hn1' hn2' hn3';rw[←hNd,←ho]at hnn;obtain⟨n,hnd⟩:∃n,n=o.toNat:=⟨_,rfl⟩;rw[←hnd]at hn1' hn2' hn3';subst hn3';have hf0:f≠0:=by omega
 obtain⟨f,rfl⟩:∃k,f=k+1:=⟨f-1,by omega⟩;have hmn:mergeC t (f+1) (rootsL up2 N) red=match absorbC t (rootsL up2 N) red n with
   | some d=>mergeC t f d red
   | none=>mergeC t f (rootsL up2 N) (red++[n]):=by
  rw[mergeC,if_neg (by omega),←ho,if_neg hon,Int.toNat_natCast]
  all_goals rfl
 have hab:=fun R=>absorb50_body v hI hF2 false red .unk (fun r hr=>hro.lt r hr) (by omega) (n:=n) (by rw[←hNd];exact hn1') (R:=R);rw[←hNd]at hab;have hnt:n<t.rows.length:=by rw[←hNd];exact hn1'
 apply EvC.seq;apply EvC.rs
 ·simp only[go_sem]<;>rfl
 ·simp
 refine XR.gcTo ⟨[(1,.ia t.cells),(2,.rf 1000050 0),(5,.rf 1000010 0),(6,.tl 1000040 red.length false),(7,.sc (.int .i64 n)),(31,.rf 1000010 0),(32,.tl 1000040 red.length false),(33,.sc (.int .i64 n))],[],frM N up2 (rowsV W N I)++[(1000050,.cells [.sc (.int .i64 0),.sc (.int .i64 0),.sl true [] .zer]),(1000040,.arr 1 (red.map natC) true)],1000100⟩ [1,2,5,6,7,31,32,33] [(1000010,1000010),(1000011,1000011),(1000050,1000050),(1000040,1000040)] rfl (by simp only[go_sem,frM,List.cons_append,List.nil_append]<;>rfl) ?_;refine XR.callF (frM N up2 (rowsV W N I)) [(1000050,.cells [.sc (.int .i64 0),.sc (.int .i64 0),.sl true [] .zer]),(1000040,.arr 1 (red.map natC) true)] (xs:=[.rf 1000010 0,.sl false (red.map natC) .unk,.sc (.int .i64 n)]) rfl rfl (by simp only[go_sem]<;>rfl) (by simp only[go_sem]<;>rfl) (by simp only[go_sem,frM,List.cons_append,List.nil_append,hrl]<;>rfl) (by simp only[go_sem]<;>rfl) rfl ?_;refine hab _ ?_ ?_
 ·intro up' W' hF' hd;rw[hd]at hmn;rw[hmn]at hm;obtain⟨hro',hfis'⟩:=hro.absorb v hfis hnt hd;have hsum:=absorb_sum v hro hfis hnt hn2' hd;rw[←hNd,sumR_rootsL hF'.ok (by rw[hF'.len,hNd]),sumR_rootsL hF2.ok (by rw[hF2.len,hNd])]at hsum;refine⟨by simp,⟨[(1000010,1000010),(1000201,1000201)],rfl,by simp only[go_sem,frM2]<;>rfl,rfl,rfl⟩,?_⟩;apply XR.done
  ·simp only[go_sem,frM2,List.cons_append,List.nil_append]<;>rfl
  ·simp
  refine EvC.cs ?_;exact⟨[(1000010,1000010),(1000201,1000011),(1000050,1000050),(1000040,1000040)],(f,up',W',red),rfl,(by simp only[go_sem,frM,frM2,List.cons_append,List.nil_append]<;>rfl),⟨hF',hro',hm,by simp only;omega,hle⟩,by simp⟩
 ·intro hd;rw[hd]at hmn;rw[hmn]at hm;have hro':=hro.push v hfis hnt hd;refine⟨by simp,⟨[(1000010,1000010),(1000011,1000011)],rfl,by simp only[go_sem,frM]<;>rfl,rfl,rfl⟩,?_⟩;apply XR.done
  ·simp only[go_sem]<;>rfl
  ·simp
  refine EvC.ct ?_;unfold frM;have hr2:room (red.length+1) 8=true:=by simp only[room_eq,decide_eq_true_eq];omega
  have hnx:red.map natC++[[.sc (.int .i64 (n:Int))]]=(red++[n]).map natC:=by rw[List.map_append];rfl
  refine EvC.b ?_ (by simp only[go_sem,List.cons_append,List.nil_append,hrl,hnx]<;>rfl) (by simp[hr2]);exact⟨[(1000010,1000010),(1000011,1000011),(1000050,1000050),(1000040,1000040)],(f,up2,W,red++[n]),rfl,(by simp only[go_sem,frM,List.cons_append,List.nil_append,List.length_append,List.length_singleton]<;>rfl),⟨hF2,hro',hm,by simp only[List.length_append,List.length_singleton];omega,by simp only[List.length_append,List.length_singleton];omega⟩,by simp⟩
theorem idxOf_le':∀{l:List Nat} {i k:Nat},l[i]?=some k→l.idxOf k≤i
 | [],_,_,h=>by simp at h
 | x::l,0,k,h=>by simp at h;subst h;simp
 | x::l,i+1,k,h=>by
   rw[List.idxOf_cons];have:=idxOf_le' (l:=l) (i:=i) (k:=k) (by simpa using h);cases hx:x==k<;>simp<;>omega
theorem placeC_at{c l:List Nat}{k i r:Nat}(hr:l[i]?=some r)(hk:pU c r=k)(hb:∀j r',j<i→l[j]?=some r'→pU c r'≠k):placeC c l k=i:=by
 have hi:=(List.getElem?_eq_some_iff.1 hr).1;have hidx:(l.map (pU c)).idxOf k=i:=by
  have hle:¬(l.map (pU c)).idxOf k<i:=fun h=>by
   have h':(l.map (pU c)).idxOf k<(l.map (pU c)).length:=by simp;omega
   have:=List.getElem_idxOf h';rw[List.getElem_map]at this;exact hb _ _ h (List.getElem?_eq_getElem (by omega)) this
  have hge:(l.map (pU c)).idxOf k≤i:=idxOf_le' (by rw[List.getElem?_map,hr];simp[hk]);omega
 unfold placeC;rw[hidx,if_pos hi]
def compAns(t:Mach)(a b:Int):AV:=
 if nodesE t [a,b]≠0 then .tu [.sc (.bool false),.sc (.int .i64 (nodesE t [a,b]))]else .tu [.sc (.bool (compB t a.toNat b.toNat)),.sc (.int .i64 0)]
def prC(p:Nat×Nat):List AV:=[.sc (.int .i64 p.1),.sc (.int .i64 p.2)]
def stW(N:Nat)(st:List (Nat×Nat)):Nat:=(st.map fun p=>17^(N-p.1)).sum
theorem prC_norefs(E:List (Nat×Nat)):(E.map prC).all AV.norefs=true:=by simp[prC,AV.norefs,AV.noref]
theorem stW_snoc(N:Nat)(st:List (Nat×Nat))(p:Nat×Nat):stW N (st++[p])=stW N st+17^(N-p.1):=by simp[stW]
theorem comp_row{t:Mach}(v:TV t){a b:Nat}(ha:a<t.rows.length)(hb:b<t.rows.length):compB t a b=(List.range t.ins.toNat).all (compI t a b):=compB_eq v ha hb
structure StOk (t:Mach) (st:List (Nat×Nat)):Prop where
 fst:∀p∈st,p.1<t.rows.length
 snd:∀p∈st,p.2<t.rows.length
 pos:∀(j:Nat) p,st[j]?=some p→j≤15*p.1
set_option maxHeartbeats 8000000 in
theorem comp13_is(t:Mach)(hr:∀r∈t.rows,r.2.length<1000000)(a b:Int):PureIs prog 41 [.ag t.cells,.sc (.int .i64 a),.sc (.int .i64 b)] (compAns t a b):=by
 have hN:=nodes37_is t hr false [a,b] .full (by simp);rw[show [a,b].map intC=[[.sc (.int .i64 a)],[.sc (.int .i64 b)]]from rfl]at hN;unfold compAns;generalize hne:nodesE t [a,b]=e at hN;refine PureIs.of1 4 [6,7,8,9,10,11,12,13,20,25,28,45,46,47,48,63,71] func41 ntmps41 results41 fun _=>?_;refine EvC.a ?_ (by simp only[go_sem,Mach.cells]<;>rfl);refine EvC.z 0 ?_;rw[Mach.cells]at hN;refine EvC.seq ?_;refine EvC.k1 ?_ (c1:=.ca hN);refine EvC.a ?_;by_cases he:e=0;rotate_left
 ·rw[if_pos he];refine EvC.ct ?_ (by simp only[go_sem,decide_eq_false he]<;>rfl);refine EvC.a ?_;refine EvC.rz ?_;simp only[go_sem]
 first|rw[if_neg Bool.false_ne_true,if_neg (fun h=>h he)]|rw[if_neg (fun h=>h he)]
 subst he;obtain⟨v,hab⟩:=nodesE_ok hne;have ha:=hab a (by simp);have hb:=hab b (by simp);obtain⟨p,rfl⟩:∃p:Nat,a=p:=⟨a.toNat,by omega⟩;obtain⟨q,rfl⟩:∃q:Nat,b=q:=⟨b.toNat,by omega⟩;rw[Int.toNat_natCast,Int.toNat_natCast];have hrw:=v.rows;have hin:=v.ins;refine EvC.cs ?_;refine EvC.a ?_;obtain⟨N,hNd⟩:∃N,N=t.rows.length:=⟨_,rfl⟩;have hp:p<N:=by omega
 have hq:q<N:=by omega
 obtain⟨res,hres⟩:∃res,res=compB t p q:=⟨_,rfl⟩;rw[←hres];refine EvC.slotTv 9 (by simp only[go_sem]<;>rfl) ?_;refine EvC.seq ?_;refine EvC.block ?_;refine EvC.loopS (σ:=List (Nat×Nat)×Nat) (fun g=>⟨[(3,.ia t.cells),(9,.tv 0 g.1.length 0 g.2 .rest)],[],[(0,.arr 2 (g.1.map prC) false)],1⟩) (fun g=>stW N (g.1.take g.2))
  (fun g=>1≤g.1.length∧g.1.length≤1000000∧g.2≤g.1.length∧StOk t (g.1.take g.2)∧(res=true↔∀x∈g.1.take g.2,compB t x.1 x.2=true)) [3,9] 1 ?_ ?_
 ·refine⟨[(14,0)],([(p,q)],1),rfl,(by simp only[go_sem,Mach.cells,List.map_cons,List.map_nil,prC]<;>rfl),by simp,by simp,by simp,⟨?_,?_,?_⟩,?_⟩
  ·intro x hx;simp at hx;subst hx;rw[←hNd];exact hp
  ·intro x hx;simp at hx;subst hx;rw[←hNd];exact hq
  ·intro j x hx;simp at hx;have:=(List.getElem?_eq_some_iff.1 hx).1;simp at this;omega
  ·rw[hres];simp
 rintro⟨E,len⟩ ⟨h1,h2,h3,h4,h5⟩;simp only at h1 h2 h3 h4 h5⊢;have hEl:(E.map prC).length=E.length:=List.length_map _;have hEn:E≠[]:=List.length_pos_iff.1 h1;have htl:((E.map prC).take len).length=len:=by simp;omega
 refine EvC.seq ?_;refine EvC.a ?_ (by simp only[go_sem,htl]<;>rfl);refine EvC.cd (fun hc=>?_) (fun hc=>?_);rotate_left
 ·
  obtain rfl:len=0:=by simpa[hEn]using hc
  have hr:res=true:=h5.2 fun x hx=>by simp at hx
  rw[hr];refine EvC.exit ?_;refine EvC.a ?_;refine EvC.rz ?_;simp only[go_sem]
 have hlen:0<len:=by simpa using hc
 clear hc;refine EvC.skip ?_;refine EvC.block ?_;obtain⟨k,rfl⟩:∃k,len=k+1:=⟨len-1,by omega⟩;have hk:k<E.length:=by omega
 obtain⟨⟨a,b⟩,hx⟩:∃x,E[k]?=some x:=⟨_,List.getElem?_eq_getElem hk⟩;have htk:E.take (k+1)=E.take k++[(a,b)]:=by rw[List.take_succ,hx];rfl
 have haN:a<N:=by rw[hNd];exact h4.fst (a,b) (by rw[htk];simp)
 have hbN:b<N:=by rw[hNd];exact h4.snd (a,b) (by rw[htk];simp)
 have hka:k≤15*a:=h4.pos k (a,b) (by rw[htk,List.getElem?_append_right (by simp;omega)];simp;rw[Nat.min_eq_left (by omega),Nat.sub_self];rfl);have hkin:((k:Int)).toNat=k:=Int.toNat_natCast k;have hgE:(E.map prC)[k]?=some (prC (a,b)):=by rw[List.getElem?_map,hx];rfl
 have hg1:((E.map prC).take (k+1))[k]?=some (prC (a,b)):=by rw[List.getElem?_take_of_lt (by omega),hgE]
 have hs1:(k:Int)+((1:Nat):Int)-1=k:=by omega
 refine EvC.a ?_ (by simp only[go_sem,htl,hs1,hkin,hx,prC]<;>rfl) (by simp;exact inI64_of (by omega) (by omega));refine EvC.z 10 ?_;refine EvC.a ?_ (by simp only[go_sem,htl,hs1,hkin]<;>rfl) (by simp;refine⟨?_,by omega⟩;exact inI64_of (by omega) (by omega));obtain⟨A,hA⟩:∃A,t.rows[a]?=some A:=⟨_,List.getElem?_eq_getElem (by omega)⟩;obtain⟨B,hB⟩:∃B,t.rows[b]?=some B:=⟨_,List.getElem?_eq_getElem (by omega)⟩;have hAl:=(v.row a A hA).1;have hBl:=(v.row b B hB).1;have hain:(a:Int).toNat=a:=Int.toNat_natCast a;have hbin:(b:Int).toNat=b:=Int.toNat_natCast b;refine EvC.a ?_ (by simp only[go_sem,Mach.cells,hA,hain,rowC,List.length_map]<;>rfl) (by simp;try omega);have hcr:=comp_row v (show a<t.rows.length by omega) (show b<t.rows.length by omega);obtain⟨W0,hW0⟩:∃W,W=stW N (E.take k):=⟨_,rfl⟩;have hWo:stW N (E.take (k+1))=W0+17^(N-a):=by rw[htk,stW_snoc,hW0]
 have h6:res=true↔(∀x∈E.take k,compB t x.1 x.2=true)∧∀j:Nat,(j:Int)<t.ins→compI t a b j=true:=by
  rw[h5,htk];constructor
  ·intro h;refine⟨fun x hx=>h x (List.mem_append_left _ hx),fun j hj=>?_⟩;have:=h (a,b) (by simp);simp only at this;rw[hcr,List.all_eq_true]at this;exact this j (List.mem_range.2 (by omega))
  ·rintro⟨h,h'⟩ x hx;rcases List.mem_append.1 hx with hx|hx
   ·exact h x hx
   ·rw[List.mem_singleton.1 hx];simp only;rw[hcr,List.all_eq_true];intro j hj;exact h' j (by have:=List.mem_range.1 hj;omega)
 have hsk:StOk t (E.take k):=⟨fun x hx=>h4.fst x (by rw[htk];simp[hx]),fun x hx=>h4.snd x (by rw[htk];simp[hx]),fun j x hx=>h4.pos j x (by rw[htk,List.getElem?_append_left (List.getElem?_eq_some_iff.1 hx).1];exact hx)⟩;refine EvC.block ?_;refine EvC.loopS (σ:=Nat×List (Nat×Nat)×Nat) (fun g=>⟨[(3,.ia t.cells),(9,.tv 0 g.2.1.length 0 g.2.2 .rest),(10,.ia [.sc (.int .i64 a),.sc (.int .i64 b)]),(45,.sl A.1 (A.2.map edgeC) .unk),(46,.sc (.int .i64 A.2.length)),(47,.sc (.int .i64 g.1))],[],[(0,.arr 2 (g.2.1.map prC) false)],1⟩) (fun g=>t.ins.toNat-g.1)
  (fun g=>(g.1:Int)≤t.ins∧1≤g.2.1.length∧g.2.1.length≤1000000∧g.2.2≤g.2.1.length∧g.2.2≤15*a+g.1∧StOk t (g.2.1.take g.2.2)∧stW N (g.2.1.take g.2.2)≤W0+g.1*17^(N-a-1)∧(res=true↔(∀x∈g.2.1.take g.2.2,compB t x.1 x.2=true)∧∀j:Nat,g.1≤j→(j:Int)<t.ins→compI t a b j=true)) [3,9,10,45,46,47] 1 ?_ ?_
 ·refine⟨[(0,0)],(0,E,k),rfl,(by simp only[go_sem,Mach.cells,Nat.sub_zero,Int.natCast_zero,prC_norefs]<;>rfl),by simp only;omega,h1,h2,by simp only;omega,by simp only;omega,hsk,by rw[hW0];simp,?_⟩;rw[h6];simp
 clear h6 hsk h5 h4 htk hx;rintro⟨i,E',len⟩ ⟨k1,k2,k3,k4,k5,k6,k7,k8⟩;simp only at k1 k2 k3 k4 k5 k6 k7 k8⊢;have hiin:(i:Int).toNat=i:=Int.toNat_natCast i;refine EvC.a ?_;refine EvC.seq ?_;refine EvC.cd (fun hc=>?_) (fun hc=>?_);rotate_left
 ·
  have hi:¬(i:Int)<t.ins:=by have:¬i<A.2.length:=by simpa using hc
                             omega
  refine EvC.exit ?_;have hpw:16*17^(N-a-1)<17^(N-a):=by
   obtain⟨d,hd⟩:∃d,N-a=d+1:=⟨N-a-1,by omega⟩;rw[hd,Nat.add_sub_cancel,Nat.pow_succ];have:=Nat.pow_pos (n:=d) (show 0<17 by omega);omega
  have hi16:i*17^(N-a-1)≤16*17^(N-a-1):=Nat.mul_le_mul_right _ (by omega);exact⟨[(0,0)],(E',len),rfl,(by simp only[go_sem,Mach.cells,prC_norefs]<;>rfl),⟨k2,k3,k4,k6,by rw[k8];exact⟨fun h=>h.1,fun h=>⟨h,fun j h1 h2=>by omega⟩⟩⟩,by simp only;rw[hWo];omega⟩
 have hi:(i:Int)<t.ins:=by have:i<A.2.length:=by simpa using hc
                           omega
 clear hc;refine EvC.skip ?_;refine EvC.seq ?_;refine EvC.block ?_;have hiA:i<A.2.length:=by omega
 have hiB:i<B.2.length:=by omega
 have hxA:A.2[i]?=some (eT t a i):=by simp[eT,hA,hiA]
 have hxB:B.2[i]?=some (eT t b i):=by simp[eT,hB,hiB]
 have eA:=v.edge (show a<t.rows.length by omega) hi;have eB:=v.edge (show b<t.rows.length by omega) hi;have hci:compI t a b i=(!clashE (eT t a i) (eT t b i)&&(!bothE (eT t a i) (eT t b i)||compB t (eT t a i).1.toNat (eT t b i).1.toNat)):=rfl;generalize eT t a i=x at hxA eA hci;generalize eT t b i=y at hxB eB hci;obtain⟨x1,x2⟩:=x;obtain⟨y1,y2⟩:=y;simp only at eA eB hci;have hnr:=prC_norefs E';refine EvC.a ?_ (by simp only[go_sem,hxA,edgeC,hiin,List.length_map]<;>rfl) (by simp;try omega);refine EvC.gc [3,9,10,11,12,45,46,47] [(0,0),(5,1)] 2 rfl ?_;refine EvC.z 1 ?_ (by simp only[go_sem,hnr]<;>rfl);refine EvC.a ?_ (by simp only[go_sem,Mach.cells,hB,hbin,rowC,hxB,edgeC,hiin,List.length_map]<;>rfl) (by simp;try omega);refine EvC.z 11 ?_ (by simp only[go_sem,hnr]<;>rfl);have hK:=clash38_is x1 x2 y1 y2;refine EvC.seq ?_;refine EvC.k1 ?_ (c1:=.ca hK);cases hck:clashE (x1,x2) (y1,y2)with
 | true=>
   rw[hck]at hci;have hrf:res=false:=by
    rw[←Bool.not_eq_true,k8];intro h;have:=h.2 i (Nat.le_refl _) hi;rw[hci]at this;cases this
   rw[hrf];refine EvC.ct ?_;refine EvC.a ?_;refine EvC.rz ?_;simp only[go_sem]
 | false=>
 rw[hck,Bool.not_false,Bool.true_and]at hci;refine EvC.cs ?_;have hmul:(i+1)*17^(N-a-1)=i*17^(N-a-1)+17^(N-a-1):=Nat.succ_mul _ _;have hno:bothE (x1,x2) (y1,y2)=false→(res=true↔(∀x∈E'.take len,compB t x.1 x.2=true)∧∀j:Nat,i+1≤j→(j:Int)<t.ins→compI t a b j=true):=fun h=>by
  rw[h]at hci;rw[k8];refine and_congr Iff.rfl ⟨fun g j h1 h2=>g j (by omega) h2,fun g j h1 h2=>?_⟩;by_cases e:j=i
  ·rw[e,hci];rfl
  ·exact g j (by omega) h2
 by_cases hx0:x1=-1
 ·have d1:=decide_eq_true hx0;have hbo:bothE (x1,x2) (y1,y2)=false:=by simp[bothE,hx0]
  refine EvC.g ?_ (h:=by simp only[go_sem,d1]<;>rfl);refine EvC.cs ?_;refine EvC.bi ?_;exact⟨[(0,0)],(i+1,E',len),rfl,(by simp only[go_sem,hnr,Mach.cells,Int.natCast_add,Int.natCast_one]<;>rfl),⟨by simp only;omega,k2,k3,k4,by simp only;omega,k6,Nat.le_trans k7 (Nat.add_le_add_left (Nat.mul_le_mul_right _ (Nat.le_succ i)) _),hno hbo⟩,by simp only;omega⟩
 have d1:=decide_eq_false hx0;by_cases hy0:y1=-1
 ·have d2:=decide_eq_true hy0;have hbo:bothE (x1,x2) (y1,y2)=false:=by simp[bothE,hy0]
  refine EvC.g ?_ (h:=by simp only[go_sem,d1,d2]<;>rfl);refine EvC.cs ?_;refine EvC.bi ?_;exact⟨[(0,0)],(i+1,E',len),rfl,(by simp only[go_sem,hnr,Mach.cells,Int.natCast_add,Int.natCast_one]<;>rfl),⟨by simp only;omega,k2,k3,k4,by simp only;omega,k6,Nat.le_trans k7 (Nat.add_le_add_left (Nat.mul_le_mul_right _ (Nat.le_succ i)) _),hno hbo⟩,by simp only;omega⟩
 have d2:=decide_eq_false hy0;have hbo:bothE (x1,x2) (y1,y2)=true:=by simp[bothE,hx0,hy0]
 rw[hbo,Bool.not_true,Bool.false_or]at hci;obtain⟨u,rfl⟩:∃u:Nat,x1=u:=⟨x1.toNat,by omega⟩;obtain⟨w,rfl⟩:∃u:Nat,y1=u:=⟨y1.toNat,by omega⟩;rw[Int.toNat_natCast,Int.toNat_natCast]at hci;have hpush:∀E'':List (Nat×Nat),E''.take (len+1)=E'.take len++[(u,w)]→
   StOk t (E''.take (len+1))∧stW N (E''.take (len+1))≤W0+(i+1)*17^(N-a-1)∧(res=true↔(∀x∈E''.take (len+1),compB t x.1 x.2=true)∧∀j:Nat,i+1≤j→(j:Int)<t.ins→compI t a b j=true):=fun E'' hE=>by
  rw[hE];refine⟨⟨fun x hx=>?_,fun x hx=>?_,fun j x hx=>?_⟩,?_,?_⟩
  ·rcases List.mem_append.1 hx with h|h
   ·exact k6.fst x h
   ·rw[List.mem_singleton.1 h];simp only;omega
  ·rcases List.mem_append.1 hx with h|h
   ·exact k6.snd x h
   ·rw[List.mem_singleton.1 h];simp only;omega
  ·have htl:(E'.take len).length=len:=by simp;omega
   by_cases hj:j<len
   ·rw[List.getElem?_append_left (by omega)]at hx;exact k6.pos j x hx
   ·have hj':=(List.getElem?_eq_some_iff.1 hx).1;rw[List.length_append,htl,List.length_singleton]at hj';obtain rfl:j=len:=by omega
    rw[List.getElem?_append_right (by omega),htl,Nat.sub_self]at hx;cases hx;simp only;omega
  ·rw[stW_snoc];have:17^(N-u)≤17^(N-a-1):=Nat.pow_le_pow_right (by omega) (by omega);simp only;omega
  ·rw[k8];constructor
   ·rintro⟨g1,g2⟩;refine⟨fun x hx=>?_,fun j h1 h2=>g2 j (by omega) h2⟩;rcases List.mem_append.1 hx with h|h
    ·exact g1 x h
    ·rw[List.mem_singleton.1 h];have:=g2 i (Nat.le_refl _) hi;rw[hci]at this;exact this
   ·rintro⟨g1,g2⟩;refine⟨fun x hx=>g1 x (List.mem_append_left _ hx),fun j h1 h2=>?_⟩;by_cases e:j=i
    ·rw[e,hci];exact g1 (u,w) (by simp)
    ·exact g2 j (by omega) h2
 have hEl':(E'.map prC).length=E'.length:=List.length_map _;have hE0:E'≠[]:=fun e=>by rw[e]at k2;simp at k2
 have hr5:room (E'.length+1) 16=true:=by simp only[room_eq,decide_eq_true_eq];omega
 refine EvC.g ?_ (h:=by simp only[go_sem,d1,d2]<;>rfl);refine EvC.ct ?_;by_cases hfull:len=E'.length
 ·subst hfull;have hE1:(E'++[(u,w)]).take (E'.length+1)=E'.take E'.length++[(u,w)]:=by rw[List.take_length,List.take_of_length_le (by simp)]
  obtain⟨g1,g2,g3⟩:=hpush _ hE1;have hn2:=prC_norefs (E'++[(u,w)]);have hm2:E'.map prC++[[.sc (.int .i64 u),.sc (.int .i64 w)]]=(E'++[(u,w)]).map prC:=by rw[List.map_append];rfl
  have hl2:(E'++[(u,w)]).length=E'.length+1:=by simp
  generalize E'++[(u,w)]=E2 at *;refine EvC.b ?_ (by simp only[go_sem,hEl',List.length_append,List.length_singleton,hm2]<;>rfl) (by simp[hr5];exact hE0);refine EvC.bi ?_;exact⟨[(0,0)],(i+1,E2,E'.length+1),rfl,(by simp only[go_sem,hn2,hl2,Mach.cells,Int.natCast_add,Int.natCast_one]<;>rfl),⟨by simp only;omega,by simp only;omega,by simp only;omega,by simp only;omega,by simp only;omega,g1,g2,g3⟩,by simp only;omega⟩
 ·have hE1:(E'.take len++([(u,w)]++E'.drop (len+1))).take (len+1)=E'.take len++[(u,w)]:=by
    rw[←List.append_assoc,List.take_append_of_le_length (by simp;omega),List.take_of_length_le (by simp;omega)]
  obtain⟨g1,g2,g3⟩:=hpush _ hE1;have hn2:=prC_norefs (E'.take len++([(u,w)]++E'.drop (len+1)));have hm2:(E'.map prC).take len++[.sc (.int .i64 u),.sc (.int .i64 w)]::(E'.map prC).drop (len+1)=(E'.take len++([(u,w)]++E'.drop (len+1))).map prC:=by rw[List.map_append,List.map_append,List.map_take,List.map_drop];rfl
  have hl2:(E'.take len++([(u,w)]++E'.drop (len+1))).length=E'.length:=by simp;omega
  generalize E'.take len++([(u,w)]++E'.drop (len+1))=E2 at *;refine EvC.b ?_ (by simp only[go_sem,hEl',hfull,hm2,List.length_singleton]<;>rfl) (by simp;omega);refine EvC.bi ?_;exact⟨[(0,0)],(i+1,E2,len+1),rfl,(by simp only[go_sem,hm2,hn2,hl2,Mach.cells,Int.natCast_add,Int.natCast_one]<;>rfl),⟨by simp only;omega,by simp only;omega,by simp only;omega,by simp only;omega,by simp only;omega,g1,g2,g3⟩,by simp only;omega⟩
theorem rows_get{a b:Mach}(h:a.rows.map (·.2)=b.rows.map (·.2)){i:Nat}{r:Row}(hr:a.rows[i]?=some r):∃n,b.rows[i]?=some (n,r.2):=by
 have h2:=congrArg (fun l=>l[i]?) h;simp only[List.getElem?_map,hr,Option.map_some]at h2;cases hb:b.rows[i]? with
 | none=>rw[hb]at h2;cases h2
 | some q=>rw[hb]at h2;simp only[Option.map_some,Option.some.injEq]at h2;exact⟨q.1,by rw[h2]⟩
theorem sameM_is{a b:Mach}(h1:a.ins=b.ins)(h2:a.outs=b.outs)(h3:a.rows.map (·.2)=b.rows.map (·.2))(hl:a.rows.length<1000000)(hr:∀r∈a.rows,r.2.length<1000000):PureIs prog 10 [.ag a.cells,.ag b.cells] (.sc (.bool true)):=by
 have hl2:b.rows.length=a.rows.length:=by have:=congrArg List.length h3;simpa using this.symm
 refine PureIs.of1 7 [27,32,47,55,74] func10 ntmps10 results10 fun _=>?_;refine EvC.a ?_ (by simp only[go_sem,Mach.cells]<;>rfl);refine EvC.z 0 ?_;refine EvC.z 1 ?_;refine EvC.seq ?_;refine EvC.g ?_ (h:=by simp only[go_sem,h1,h2,hl2]<;>rfl);refine EvC.cs ?_;refine EvC.seq ?_;refine EvC.a ?_;refine EvC.block ?_;refine EvC.loopS (σ:=Nat) (fun i=>⟨[(2,.ia a.cells),(3,.ia b.cells),(5,.sc (.int .i64 i))],[],[],0⟩) (fun i=>a.rows.length-i) (fun i=>i≤a.rows.length) [2,3,5] 0 ?_ ?_
 ·exact⟨[],0,rfl,(by simp only[go_sem,Mach.cells,h1,h2]<;>rfl),Nat.zero_le _⟩
 intro i hi;refine EvC.seq ?_;refine EvC.a ?_ (by simp only[go_sem,Mach.cells]<;>rfl);refine EvC.cd (fun hc=>?_) (fun hc=>?_);rotate_left
 ·refine EvC.exit ?_;refine EvC.a ?_;refine EvC.rz ?_;simp only[go_sem]
 have hi:i<a.rows.length:=by simpa using hc
 have he:a.rows[i]?=some a.rows[i]:=List.getElem?_eq_getElem hi;have hm:=List.getElem_mem hi;generalize a.rows[i]=r at he hm;obtain⟨n,hb⟩:=rows_get h3 he;obtain⟨na,es⟩:=r;have hes:=hr _ hm;simp only at hb hes;refine EvC.skip ?_;refine EvC.seq ?_;refine EvC.block ?_;refine EvC.seq ?_;refine EvC.d mixed ?_ (h:=by simp only[go_sem,he,hb,rowC,Mach.cells]<;>rfl);refine EvC.cs ?_;refine EvC.a ?_;refine EvC.block ?_;refine EvC.loopS (σ:=Nat) (fun k=>⟨[(2,.ia a.cells),(3,.ia b.cells),(5,.sc (.int .i64 i)),(6,.sc (.int .i64 k))],[],[],0⟩) (fun k=>es.length-k) (fun k=>k≤es.length) [2,3,5,6] 0 ?_ ?_
 ·exact⟨[],0,rfl,(by simp only[go_sem,Mach.cells,h1,h2]<;>rfl),Nat.zero_le _⟩
 intro k hk;refine EvC.seq ?_;refine EvC.a ?_ (by simp only[go_sem,he,rowC,Mach.cells]<;>rfl);refine EvC.cd (fun hc=>?_) (fun hc=>?_);rotate_left
 ·refine EvC.exit ?_;refine EvC.bi ?_;exact⟨[],i+1,rfl,(by simp only[go_sem,Mach.cells]<;>rfl),by omega,by omega⟩
 have hk:k<es.length:=by simpa using hc
 have hek:es[k]?=some es[k]:=List.getElem?_eq_getElem hk;generalize es[k]=e at hek;refine EvC.skip ?_;refine EvC.seq ?_;refine EvC.block ?_;refine EvC.d mixed ?_ (h:=by simp only[go_sem,he,hb,rowC,Mach.cells,hek,edgeC]<;>rfl);refine EvC.cs ?_;refine EvC.bi ?_;exact⟨[],k+1,rfl,(by simp only[go_sem,Mach.cells]<;>rfl),by omega,by omega⟩
theorem ints_unk(l:List Int):AV.unkss (l.map intC)=l.map intC:=unkss_map intC (fun _=>rfl) l
def twoM:Mach:=⟨1,2,false,[(false,[(1,0)]),(false,[(0,1)])]⟩
theorem two41_is:PureIs prog 46 [] (.ag twoM.cells):=by
 have key:PureIs prog 46 [] (.ag [.sc (.int .i64 1),.sc (.int .i64 2),.sl false [[.sl false [[.sc (.int .i64 1),.sc (.int .i64 0)]] .full],[.sl false [[.sc (.int .i64 0),.sc (.int .i64 1)]] .full]] .full]):=by
  refine PureIs.of1 1 [] func46 ntmps46 results46 fun _=>?_;refine EvC.a ?_;refine EvC.a ?_;refine EvC.rz ?_;simp only[go_sem]
 exact PureIs.weakR key
theorem chain36_is(o:Int)(r:List Int)(c:Cp)(hr:1≤r.length∧r.length≤1000):PureIs prog 40 [.sc (.int .i64 o),.sl false (r.map intC) c] (.ag (treeM 1 o (okLog [⟨List.replicate r.length 0,r⟩])).cells):=by
 have hT:=tree11_is 1 o false [⟨List.replicate r.length 0,r⟩] .unk (fun t ht=>by
  rw[List.mem_singleton.1 ht];exact⟨by simp,by simp;omega⟩) (by simp) (by omega)
 have hr0:r.isEmpty=false:=by cases r with
  | nil=>simp at hr
  | cons=>rfl
 have hz0:(List.replicate r.length (0:Int)).isEmpty=false:=by cases r with
  | nil=>simp at hr
  | cons=>rfl
 have hT':PureIs prog 73 [.ag [.sc (.int .i64 1),.sc (.int .i64 o),.sl false [[.sl false (List.replicate r.length [.sc (.int .i64 0)]) .unk,.sl false (r.map intC) c]] .unk]] (.ag (treeM 1 o (okLog [⟨List.replicate r.length 0,r⟩])).cells):=by
  refine PureIs.weak ?_;have e:[AV.ag [.sc (.int .i64 1),.sc (.int .i64 o),.sl false [[.sl false (List.replicate r.length [.sc (.int .i64 0)]) .unk,.sl false (r.map intC) c]] .unk]].map AV.unk=[.ag [.sc (.int .i64 (1:Nat)),.sc (.int .i64 o),.sl false ([⟨List.replicate r.length 0,r⟩].map traceC) .unk]]:=by
   have h1:AV.unkss (List.replicate r.length [AV.sc (.int .i64 0)])=List.replicate r.length [.sc (.int .i64 0)]:=by
    rw[unkss_eq,List.map_replicate];rfl
   simp[AV.unk,AV.unks,AV.unkss,traceC,hr0,hz0,h1,ints_unk,intC]
  rw[e];exact hT
 have hzn:(List.replicate r.length [AV.sc (.int .i64 0)]).all AV.norefs=true:=by simp[List.all_eq_true,AV.norefs,AV.noref]
 refine PureIs.of1 2 [4,11] func40 ntmps40 results40 fun _=>?_;refine EvC.a ?_;apply EvC.seq;apply EvC.rs
 ·simp only[go_sem,List.length_map,List.length_replicate,decide_true]<;>rfl
 ·simp;simp only[room_eq,decide_eq_true_eq];omega
 refine XR.frzD 4 (by simp only[go_sem,List.length_replicate,decide_true,hzn]<;>rfl) ?_;refine XR.snapA 7 (by simp only[go_sem]<;>rfl) ?_;refine XR.frz 7 (by simp only[go_sem,List.length_replicate,hzn]<;>rfl) ?_;refine XR.call rfl rfl (by simp only[go_sem]<;>rfl) (by simp only[go_sem]<;>rfl) (by simp only[go_sem]<;>rfl) (by simp only[go_sem]<;>rfl) hT' ?_;apply XR.done
 ·simp only[go_sem,Mach.cells]<;>rfl
 ·simp
 refine EvC.rz ?_;simp only[go_sem];rfl
def okB(y x:Int×Int):Bool:=!knownE x||(decide (x.1=-1)==decide (y.1=-1))&&(decide (x.1=-1)||decide (y.2=x.2))
def okE(y x:Int×Int)(to:Nat):Prop:=okB y x=true∧(x.1≠ -1→y.1=(to:Int))
structure FitH (t m:Mach) (h:Nat→Nat):Prop where
 root:h 0=0
 ok:∀n i:Nat,n<t.rows.length→(i:Int)<t.ins→okE (eT m (h n) i) (eT t n i) (h (eT t n i).1.toNat)
open Classical in
noncomputable def fitB(t m:Mach):Bool:=decide (∃h,FitH t m h)
def stN(st:List Nat)(k:Nat):Nat:=(st[k]?).getD 0
structure FitI (t m:Mach) (st:List Nat) (n i:Nat):Prop where
 len:st.length=t.rows.length
 root:stN st 0=0
 lt:∀s∈st,s<m.rows.length
 ok:∀q j:Nat,q<t.rows.length→(j:Int)<t.ins→(q<n∨q=n∧j<i)→okE (eT m (stN st q) j) (eT t q j) (stN st (eT t q j).1.toNat)
theorem stN_lt{st:List Nat}{k n:Nat}(h:∀s∈st,s<n)(h0:0<n):stN st k<n:=by
 unfold stN;cases hk:st[k]? with
 | none=>exact h0
 | some s=>exact h s (List.mem_of_getElem? hk)
theorem FitI.start{t m:Mach}(hm:0<m.rows.length):FitI t m (List.replicate t.rows.length 0) 0 0:=by
 refine⟨by simp,?_,fun s hs=>?_,fun q j _ _ h=>by omega⟩
 ·unfold stN;cases h:(List.replicate t.rows.length 0)[0]? with
  | none=>rfl
  | some s=>exact List.eq_of_mem_replicate (List.mem_of_getElem? h)
 ·rw[List.eq_of_mem_replicate hs];exact hm
theorem FitI.next{t m:Mach}{st:List Nat}{n:Nat}(h:FitI t m st n t.ins.toNat):FitI t m st (n+1) 0:=
 ⟨h.len,h.root,h.lt,fun q j h1 h2 h3=>h.ok q j h1 h2 (by omega)⟩
theorem FitI.keep{t m:Mach}{st:List Nat}{n i:Nat}(h:FitI t m st n i)(hk:okE (eT m (stN st n) i) (eT t n i) (stN st (eT t n i).1.toNat)):FitI t m st n (i+1):=
 ⟨h.len,h.root,h.lt,fun q j h1 h2 h3=>by
  by_cases e:q=n∧j=i
  ·rw[e.1,e.2];exact hk
  ·exact h.ok q j h1 h2 (by omega)⟩
theorem FitI.set{t m:Mach}(v:TV t)(tp:TP t){st:List Nat}{n i:Nat}(h:FitI t m st n i)(hn:n<t.rows.length)(hi:(i:Int)<t.ins)(hx:(eT t n i).1≠ -1){to:Nat}(hto:(eT m (stN st n) i).1=to)(hlt:to<m.rows.length)
  (hb:okB (eT m (stN st n) i) (eT t n i)=true):FitI t m (st.set (eT t n i).1.toNat to) n (i+1):=by
 have he:=v.edge hn hi;obtain⟨k,hk⟩:∃k:Nat,(eT t n i).1=k:=⟨(eT t n i).1.toNat,by omega⟩;rw[hk,Int.toNat_natCast];have hkn:n<k∧k<t.rows.length:=by omega
 have hs:∀j,stN (st.set k to) j=if j=k then to else stN st j:=fun j=>by
  unfold stN;rw[List.getElem?_set];by_cases e:k=j
  ·subst e;rw[if_pos rfl,if_pos rfl,if_pos (by rw[h.len];exact hkn.2)];rfl
  ·rw[if_neg e,if_neg (fun h=>e h.symm)]
 refine⟨by rw[List.length_set];exact h.len,by rw[hs,if_neg (by omega)];exact h.root,fun s hs=>?_,fun q j h1 h2 h3=>?_⟩
 ·rcases List.mem_or_eq_of_mem_set hs with h1|h1
  ·exact h.lt s h1
  ·rw[h1];exact hlt
 ·rw[hs,if_neg (by omega)];by_cases e:q=n∧j=i
  ·obtain⟨rfl,rfl⟩:=e;rw[hk,Int.toNat_natCast,hs,if_pos rfl];exact⟨hb,fun _=>hto⟩
  ·have:=h.ok q j h1 h2 (by omega);refine⟨this.1,fun hne=>?_⟩;rw[hs,if_neg]
   ·exact this.2 hne
   ·intro hc;have hq:=v.edge h1 h2;have:=tp.uniq q j n i hne (by omega);exact e this
theorem FitI.agree{t m:Mach}(tp:TP t){st:List Nat}{n i:Nat}(h:FitI t m st n i){f:Nat→Nat}(hf:FitH t m f):∀k,k≤n→k<t.rows.length→stN st k=f k:=by
 intro k
 induction k using Nat.strongRecOn with
 | _ k ih=>
   intro h1 h2;by_cases h0:k=0
   ·rw[h0,h.root,hf.root]
   ·obtain⟨q,j,k1,k2,k3⟩:=tp.has k (by omega) h2;have a1:=(h.ok q j (by omega) k2 (.inl (by omega))).2 (by omega);have a2:=(hf.ok q j (by omega) k2).2 (by omega);rw[←ih q k1 (by omega) (by omega)]at a2;rw[k3,Int.toNat_natCast]at a1 a2;omega
theorem FitI.done{t m:Mach}{st:List Nat}{n:Nat}(h:FitI t m st n 0)(hn:t.rows.length≤n):fitB t m=true:=by
 classical
 unfold fitB;rw[decide_eq_true_eq];exact⟨stN st,h.root,fun q j h1 h2=>h.ok q j h1 h2 (.inl (by omega))⟩
theorem FitI.bad{t m:Mach}(tp:TP t){st:List Nat}{n i:Nat}(h:FitI t m st n i)(hn:n<t.rows.length)(hi:(i:Int)<t.ins)(hb:okB (eT m (stN st n) i) (eT t n i)=false):fitB t m=false:=by
 classical
 unfold fitB;rw[decide_eq_false_iff_not];rintro⟨f,hf⟩;have:=(hf.ok n i hn hi).1;rw[←h.agree tp hf n (Nat.le_refl _) hn,hb]at this;cases this
theorem Valid.edge{m:Mach}(v:Valid m){s i:Nat}(hs:s<m.rows.length)(hi:(i:Int)<m.ins):∃A:Row,m.rows[s]?=some A∧(A.2.length:Int)=m.ins∧A.2[i]?=some (eT m s i)∧((eT m s i=(-1,-1))∨(0≤(eT m s i).1∧(eT m s i).1<m.rows.length∧0≤(eT m s i).2∧(eT m s i).2<m.outs)):=by
 obtain⟨h1,h2⟩:=v.row _ (List.getElem_mem hs);have hl:i<(m.rows[s]).2.length:=by omega
 have e:eT m s i=(m.rows[s]).2[i]:=by simp[eT,hs,hl]
 refine⟨m.rows[s],List.getElem?_eq_getElem hs,h1,by rw[e];exact List.getElem?_eq_getElem hl,?_⟩;have:=h2 _ (List.getElem_mem hl);rw[←e]at this;unfold fitsR at this;simp only[Bool.or_eq_true,Bool.and_eq_true,decide_eq_true_eq]at this;rcases this with h|h
 ·exact .inl (Prod.ext h.1 h.2)
 ·exact .inr (by omega)
def fitAns(t:Mach)(b:Bool)(m:Mach):AV:=
 if checkM m≠0 then .tu [.sc (.bool false),.sc (.int .i64 (checkM m))]
 else if checkT t≠0 then .tu [.sc (.bool false),.sc (.int .i64 (checkT t))]
 else if m.ins≠t.ins then .tu [.sc (.bool false),.sc (.int .i64 5)]
 else .tu [.sc (.bool b),.sc (.int .i64 0)]
set_option maxHeartbeats 8000000 in
theorem fits23_is(t m:Mach)(hr:∀r∈t.rows,r.2.length<1000000)(hm:∀r∈m.rows,r.2.length<1000000):PureIs prog 45 [.ag m.cells,.ag t.cells] (fitAns t (fitB t m) m):=by
 have hC:=check_is m hm;have hT:=checkT_is t hr;unfold fitAns;generalize hce:checkM m=ce at hC;generalize hte:checkT t=te at hT;refine PureIs.of1 14 [4,5,6,7,8,9,10,11,12,13,17,22,28,32,34,35,36,37,41,42,43,44,59,63,87] func45 ntmps45 results45 fun _=>?_;refine EvC.a ?_ (by simp only[go_sem,Mach.cells]<;>rfl);refine EvC.z 0 ?_;refine EvC.z 1 ?_;rw[Mach.cells]at hC hT;refine EvC.seq ?_;refine EvC.k1 ?_ (c1:=.ca hC);refine EvC.a ?_;by_cases he:ce=0;rotate_left
 ·rw[if_pos he];refine EvC.ct ?_ (by simp only[go_sem,decide_eq_false he]<;>rfl);refine EvC.a ?_;refine EvC.rz ?_;simp only[go_sem]
 first|rw[if_neg Bool.false_ne_true,if_neg (fun h=>h he)]|rw[if_neg (fun h=>h he)]
 subst he;refine EvC.cs ?_;refine EvC.seq ?_;refine EvC.k1 ?_ (c1:=.ca hT);refine EvC.a ?_;by_cases he:te=0;rotate_left
 ·rw[if_pos he];refine EvC.ct ?_ (by simp only[go_sem,decide_eq_false he]<;>rfl);refine EvC.a ?_;refine EvC.rz ?_;simp only[go_sem]
 first|rw[if_neg Bool.false_ne_true,if_neg (fun h=>h he)]|rw[if_neg (fun h=>h he)]
 subst he;refine EvC.cs ?_;refine EvC.seq ?_;refine EvC.a ?_;by_cases he:m.ins=t.ins;rotate_left
 ·rw[if_pos he];refine EvC.ct ?_ (by simp only[go_sem,decide_eq_false he]<;>rfl);refine EvC.a ?_;refine EvC.rz ?_;simp only[go_sem]
 first|rw[if_neg Bool.false_ne_true,if_neg (fun h=>h he)]|rw[if_neg (fun h=>h he)]
 refine EvC.cs ?_ (by simp only[go_sem,decide_eq_true he]<;>rfl);have v:=TV.of hte;have tp:=TP.of hte;have vm:=Valid.of hce;have hrw:=v.rows;have hin:=v.ins;have hmr:=vm.rows;obtain⟨N,hNd⟩:∃N,N=t.rows.length:=⟨_,rfl⟩;have hNi:((N:Int)).toNat=N:=Int.toNat_natCast N;have hr0:room N 8=true:=by simp only[room_eq,decide_eq_true_eq];omega
 refine EvC.a ?_ (by simp only[go_sem,hNd.symm,hNi,List.length_map]<;>rfl) (by simp;exact hr0);refine EvC.seq ?_;refine EvC.a ?_ (by simp only[go_sem,hNd.symm,List.length_map]<;>rfl);refine EvC.block ?_;refine EvC.loopS (σ:=Nat×List Nat) (fun g=>⟨[(2,.ia m.cells),(8,.tv 0 N 0 N (.val N)),(34,.sl t.nl (t.rows.map rowC) .unk),(35,.sc (.int .i64 N)),(36,.sc (.int .i64 g.1))],[],[(0,.arr 1 (g.2.map natC) false)],1⟩) (fun g=>N-g.1)
  (fun g=>g.1≤N∧FitI t m g.2 g.1 0) [2,8,34,35,36] 1 ?_ ?_
 ·refine⟨[(22,0)],(0,List.replicate N 0),rfl,?_,Nat.zero_le _,by rw[hNd];exact FitI.start (by omega)⟩;have hnz:(List.replicate N [AV.sc (.int .i64 0)]).all AV.norefs=true:=by simp[List.all_eq_true,AV.norefs,AV.noref]
  have hz:(List.replicate N 0).map natC=List.replicate N [AV.sc (.int .i64 0)]:=by rw[List.map_replicate];rfl
  simp only;rw[hz];simp only[go_sem,Mach.cells,Int.natCast_zero,hnz]<;>rfl
 rintro⟨n,st⟩ ⟨h1,h2⟩;simp only at h1 h2⊢;have hnin:(n:Int).toNat=n:=Int.toNat_natCast n;have hNi:((N:Int)).toNat=N:=Int.toNat_natCast N;refine EvC.a ?_;refine EvC.seq ?_;refine EvC.cd (fun hc=>?_) (fun hc=>?_);rotate_left
 ·
  have:¬n<N:=by simpa using hc
  rw[h2.done (by omega)];refine EvC.exit ?_;refine EvC.a ?_;refine EvC.rz ?_;simp only[go_sem]
 have hn:n<N:=by simpa using hc
 clear hc;refine EvC.skip ?_;refine EvC.seq ?_;refine EvC.block ?_;obtain⟨A,hA⟩:∃A,t.rows[n]?=some A:=⟨_,List.getElem?_eq_getElem (by omega)⟩;have hAl:=(v.row n A hA).1;refine EvC.a ?_ (by simp only[go_sem,hA,hnin,rowC,List.length_map]<;>rfl);refine EvC.a ?_ (by simp only[go_sem,List.length_map]<;>rfl);refine EvC.block ?_;refine EvC.loopS (σ:=Nat×List Nat) (fun g=>⟨[(2,.ia m.cells),(8,.tv 0 N 0 N (.val N)),(9,.sc (.int .i64 n)),(34,.sl t.nl (t.rows.map rowC) .unk),(35,.sc (.int .i64 N)),(36,.sc (.int .i64 n)),(41,.sl A.1 (A.2.map edgeC) .unk),(42,.sc (.int .i64 A.2.length)),(43,.sc (.int .i64 g.1))],[],[(0,.arr 1 (g.2.map natC) false)],1⟩) (fun g=>t.ins.toNat-g.1)
  (fun g=>(g.1:Int)≤t.ins∧FitI t m g.2 n g.1) [2,8,9,34,35,36,41,42,43] 1 ?_ ?_
 ·exact⟨[(0,0)],(0,st),rfl,(by simp only[go_sem,Mach.cells,Int.natCast_zero,norefs_natC]<;>rfl),by simp only;omega,h2⟩
 clear h2 st;rintro⟨i,st⟩ ⟨h3,h2⟩;simp only at h3 h2⊢;have hiin:(i:Int).toNat=i:=Int.toNat_natCast i;refine EvC.a ?_;refine EvC.seq ?_;refine EvC.cd (fun hc=>?_) (fun hc=>?_);rotate_left
 ·
  have:¬i<A.2.length:=by simpa using hc
  obtain rfl:i=t.ins.toNat:=by omega
  refine EvC.exit ?_;refine EvC.bi ?_;exact⟨[(0,0)],(n+1,st),rfl,(by simp only[go_sem,Mach.cells,Int.natCast_add,Int.natCast_one,norefs_natC]<;>rfl),⟨hn,h2.next⟩,by simp only;omega⟩
 have hi:(i:Int)<t.ins:=by have:i<A.2.length:=by simpa using hc
                           omega
 clear hc;refine EvC.skip ?_;refine EvC.seq ?_;refine EvC.block ?_;have hiA:i<A.2.length:=by omega
 have hxA:A.2[i]?=some (eT t n i):=by simp[eT,hA,hiA]
 have eA:=v.edge (show n<t.rows.length by omega) hi;have hsl:=stN_lt (k:=n) h2.lt (by omega);have hsg:st[n]?=some (stN st n):=by
  unfold stN;rw[List.getElem?_eq_getElem (by rw[h2.len];omega)];rfl
 have hsin:((stN st n:Nat):Int).toNat=stN st n:=Int.toNat_natCast _;obtain⟨B,hB,hBl,hxB,eB⟩:=vm.edge hsl (i:=i) (by omega);have hbad:=fun h=>h2.bad tp (i:=i) (by omega) hi h;have hkeep:=fun h=>h2.keep (i:=i) h;have hset:=fun to h1 h3 h4 h5=>h2.set v tp (i:=i) (by omega) hi h1 (to:=to) h3 h4 h5;generalize eT t n i=x at hxA eA hbad hkeep hset;generalize eT m (stN st n) i=y at hxB eB hbad hkeep hset;obtain⟨x1,x2⟩:=x;obtain⟨y1,y2⟩:=y;simp only[Prod.mk.injEq]at eA eB;refine EvC.a ?_ (by simp only[go_sem,hxA,edgeC,hiin,List.length_map]<;>rfl) (by simp;try omega);refine EvC.z 5 ?_ (by simp only[go_sem,norefs_natC]<;>rfl);have hstl:(st.map natC).length=N:=by rw[List.length_map,h2.len,hNd]
 have hsg2:(st.map natC)[n]?=some (natC (stN st n)):=by rw[List.getElem?_map,hsg];rfl
 refine EvC.d mixed ?_ (h:=by simp only[go_sem,Mach.cells,hsg,hsg2,hnin,natC,hsin,hstl,hB,rowC,hxB,edgeC,hiin,List.length_map]<;>rfl) (hok:=by simp;try omega);refine EvC.z 19 ?_ (by simp only[go_sem,norefs_natC]<;>rfl);refine EvC.block ?_;have hK:=known55_is x1 x2;refine EvC.k1 ?_ (c1:=.ca hK);cases hkn:knownE (x1,x2)with
 | false=>
   have hx1:x1=-1:=by
    by_cases h:x1=-1
    ·exact h
    ·rw[knownE_to (a:=(x1,x2)) h]at hkn;cases hkn
   refine EvC.cr ?_ (by simp only[go_sem,hkn]<;>rfl);refine EvC.bi ?_;exact⟨[(0,0)],(i+1,st),rfl,(by simp only[go_sem,Mach.cells,Int.natCast_add,Int.natCast_one,norefs_natC]<;>rfl),⟨by simp only;omega,hkeep ⟨by unfold okB;rw[hkn];rfl,fun h=>absurd h (by simp[hx1])⟩⟩,by simp only;omega⟩
 | true=>
 refine EvC.cf ?_ (by simp only[go_sem,hkn]<;>rfl);by_cases hx1:x1=-1
 ·have d1:=decide_eq_true hx1;by_cases hy1:y1=-1
  ·have d2:=decide_eq_true hy1;refine EvC.seq ?_;refine EvC.g ?_ (h:=by simp only[go_sem,d1,d2]<;>rfl);refine EvC.cf ?_;refine EvC.gL ?_ (h:=by simp only[go_sem,d1,d2]<;>rfl);refine EvC.cf ?_;refine EvC.a ?_ (by simp only[go_sem,d1,d2]<;>rfl);refine EvC.cs ?_;refine EvC.bi ?_;exact⟨[(0,0)],(i+1,st),rfl,(by simp only[go_sem,Mach.cells,Int.natCast_add,Int.natCast_one,norefs_natC]<;>rfl),⟨by simp only;omega,hkeep ⟨by unfold okB;simp[hx1,hy1],fun h=>absurd h (by simp[hx1])⟩⟩,by simp only;omega⟩
  ·have d2:=decide_eq_false hy1;rw[hbad (by unfold okB;rw[hkn];simp[ hx1,hy1])];refine EvC.seq ?_;refine EvC.g ?_ (h:=by simp only[go_sem,d1,d2]<;>rfl);refine EvC.cr ?_;refine EvC.ct ?_;refine EvC.a ?_;refine EvC.rz ?_;simp only[go_sem]
 have d1:=decide_eq_false hx1;have hT:∀b:Bool,((if decide (y1=-1)=true then true else !decide (y2=x2))=b)→True:=fun _ _=>trivial;by_cases hy1:y1=-1
 ·have d2:=decide_eq_true hy1;rw[hbad (by unfold okB;rw[hkn];simp[ hx1,hy1])];refine EvC.seq ?_;refine EvC.g ?_ (h:=by simp only[go_sem,d1,d2]<;>rfl);refine EvC.cf ?_;refine EvC.gL ?_ (h:=by simp only[go_sem,d1,d2]<;>rfl);refine EvC.ct ?_;refine EvC.a ?_;refine EvC.rz ?_;simp only[go_sem]
 have d2:=decide_eq_false hy1;by_cases hy2:y2=x2;rotate_left
 ·have d3:=decide_eq_false hy2;rw[hbad (by unfold okB;rw[hkn];simp[ hx1,hy1,hy2])];refine EvC.seq ?_;refine EvC.g ?_ (h:=by simp only[go_sem,d1,d2]<;>rfl);refine EvC.cf ?_;refine EvC.gL ?_ (h:=by simp only[go_sem,d1,d2,d3]<;>rfl);refine EvC.ct ?_;refine EvC.a ?_;refine EvC.rz ?_;simp only[go_sem]
 have d3:=decide_eq_true hy2;obtain⟨q,rfl⟩:∃q:Nat,x1=q:=⟨x1.toNat,by omega⟩;obtain⟨w,rfl⟩:∃w:Nat,y1=w:=⟨y1.toNat,by omega⟩;have hqin:((q:Nat):Int).toNat=q:=Int.toNat_natCast _;have hnew:=hset w hx1 rfl (by omega) (by unfold okB;rw[hkn];simp[ hx1,hy1,hy2]);simp only[hqin]at hnew;refine EvC.seq ?_;refine EvC.g ?_ (h:=by simp only[go_sem,d1,d2]<;>rfl);refine EvC.cf ?_;refine EvC.gL ?_ (h:=by simp only[go_sem,d1,d2,d3]<;>rfl);refine EvC.cf ?_;refine EvC.a ?_ (by simp only[go_sem,d1,d2]<;>rfl);refine EvC.ct ?_;have hsq:st[q]?=some (stN st q):=by
  unfold stN;rw[List.getElem?_eq_getElem (by rw[h2.len];omega)];rfl
 have hm3:(st.map natC).set q [.sc (.int .i64 w)]=(st.set q w).map natC:=by rw[List.map_set];rfl
 refine EvC.b ?_ (by simp only[go_sem,hqin,hsq,natC,List.drop_succ_cons,List.drop_zero,hm3]<;>rfl) (by simp;have:=h2.len;omega);refine EvC.bi ?_;exact⟨[(0,0)],(i+1,st.set q w),rfl,(by simp only[go_sem,Mach.cells,Int.natCast_add,Int.natCast_one,norefs_natC]<;>rfl),⟨by simp only;omega,hnew⟩,by simp only;omega⟩
def parT(t:Mach)(n:Nat):Nat×Nat:=(((List.range n).flatMap fun p=>(List.range t.ins.toNat).filterMap fun i=>if(eT t p i).1=(n:Int)then some (p,i)else none).head?).getD (0,0)
theorem parT_mem{t:Mach}{n p i:Nat}:(p,i)∈((List.range n).flatMap fun p=>(List.range t.ins.toNat).filterMap fun i=>if(eT t p i).1=(n:Int)then some (p,i)else none)↔p<n∧(i:Int)<t.ins∧(eT t p i).1=n:=by
 rw[List.mem_flatMap];constructor
 ·rintro⟨q,hq,h⟩;obtain⟨j,hj,h⟩:=List.mem_filterMap.1 h;split at h
  ·rename_i he;cases h;exact⟨List.mem_range.1 hq,by have:=List.mem_range.1 hj;omega,he⟩
  ·cases h
 ·rintro⟨h1,h2,h3⟩;exact⟨p,List.mem_range.2 h1,List.mem_filterMap.2 ⟨i,List.mem_range.2 (by omega),if_pos h3⟩⟩
theorem parT_eq{t:Mach}(tp:TP t){n p i:Nat}(h1:p<n)(h2:(i:Int)<t.ins)(h3:(eT t p i).1=(n:Int)):parT t n=(p,i):=by
 unfold parT;have hm:=parT_mem.2 ⟨h1,h2,h3⟩;cases hl:((List.range n).flatMap fun p=>(List.range t.ins.toNat).filterMap fun i=>if(eT t p i).1=(n:Int)then some (p,i)else none)with
 | nil=>rw[hl]at hm;cases hm
 | cons x l=>
   obtain⟨q,j⟩:=x;have hx:(q,j)∈((List.range n).flatMap fun p=>(List.range t.ins.toNat).filterMap fun i=>if(eT t p i).1=(n:Int)then some (p,i)else none):=by rw[hl];simp
   obtain⟨k1,k2,k3⟩:=parT_mem.1 hx;have:=tp.uniq p i q j (by omega) (by omega);simp[this.1,this.2]
theorem parT_zero(t:Mach):parT t 0=(0,0):=rfl
theorem parT_lt{t:Mach}(v:TV t)(tp:TP t){n:Nat}(h1:1≤n)(h2:n<t.rows.length):(parT t n).1<n∧((parT t n).2:Int)<t.ins:=by
 obtain⟨p,i,k1,k2,k3⟩:=tp.has n h1 h2;rw[parT_eq tp k1 k2 k3];exact⟨k1,k2⟩
theorem parT_in{t:Mach}(v:TV t)(tp:TP t){n:Nat}(h2:n<t.rows.length):(parT t n).1≤n∧((parT t n).2:Int)<t.ins:=by
 have:=v.ins;by_cases h:n=0
 ·subst h;rw[parT_zero];exact⟨Nat.le_refl _,by simp only;omega⟩
 ·have:=parT_lt v tp (by omega) h2;omega
def clashN(t:Mach)(m n i:Nat):Bool:=clashE (eT t m i) (eT t n i)
def wrongN(t:Mach)(c:List Nat)(k m:Nat):Bool:=decide (stN c m=stN c (parT t c.length).1)&&decide ((eT t m (parT t c.length).2).1≠ -1)&&decide ((eT t m (parT t c.length).2).1<(c.length:Int))&&!decide (stN c (eT t m (parT t c.length).2).1.toNat=k)
def possM(t:Mach)(c:List Nat)(k m:Nat):Bool:=!(decide (stN c m=k)&&(List.range t.ins.toNat).any (clashN t m c.length))&&!wrongN t c k m
def possB(t:Mach)(c:List Nat)(k:Nat):Bool:=(List.range c.length).all (possM t c k)
theorem any_false_of{p:Nat→Bool}{n:Nat}(h:∀i,i<n→p i=false):(List.range n).any p=false:=by
 rw[List.any_eq_false];intro i hi;rw[h i (List.mem_range.1 hi)];simp
theorem possB_true{t:Mach}{c:List Nat}{k:Nat}(h:∀m,m<c.length→possM t c k m=true):possB t c k=true:=by
 unfold possB;rw[List.all_eq_true];exact fun m hm=>h m (List.mem_range.1 hm)
theorem possB_false{t:Mach}{c:List Nat}{k m:Nat}(hm:m<c.length)(h:possM t c k m=false):possB t c k=false:=by
 unfold possB;rw[List.all_eq_false];exact⟨m,List.mem_range.2 hm,by rw[h];simp⟩
theorem possM_clash{t:Mach}{c:List Nat}{k m i:Nat}(h1:stN c m=k)(hi:(i:Int)<t.ins)(h2:clashN t m c.length i=true):possM t c k m=false:=by
 unfold possM;have:(List.range t.ins.toNat).any (clashN t m c.length)=true:=List.any_eq_true.2 ⟨i,List.mem_range.2 (by omega),h2⟩;rw[this,decide_eq_true h1];rfl
theorem possM_noclash{t:Mach}{c:List Nat}{k m:Nat}(h:stN c m=k→∀i:Nat,(i:Int)<t.ins→clashN t m c.length i=false):possM t c k m=!wrongN t c k m:=by
 unfold possM;by_cases hk:stN c m=k
 ·rw[any_false_of (fun i hi=>h hk i (by omega)),Bool.and_false];rfl
 ·rw[decide_eq_false hk];rfl
theorem stN_get{c:List Nat}{m:Nat}(h:m<c.length):c[m]?=some (stN c m):=by
 unfold stN;rw[List.getElem?_eq_getElem h];rfl
def frT(t:Mach):List (Nat×Nat):=(List.range t.rows.length).map (parT t)
def coO(t:Mach)(cv:AV)(fuel:Int)(sp:Bool):RObj:=
 .cells [.sc (.int .i64 t.ins),.sc (.int .i64 t.outs),.sl t.nl (t.rows.map rowC) .unk,.sl false ((frT t).map prC) .full,cv,.sc (.int .i64 fuel),.sc (.bool sp)]
def coM(t:Mach)(cv:AV)(E:List Nat)(fuel:Int)(sp:Bool):Mem:=[(0,coO t cv fuel sp),(1,.arr 1 (E.map natC) false)]
def ColOk(cv:AV)(E c:List Nat):Prop:=
 (c=[]∧E=[]∧cv=.tl 1 0 true)∨(cv=.tv 1 E.length 0 c.length .rest∧E.take c.length=c∧E≠[]∧c.length≤E.length)
set_option maxHeartbeats 8000000 in
theorem possible77_body{t:Mach}(v:TV t)(tp:TP t){c E:List Nat}{cv:AV}(hc:ColOk cv E c)(hn:c.length<t.rows.length)(k:Nat)(fuel:Int)(sp:Bool){R:AV→Mem→Nat→Prop}
  (hR:R (.sc (.bool (possB t c k))) (coM t cv E fuel sp) 3):BodyIs prog 94 [.rf 0 0,.sc (.int .i64 k)] (coM t cv E fuel sp) 3 R:=by
 have hrw:=v.rows;have hin:=v.ins;refine BodyIs.of (nv:=12) (hid:=[4,5,6,7,8,9,10,11,27,28,29,30,36,44,45,46,47,63,74,105]) func94 rfl (by kernel_rfl) (by simp[ntmps94]) fun h0=>?_;rw[ntmps94,results94];unfold coM coO at *;obtain⟨hp1,hp2⟩:=parT_in v tp hn;have hwr:∀m,wrongN t c k m=(decide (stN c m=stN c (parT t c.length).1)&&decide ((eT t m (parT t c.length).2).1≠ -1)&&decide ((eT t m (parT t c.length).2).1<(c.length:Int))&&!decide (stN c (eT t m (parT t c.length).2).1.toNat=k)):=fun _=>rfl;have hfr:(frT t)[c.length]?=some (parT t c.length):=by unfold frT;rw[List.getElem?_map,List.getElem?_range hn];rfl
 have hfl:((frT t).map prC).length=t.rows.length:=by simp[frT]
 rcases hc with⟨rfl,rfl,rfl⟩|⟨rfl,hE1,hE2,hE3⟩
 ·rw[show possB t [] k=true from rfl]at hR;rw[show([]:List Nat).length=0 from rfl,parT_zero]at hfr;refine EvC.a ?_;refine EvC.a ?_;refine EvC.a ?_ (by simp only[go_sem,hfr,hfl,prC,Int.natCast_zero]<;>rfl) (by simp[hfl]);refine EvC.seq ?_;refine EvC.a ?_;refine EvC.block ?_;refine EvC.loopS (σ:=Unit) (fun _=>⟨[(0,.rf 0 0),(27,.tl 1 0 true),(28,.sc (.int .i64 0)),(29,.sc (.int .i64 0))],[],[(0,.cells [.sc (.int .i64 t.ins),.sc (.int .i64 t.outs),.sl t.nl (t.rows.map rowC) .unk,.sl false ((frT t).map prC) .full,.tl 1 0 true,.sc (.int .i64 fuel),.sc (.bool sp)]),(1,.arr 1 [] false)],3⟩) (fun _=>0) (fun _=>True) [0,27,28,29] 3 ?_ ?_
  ·exact⟨[(0,0),(1,1)],(),rfl,(by simp only[go_sem]<;>rfl),trivial⟩
  intro _ _;refine EvC.a ?_;refine EvC.seq ?_;refine EvC.cf ?_;refine EvC.exit ?_;refine EvC.a ?_;refine EvC.gcE (st2:=⟨[(4,.sc (.bool true))],[],[(0,.cells [.sc (.int .i64 t.ins),.sc (.int .i64 t.outs),.sl t.nl (t.rows.map rowC) .unk,.sl false ((frT t).map prC) .full,.tl 1 0 true,.sc (.int .i64 fuel),.sc (.bool sp)]),(1,.arr 1 [] false)],3⟩) [4] [(0,0),(1,1)] 3 rfl (by simp only[go_sem]<;>rfl) ?_;refine EvC.ret ⟨.inl rfl,_,(by simp only[go_sem]<;>rfl),?_⟩;exact hR
 obtain⟨n,hnd⟩:∃n,n=c.length:=⟨_,rfl⟩;have hget:∀q,q<n→E[q]?=some (stN c q):=fun q hq=>by
  have e:(E.take c.length)[q]?=E[q]?:=List.getElem?_take_of_lt (by omega);rw[hE1]at e;rw[←e];exact stN_get (by omega)
 rw[←hnd]at hn hp1 hp2 hfr hE3 hR⊢;generalize hpj:parT t n=pj at hp1 hp2 hfr;have hwr:∀m,wrongN t c k m=(decide (stN c m=stN c pj.1)&&decide ((eT t m pj.2).1≠ -1)&&decide ((eT t m pj.2).1<(n:Int))&&!decide (stN c (eT t m pj.2).1.toNat=k)):=fun m=>by rw[hwr,←hnd,hpj]
 have hp0:n≠0→pj.1<n:=fun h=>by rw[←hpj];exact(parT_lt v tp (by omega) hn).1
 obtain⟨p,j⟩:=pj;simp only at hp1 hp2 hwr hp0;have hpin:(p:Int).toNat=p:=Int.toNat_natCast p;have hjin:(j:Int).toNat=j:=Int.toNat_natCast j;have hnin:(n:Int).toNat=n:=Int.toNat_natCast n;have hElen:((E.map natC).take n).length=n:=by simp;omega
 refine EvC.a ?_;refine EvC.a ?_ (by simp only[go_sem,hElen]<;>rfl);refine EvC.a ?_ (by simp only[go_sem,hfr,hfl,hnin,prC]<;>rfl) (by simp[hfl];try omega);refine EvC.z 17 ?_ (by simp only[go_sem,norefs_natC]<;>rfl);refine EvC.seq ?_;refine EvC.a ?_ (by simp only[go_sem,hElen]<;>rfl);refine EvC.block ?_;refine EvC.loopS (σ:=Nat) (fun m=>⟨[(0,.rf 0 0),(1,.sc (.int .i64 k)),(5,.sc (.int .i64 n)),(6,.ia [.sc (.int .i64 p),.sc (.int .i64 j)]),(27,.tv 1 E.length 0 n .rest),(28,.sc (.int .i64 n)),(29,.sc (.int .i64 m))],[],[(0,.cells [.sc (.int .i64 t.ins),.sc (.int .i64 t.outs),.sl t.nl (t.rows.map rowC) .unk,.sl false ((frT t).map prC) .full,.tv 1 E.length 0 n .rest,.sc (.int .i64 fuel),.sc (.bool sp)]),(1,.arr 1 (E.map natC) false)],3⟩) (fun m=>n-m) (fun m=>m≤n∧∀m',m'<m→possM t c k m'=true) [0,1,5,6,27,28,29] 3 ?_ ?_
 ·exact⟨[(0,0),(1,1)],0,rfl,(by simp only[go_sem,norefs_natC,Int.natCast_zero]<;>rfl),Nat.zero_le _,fun _ h=>absurd h (Nat.not_lt_zero _)⟩
 rintro m ⟨h1,h2⟩;have hmin:(m:Int).toNat=m:=Int.toNat_natCast m;refine EvC.a ?_;refine EvC.seq ?_;refine EvC.cd (fun hc=>?_) (fun hc=>?_);rotate_left
 ·
  have hm:¬m<n:=by simpa using hc
  rw[possB_true fun m' hm'=>h2 m' (by omega)]at hR;refine EvC.exit ?_;refine EvC.a ?_;refine EvC.gcE (st2:=⟨[(4,.sc (.bool true))],[],[(0,.cells [.sc (.int .i64 t.ins),.sc (.int .i64 t.outs),.sl t.nl (t.rows.map rowC) .unk,.sl false ((frT t).map prC) .full,.tv 1 E.length 0 n .rest,.sc (.int .i64 fuel),.sc (.bool sp)]),(1,.arr 1 (E.map natC) false)],3⟩) [4] [(0,0),(1,1)] 3 rfl (by simp only[go_sem,norefs_natC]<;>rfl) ?_;refine EvC.ret ⟨.inl rfl,_,(by simp only[go_sem]<;>rfl),?_⟩;exact hR
 have hm:m<n:=by simpa using hc
 clear hc;have hmE:=hget m hm;have hp0:=hp0 (by omega);have hnext:possM t c k m=true→∀m',m'<m+1→possM t c k m'=true:=fun h m' hm'=>by
  by_cases e:m'=m
  ·rw[e];exact h
  ·exact h2 m' (by omega)
 have hkd:decide ((stN c m:Int)=(k:Int))=decide (stN c m=k):=decide_eq_decide.2 (by omega);refine EvC.skip ?_;refine EvC.seq ?_;refine EvC.block ?_;refine EvC.a ?_ (by simp only[go_sem,hmE,hmin,natC,hElen]<;>rfl) (by simp;try omega);refine EvC.seq ?_;refine EvC.a ?_;by_cases hk:stN c m=k;rotate_left
 ·rw[decide_eq_false hk]at hkd;refine EvC.cs ?_ (by simp only[go_sem,hkd]<;>rfl);have hnc:stN c m=k→∀i:Nat,(i:Int)<t.ins→clashN t m c.length i=false:=fun h=>absurd h hk;have hpm:=possM_noclash (t:=t) (c:=c) (k:=k) (m:=m) hnc;rw[hwr]at hpm;obtain⟨A,hA,hAl,hAi⟩:=row_get v (n:=m) (i:=j) (by omega) hp2;have eA:=v.edge (n:=m) (i:=j) (by omega) hp2;generalize eT t m j=e at hAi hpm eA;obtain⟨e1,e2⟩:=e;simp only at hpm eA;have hgp:=stN_get (c:=c) (m:=p) (by omega);have hgpE:E[p]?=some (stN c p):=hget p (by omega);have hgm2:decide ((stN c m:Int)=(stN c p:Int))=decide (stN c m=stN c p):=decide_eq_decide.2 (by omega);refine EvC.d mixed ?_ (h:=by simp only[go_sem,hpin,hgpE,natC,hgm2,hElen]<;>rfl) (hok:=by simp;try omega);by_cases g1:stN c m=stN c p;rotate_left
  ·have g1:=decide_eq_false g1;rw[g1]at hpm hgm2;refine EvC.cs ?_ (by simp only[go_sem,g1]<;>rfl);refine EvC.bi ?_;exact⟨[(0,0),(1,1)],m+1,rfl,(by simp only[go_sem,norefs_natC,Int.natCast_add,Int.natCast_one]<;>rfl),⟨hm,hnext hpm⟩,by omega⟩
  have g1:=decide_eq_true g1;rw[g1]at hpm hgm2;refine EvC.ct ?_ (by simp only[go_sem,g1]<;>rfl);refine EvC.d mixed ?_ (h:=by simp only[go_sem,hA,hAi,hmin,hjin,rowC,edgeC,List.length_map]<;>rfl) (hok:=by simp;try omega);by_cases g2:e1=-1
  ·have d2:=decide_eq_true g2;rw[decide_eq_false (show ¬(e1≠ -1)from fun h=>h g2)]at hpm;have hg0:=hget e1.toNat (by omega);refine EvC.g ?_ (h:=by simp only[go_sem,d2,hg0,natC,hElen]<;>rfl) (hok:=by simp;try omega);refine EvC.cs ?_;refine EvC.bi ?_;exact⟨[(0,0),(1,1)],m+1,rfl,(by simp only[go_sem,norefs_natC,Int.natCast_add,Int.natCast_one]<;>rfl),⟨hm,hnext hpm⟩,by omega⟩
  have d2:=decide_eq_false g2;rw[decide_eq_true (show e1≠ -1 from g2)]at hpm;obtain⟨q,rfl⟩:∃q:Nat,e1=q:=⟨e1.toNat,by omega⟩;have hqin:(q:Int).toNat=q:=Int.toNat_natCast q;rw[hqin]at hpm;by_cases g3:q<n;rotate_left
  ·have d3:=decide_eq_false (show ¬(q:Int)<(n:Int) by omega);rw[d3]at hpm;cases hgq:E[q]? with
   | none=>
     apply EvC.s1
     ·apply Tr.run
      ·simp only[go_sem,d2,d3,hgq,hqin,hElen]<;>rfl
      ·simp;try omega
      apply Tr.cons
      ·exact .skipv ((.sc (.int .i64 0))) rfl rfl (by simp only[go_sem]<;>rfl) (by simp only[go_sem]<;>rfl)
      apply Tr.done
      ·simp only[go_sem]<;>rfl
      ·simp
     refine EvC.cs ?_;refine EvC.bi ?_;exact⟨[(0,0),(1,1)],m+1,rfl,(by simp only[go_sem,norefs_natC,Int.natCast_add,Int.natCast_one]<;>rfl),⟨hm,hnext hpm⟩,by omega⟩
   | some xq=>
     refine EvC.g ?_ (h:=by simp only[go_sem,d2,d3,hgq,hqin,natC,hElen]<;>rfl) (hok:=by simp;try omega);refine EvC.cs ?_;refine EvC.bi ?_;exact⟨[(0,0),(1,1)],m+1,rfl,(by simp only[go_sem,norefs_natC,Int.natCast_add,Int.natCast_one]<;>rfl),⟨hm,hnext hpm⟩,by omega⟩
  have d3:=decide_eq_true (show(q:Int)<(n:Int) by omega);rw[d3]at hpm;have hgq:=hget q (by omega);have hgq2:decide ((stN c q:Int)=(k:Int))=decide (stN c q=k):=decide_eq_decide.2 (by omega);by_cases g4:stN c q=k
  ·have d4:=decide_eq_true g4;rw[d4]at hpm hgq2;refine EvC.g ?_ (h:=by simp only[go_sem,d2,d3,hgq,hqin,hgq2,natC,hElen]<;>rfl) (hok:=by simp;try omega);refine EvC.cs ?_;refine EvC.bi ?_;exact⟨[(0,0),(1,1)],m+1,rfl,(by simp only[go_sem,norefs_natC,Int.natCast_add,Int.natCast_one]<;>rfl),⟨hm,hnext hpm⟩,by omega⟩
  have d4:=decide_eq_false g4;rw[d4]at hpm hgq2;rw[possB_false (m:=m) (by omega) hpm]at hR;refine EvC.g ?_ (h:=by simp only[go_sem,d2,d3,hgq,hqin,hgq2,natC,hElen]<;>rfl) (hok:=by simp;try omega);refine EvC.ct ?_;refine EvC.a ?_;refine EvC.gcE (st2:=⟨[(4,.sc (.bool false))],[],[(0,.cells [.sc (.int .i64 t.ins),.sc (.int .i64 t.outs),.sl t.nl (t.rows.map rowC) .unk,.sl false ((frT t).map prC) .full,.tv 1 E.length 0 n .rest,.sc (.int .i64 fuel),.sc (.bool sp)]),(1,.arr 1 (E.map natC) false)],3⟩) [4] [(0,0),(1,1)] 3 rfl (by simp only[go_sem,norefs_natC]<;>rfl) ?_;refine EvC.ret ⟨.inl rfl,_,(by simp only[go_sem]<;>rfl),?_⟩;exact hR
 rw[decide_eq_true hk]at hkd;refine EvC.ct ?_ (by simp only[go_sem,hkd]<;>rfl);obtain⟨A,hA,hAl⟩:∃A:Row,t.rows[m]?=some A∧(A.2.length:Int)=t.ins:=by
  obtain⟨A,h1,h2,_⟩:=row_get v (n:=m) (i:=0) (by omega) (by omega);exact⟨A,h1,h2⟩
 refine EvC.a ?_ (by simp only[go_sem,hA,hmin,rowC,List.length_map]<;>rfl) (by simp;try omega);refine EvC.block ?_;refine EvC.loopS (σ:=Nat) (fun i=>⟨[(0,.rf 0 0),(1,.sc (.int .i64 k)),(5,.sc (.int .i64 n)),(6,.ia [.sc (.int .i64 p),.sc (.int .i64 j)]),(7,.sc (.int .i64 m)),(8,.sc (.int .i64 (stN c m))),(27,.tv 1 E.length 0 n .rest),(28,.sc (.int .i64 n)),(29,.sc (.int .i64 m)),(44,.sl A.1 (A.2.map edgeC) .unk),(45,.sc (.int .i64 A.2.length)),(46,.sc (.int .i64 i))],[],[(0,.cells [.sc (.int .i64 t.ins),.sc (.int .i64 t.outs),.sl t.nl (t.rows.map rowC) .unk,.sl false ((frT t).map prC) .full,.tv 1 E.length 0 n .rest,.sc (.int .i64 fuel),.sc (.bool sp)]),(1,.arr 1 (E.map natC) false)],3⟩) (fun i=>t.ins.toNat-i) (fun i=>(i:Int)≤t.ins∧∀i':Nat,i'<i→clashN t m n i'=false) [0,1,5,6,7,8,27,28,29,44,45,46] 3 ?_ ?_
 ·exact⟨[(0,0),(1,1)],0,rfl,(by simp only[go_sem,norefs_natC,Int.natCast_zero]<;>rfl),by omega,fun _ h=>absurd h (Nat.not_lt_zero _)⟩
 rintro i ⟨h3,h4⟩;have hiin:(i:Int).toNat=i:=Int.toNat_natCast i;refine EvC.a ?_;refine EvC.seq ?_;refine EvC.cd (fun hc=>?_) (fun hc=>?_);rotate_left
 ·
  have hi:¬(i:Int)<t.ins:=by have:¬i<A.2.length:=by simpa using hc
                             omega
  refine EvC.exit ?_;have hnc:stN c m=k→∀i:Nat,(i:Int)<t.ins→clashN t m c.length i=false:=fun _ i' hi'=>by rw[←hnd];exact h4 i' (by omega)
  clear hA hAl;have hpm:=possM_noclash (t:=t) (c:=c) (k:=k) (m:=m) hnc;rw[hwr]at hpm;obtain⟨A,hA,hAl,hAi⟩:=row_get v (n:=m) (i:=j) (by omega) hp2;have eA:=v.edge (n:=m) (i:=j) (by omega) hp2;generalize eT t m j=e at hAi hpm eA;obtain⟨e1,e2⟩:=e;simp only at hpm eA;have hgp:=stN_get (c:=c) (m:=p) (by omega);have hgpE:E[p]?=some (stN c p):=hget p (by omega);have hgm2:decide ((stN c m:Int)=(stN c p:Int))=decide (stN c m=stN c p):=decide_eq_decide.2 (by omega);refine EvC.d mixed ?_ (h:=by simp only[go_sem,hpin,hgpE,natC,hgm2,hElen]<;>rfl) (hok:=by simp;try omega);by_cases g1:stN c m=stN c p;rotate_left
  ·have g1:=decide_eq_false g1;rw[g1]at hpm hgm2;refine EvC.cs ?_ (by simp only[go_sem,g1]<;>rfl);refine EvC.bi ?_;exact⟨[(0,0),(1,1)],m+1,rfl,(by simp only[go_sem,norefs_natC,Int.natCast_add,Int.natCast_one]<;>rfl),⟨hm,hnext hpm⟩,by omega⟩
  have g1:=decide_eq_true g1;rw[g1]at hpm hgm2;refine EvC.ct ?_ (by simp only[go_sem,g1]<;>rfl);refine EvC.d mixed ?_ (h:=by simp only[go_sem,hA,hAi,hmin,hjin,rowC,edgeC,List.length_map]<;>rfl) (hok:=by simp;try omega);by_cases g2:e1=-1
  ·have d2:=decide_eq_true g2;rw[decide_eq_false (show ¬(e1≠ -1)from fun h=>h g2)]at hpm;have hg0:=hget e1.toNat (by omega);refine EvC.g ?_ (h:=by simp only[go_sem,d2,hg0,natC,hElen]<;>rfl) (hok:=by simp;try omega);refine EvC.cs ?_;refine EvC.bi ?_;exact⟨[(0,0),(1,1)],m+1,rfl,(by simp only[go_sem,norefs_natC,Int.natCast_add,Int.natCast_one]<;>rfl),⟨hm,hnext hpm⟩,by omega⟩
  have d2:=decide_eq_false g2;rw[decide_eq_true (show e1≠ -1 from g2)]at hpm;obtain⟨q,rfl⟩:∃q:Nat,e1=q:=⟨e1.toNat,by omega⟩;have hqin:(q:Int).toNat=q:=Int.toNat_natCast q;rw[hqin]at hpm;by_cases g3:q<n;rotate_left
  ·have d3:=decide_eq_false (show ¬(q:Int)<(n:Int) by omega);rw[d3]at hpm;cases hgq:E[q]? with
   | none=>
     apply EvC.s1
     ·apply Tr.run
      ·simp only[go_sem,d2,d3,hgq,hqin,hElen]<;>rfl
      ·simp;try omega
      apply Tr.cons
      ·exact .skipv ((.sc (.int .i64 0))) rfl rfl (by simp only[go_sem]<;>rfl) (by simp only[go_sem]<;>rfl)
      apply Tr.done
      ·simp only[go_sem]<;>rfl
      ·simp
     refine EvC.cs ?_;refine EvC.bi ?_;exact⟨[(0,0),(1,1)],m+1,rfl,(by simp only[go_sem,norefs_natC,Int.natCast_add,Int.natCast_one]<;>rfl),⟨hm,hnext hpm⟩,by omega⟩
   | some xq=>
     refine EvC.g ?_ (h:=by simp only[go_sem,d2,d3,hgq,hqin,natC,hElen]<;>rfl) (hok:=by simp;try omega);refine EvC.cs ?_;refine EvC.bi ?_;exact⟨[(0,0),(1,1)],m+1,rfl,(by simp only[go_sem,norefs_natC,Int.natCast_add,Int.natCast_one]<;>rfl),⟨hm,hnext hpm⟩,by omega⟩
  have d3:=decide_eq_true (show(q:Int)<(n:Int) by omega);rw[d3]at hpm;have hgq:=hget q (by omega);have hgq2:decide ((stN c q:Int)=(k:Int))=decide (stN c q=k):=decide_eq_decide.2 (by omega);by_cases g4:stN c q=k
  ·have d4:=decide_eq_true g4;rw[d4]at hpm hgq2;refine EvC.g ?_ (h:=by simp only[go_sem,d2,d3,hgq,hqin,hgq2,natC,hElen]<;>rfl) (hok:=by simp;try omega);refine EvC.cs ?_;refine EvC.bi ?_;exact⟨[(0,0),(1,1)],m+1,rfl,(by simp only[go_sem,norefs_natC,Int.natCast_add,Int.natCast_one]<;>rfl),⟨hm,hnext hpm⟩,by omega⟩
  have d4:=decide_eq_false g4;rw[d4]at hpm hgq2;rw[possB_false (m:=m) (by omega) hpm]at hR;refine EvC.g ?_ (h:=by simp only[go_sem,d2,d3,hgq,hqin,hgq2,natC,hElen]<;>rfl) (hok:=by simp;try omega);refine EvC.ct ?_;refine EvC.a ?_;refine EvC.gcE (st2:=⟨[(4,.sc (.bool false))],[],[(0,.cells [.sc (.int .i64 t.ins),.sc (.int .i64 t.outs),.sl t.nl (t.rows.map rowC) .unk,.sl false ((frT t).map prC) .full,.tv 1 E.length 0 n .rest,.sc (.int .i64 fuel),.sc (.bool sp)]),(1,.arr 1 (E.map natC) false)],3⟩) [4] [(0,0),(1,1)] 3 rfl (by simp only[go_sem,norefs_natC]<;>rfl) ?_;refine EvC.ret ⟨.inl rfl,_,(by simp only[go_sem]<;>rfl),?_⟩;exact hR
 have hi:(i:Int)<t.ins:=by have:i<A.2.length:=by simpa using hc
                           omega
 clear hc;refine EvC.skip ?_;refine EvC.seq ?_;refine EvC.block ?_;have hAi:A.2[i]?=some (eT t m i):=by
  obtain⟨A',h1,_,h2⟩:=row_get v (n:=m) (i:=i) (by omega) hi;rw[hA]at h1;cases h1;exact h2
 obtain⟨B,hB,hBl,hBi⟩:=row_get v (n:=n) (i:=i) hn hi;have hck:clashN t m n i=clashE (eT t m i) (eT t n i):=rfl;generalize eT t m i=x at hAi hck;generalize eT t n i=y at hBi hck;obtain⟨x1,x2⟩:=x;obtain⟨y1,y2⟩:=y;have hK:=clash38_is x1 x2 y1 y2;rw[←hck]at hK;refine EvC.a ?_ (by simp only[go_sem,hAi,hiin,edgeC,List.length_map]<;>rfl) (by simp;try omega);refine EvC.z 7 ?_ (by simp only[go_sem,norefs_natC]<;>rfl);refine EvC.k1D mixed ?_ (h1:=by simp only[go_sem,hA,hAi,hB,hBi,hmin,hnin,hiin,rowC,edgeC,List.length_map]<;>rfl) (k1:=by simp;try omega) (c1:=.ca hK);cases hcb:clashN t m n i with
 | true=>
   refine EvC.ct ?_ (by simp only[go_sem,hcb]<;>rfl);rw[possB_false (m:=m) (by omega) (possM_clash hk hi (by rw[←hnd];exact hcb))]at hR;refine EvC.a ?_;refine EvC.gcE (st2:=⟨[(4,.sc (.bool false))],[],[(0,.cells [.sc (.int .i64 t.ins),.sc (.int .i64 t.outs),.sl t.nl (t.rows.map rowC) .unk,.sl false ((frT t).map prC) .full,.tv 1 E.length 0 n .rest,.sc (.int .i64 fuel),.sc (.bool sp)]),(1,.arr 1 (E.map natC) false)],3⟩) [4] [(0,0),(1,1)] 3 rfl (by simp only[go_sem,norefs_natC]<;>rfl) ?_;refine EvC.ret ⟨.inl rfl,_,(by simp only[go_sem]<;>rfl),?_⟩;exact hR
 | false=>
 refine EvC.cs ?_ (by simp only[go_sem,hcb]<;>rfl);refine EvC.bi ?_
 exact⟨[(0,0),(1,1)],i+1,rfl,(by simp only[go_sem,norefs_natC,Int.natCast_add,Int.natCast_one]<;>rfl),⟨by omega,fun i' hi'=>by
  by_cases e:i'=i
  ·rw[e];exact hcb
  ·exact h4 i' (by omega)⟩,by omega⟩
inductive SR
 | found (c:List Nat) (fuel:Nat)
 | fail (fuel:Nat)
 | spent
def stepS(t:Mach)(rec:List Nat→Nat→Nat→SR)(c:List Nat)(used:Nat)(acc:SR)(number:Nat):SR:=
 match acc with
 | .fail f=>if f=0 then .spent else if possB t c number=true then rec (c++[number]) (max used (number+1)) (f-1)else .fail (f-1)
 | r=>r
def srch(t:Mach)(k:Nat):Nat→List Nat→Nat→Nat→SR
 | 0,c,_,fuel=>.found c fuel
 | d+1,c,used,fuel=>(List.range (min k (used+1))).foldl (stepS t (srch t k d) c used) (.fail fuel)
def SR.more:SR→Bool
 | .fail _=>true
 | _=>false
theorem foldl_stop{t:Mach}{rec:List Nat→Nat→Nat→SR}{c:List Nat}{used:Nat}{r:SR}(h:r.more=false):∀l:List Nat,l.foldl (stepS t rec c used) r=r
 | []=>rfl
 | x::l=>by
   rw[List.foldl_cons];have:stepS t rec c used r x=r:=by
    unfold stepS;cases r with
    | fail f=>cases h
    | _=>rfl
   rw[this];exact foldl_stop h l
theorem foldl_at{t:Mach}{rec:List Nat→Nat→Nat→SR}{c:List Nat}{used n i:Nat}{r0 r:SR}(hi:i<n)(h:stepS t rec c used ((List.range i).foldl (stepS t rec c used) r0) i=r)(hr:r.more=false):(List.range n).foldl (stepS t rec c used) r0=r:=by
 have:List.range n=List.range i++(i::(List.range n).drop (i+1)):=by
  conv=>lhs;rw[←List.take_append_drop i (List.range n)]
  rw[List.drop_eq_getElem_cons (by simpa using hi)];congr 1
  ·rw[List.take_range,Nat.min_eq_left (by omega)]
  ·simp
 rw[this,List.foldl_append,List.foldl_cons,h];exact foldl_stop hr _
theorem foldl_next{t:Mach}{rec:List Nat→Nat→Nat→SR}{c:List Nat}{used i:Nat}{r0:SR}:(List.range (i+1)).foldl (stepS t rec c used) r0=stepS t rec c used ((List.range i).foldl (stepS t rec c used) r0) i:=by
 rw[List.range_succ,List.foldl_append];rfl
def SR.le(n:Nat):SR→Prop
 | .found _ f=>f≤n
 | .fail f=>f≤n
 | .spent=>True
theorem SR.le_mono{n m:Nat}(h:n≤m):∀{r:SR},r.le n→r.le m
 | .found _ _,h1=>Nat.le_trans h1 h
 | .fail _,h1=>Nat.le_trans h1 h
 | .spent,_=>trivial
theorem srch_fuel(t:Mach)(k:Nat):∀(d:Nat) (c:List Nat) (used fuel:Nat),(srch t k d c used fuel).le fuel
 | 0,_,_,_=>Nat.le_refl _
 | d+1,c,used,fuel=>by
   rw[srch];have key:∀(l:List Nat) (r:SR),r.le fuel→(l.foldl (stepS t (srch t k d) c used) r).le fuel:=fun l=>by
    induction l with
    | nil=>intro r h;exact h
    | cons x l ih=>
      intro r h;rw[List.foldl_cons];refine ih _ ?_;unfold stepS;cases r with
      | found _ _=>exact h
      | spent=>exact h
      | fail f=>
        simp only;have h:f≤fuel:=h;split
        ·trivial
        ·split
         ·exact SR.le_mono (by omega) (srch_fuel t k d _ _ _)
         ·show f-1≤fuel;omega
   exact key _ _ (Nat.le_refl _)
def SROk(t:Mach)(c:List Nat)(r:SR)(b:Bool)(cv:AV)(E:List Nat)(f:Nat)(sp:Bool):Prop:=
 E.length≤t.rows.length∧match r with
 | .found c' f'=>b=true∧ColOk cv E c'∧f=f'∧sp=false
 | .fail f'=>b=false∧ColOk cv E c∧f=f'∧sp=false
 | .spent=>b=false∧sp=true∧(∃c',ColOk cv E c')∧f=0
theorem ColOk.ren{cv:AV}{E c:List Nat}(h:ColOk cv E c):AV.deep (renLeaf [(0,0),(1,1)]) cv=cv:=by
 rcases h with⟨_,_,rfl⟩|⟨rfl,_⟩<;>rfl
theorem ColOk.noref{cv:AV}{E c:List Nat}(h:ColOk cv E c):cv.noref=false:=by
 rcases h with⟨_,_,rfl⟩|⟨rfl,_⟩<;>rfl
set_option maxHeartbeats 8000000 in
theorem search64_body{t:Mach}(v:TV t)(tp:TP t)(k:Nat)(hk:k≤64):∀(d:Nat) (c E:List Nat) (cv:AV) (used fuel:Nat) {R:AV→Mem→Nat→Prop},c.length+d=t.rows.length→ColOk cv E c→E.length≤t.rows.length→used≤64→fuel≤1000000→
  (∀b cv' E' f' sp',SROk t c (srch t k d c used fuel) b cv' E' f' sp'→R (.sc (.bool b)) (coM t cv' E' f' sp') 3)→
  BodyIs prog 76 [.rf 0 0,.sc (.int .i64 k),.sc (.int .i64 used)] (coM t cv E fuel false) 3 R:=by
 intro d
 induction d with
 | zero=>
   intro c E cv used fuel R hd hv hE _ _ hR;have hrw:=v.rows;refine BodyIs.of (nv:=3) (hid:=[6,7,19,27,34,45,46,48,59,60,64,65,69]) func76 rfl (by kernel_rfl) (by simp[ntmps76]) fun h0=>?_;rw[ntmps76,results76];unfold coM coO;have hRR:=hR true cv E fuel false ⟨hE,rfl,hv,rfl,rfl⟩;refine EvC.a ?_;refine EvC.seq ?_;refine EvC.mergeC (α:=Unit) (fun _=>⟨[(0,.rf 0 0),(1,.sc (.int .i64 k)),(2,.sc (.int .i64 used)),(6,.sc (.bool false)),(19,.sc (.bool true))],[],coM t cv E fuel false,3⟩) (fun _=>True) ?_ ?_
   ·have d1:=decide_eq_true (show(c.length:Int)=(t.rows.length:Int) by omega);rcases hv with⟨rfl,rfl,rfl⟩|⟨rfl,hE1,hE2,hE3⟩
    ·simp at hd;omega
    ·have hElen:((E.map natC).take c.length).length=c.length:=by simp;omega
     apply EvC.drd mixed
     ·simp only[go_sem,List.length_map,hElen,d1]<;>rfl
     ·simp
     ·kernel_rfl
     exact⟨rfl,(),trivial,fun c Q h=>EvC.gcE [0,1,2,6,19] [(0,0),(1,1)] 3 rfl (by simp only[go_sem,coM,coO,norefs_natC]<;>rfl) h⟩
   intro _ _;have hren:=hv.ren;have hnr:=hv.noref;refine EvC.ct ?_;refine EvC.a ?_;refine EvC.gcE (st2:=⟨[(6,.sc (.bool true))],[],coM t cv E fuel false,3⟩) [6] [(0,0),(1,1)] 3 rfl (by simp only[go_sem,coM,coO,norefs_natC,hnr,hren]<;>rfl) ?_;refine EvC.ret ⟨.inl rfl,_,(by simp only[go_sem]<;>rfl),?_⟩;exact hRR
 | succ d ih=>
 intro c E cv used fuel R hd hv hE hu hfu hR;have hrw:=v.rows;have hin:=v.ins;refine BodyIs.of (nv:=3) (hid:=[6,7,19,27,34,45,46,48,59,60,64,65,69]) func76 rfl (by kernel_rfl) (by simp[ntmps76]) fun h0=>?_;rw[ntmps76,results76];unfold coM coO;obtain⟨N,hNd⟩:∃N,N=t.rows.length:=⟨_,rfl⟩;have hren:=hv.ren;have hnr:=hv.noref;refine EvC.a ?_;refine EvC.seq ?_;refine EvC.mergeC (α:=Unit) (fun _=>⟨[(0,.rf 0 0),(1,.sc (.int .i64 k)),(2,.sc (.int .i64 used)),(6,.sc (.bool false)),(19,.sc (.bool false))],[],coM t cv E fuel false,3⟩) (fun _=>True) ?_ ?_
 ·have d1:=decide_eq_false (show ¬(c.length:Int)=(t.rows.length:Int) by omega);rcases hv with⟨rfl,rfl,rfl⟩|⟨rfl,hE1,hE2,hE3⟩
  ·have d1:=decide_eq_false (show ¬(0:Int)=(t.rows.length:Int) by omega);apply EvC.drd mixed
   ·simp only[go_sem,List.length_map,d1]<;>rfl
   ·simp
   ·kernel_rfl
   exact⟨rfl,(),trivial,fun c Q h=>EvC.gcE [0,1,2,6,19] [(0,0),(1,1)] 3 rfl (by simp only[go_sem,coM,coO]<;>rfl) h⟩
  ·have hElen:((E.map natC).take c.length).length=c.length:=by simp;omega
   apply EvC.drd mixed
   ·simp only[go_sem,List.length_map,hElen,d1]<;>rfl
   ·simp
   ·kernel_rfl
   exact⟨rfl,(),trivial,fun c Q h=>EvC.gcE [0,1,2,6,19] [(0,0),(1,1)] 3 rfl (by simp only[go_sem,coM,coO,norefs_natC]<;>rfl) h⟩
 intro _ _;refine EvC.cs ?_;refine EvC.seq ?_;refine EvC.a ?_;refine EvC.block ?_;obtain⟨res,hres⟩:∃r,r=srch t k (d+1) c used fuel:=⟨_,rfl⟩;rw[←hres]at hR;have hfold:srch t k (d+1) c used fuel=(List.range (min k (used+1))).foldl (stepS t (srch t k d) c used) (.fail fuel):=rfl;rw[hfold]at hres;refine EvC.loopS (σ:=Nat×AV×List Nat×Nat) (fun g=>⟨[(0,.rf 0 0),(1,.sc (.int .i64 k)),(2,.sc (.int .i64 used)),(7,.sc (.int .i64 g.1))],[],coM t g.2.1 g.2.2.1 g.2.2.2 false,3⟩) (fun g=>k-g.1)
  (fun g=>g.1≤min k (used+1)∧ColOk g.2.1 g.2.2.1 c∧g.2.2.1.length≤N∧g.2.2.2≤1000000∧(List.range g.1).foldl (stepS t (srch t k d) c used) (.fail fuel)=.fail g.2.2.2) [0,1,2,7] 3 ?_ ?_
 ·exact⟨[(0,0),(1,1)],(0,cv,E,fuel),rfl,(by simp only[go_sem,coM,coO,norefs_natC,hnr,hren,Int.natCast_zero]<;>rfl),Nat.zero_le _,hv,by rw[hNd];exact hE,hfu,rfl⟩
 clear hv hren hnr hE hfold hfu cv E;rintro⟨i,cv,E,f⟩ ⟨h1,hv,hE,hfu,h2⟩;simp only at h1 hv hE hfu h2⊢;have hren:=hv.ren;have hnr:=hv.noref;have hlt1:((i:Int)<(k:Int))↔i<k:=by omega
 have hlt2:((i:Int)≤(used:Int))↔i≤used:=by omega
 have hend:¬(i<k∧i≤used)→res=.fail f:=fun h=>by
  rw[hres,←h2,show i=min k (used+1) by omega]
 refine EvC.seq ?_;by_cases hg1:i<k;rotate_left
 ·refine EvC.g ?_ (h:=by simp only[go_sem,decide_eq_false (fun h=>hg1 (hlt1.1 h))]<;>rfl);refine EvC.cf ?_;refine EvC.exit ?_;refine EvC.a ?_;have hRR:=hR false cv E f false;rw[hend fun h=>hg1 h.1]at hRR;refine EvC.gcE (st2:=⟨[(6,.sc (.bool false))],[],coM t cv E f false,3⟩) [6] [(0,0),(1,1)] 3 rfl (by simp only[go_sem,coM,coO,norefs_natC,hnr,hren]<;>rfl) ?_;refine EvC.ret ⟨.inl rfl,_,(by simp only[go_sem]<;>rfl),?_⟩;exact hRR ⟨by omega,rfl,hv,rfl,rfl⟩
 have d1:=decide_eq_true (hlt1.2 hg1);by_cases hg2:i≤used;rotate_left
 ·refine EvC.g ?_ (h:=by simp only[go_sem,d1,decide_eq_false (fun h=>hg2 (hlt2.1 h))]<;>rfl);refine EvC.cf ?_;refine EvC.exit ?_;refine EvC.a ?_;have hRR:=hR false cv E f false;rw[hend fun h=>hg2 h.2]at hRR;refine EvC.gcE (st2:=⟨[(6,.sc (.bool false))],[],coM t cv E f false,3⟩) [6] [(0,0),(1,1)] 3 rfl (by simp only[go_sem,coM,coO,norefs_natC,hnr,hren]<;>rfl) ?_;refine EvC.ret ⟨.inl rfl,_,(by simp only[go_sem]<;>rfl),?_⟩;exact hRR ⟨by omega,rfl,hv,rfl,rfl⟩
 have d2:=decide_eq_true (hlt2.2 hg2);refine EvC.g ?_ (h:=by simp only[go_sem,d1,d2]<;>rfl);refine EvC.cr ?_;refine EvC.seq ?_;refine EvC.block ?_;refine EvC.seq ?_;refine EvC.a ?_ (by simp only[go_sem,coM,coO]<;>rfl);have him:i<min k (used+1):=by omega
 by_cases hf0:f=0
 ·subst hf0;refine EvC.ct ?_;have hst:res=.spent:=by
   rw[hres];exact foldl_at him (by rw[h2];rfl) rfl
  refine EvC.a ?_;refine EvC.a ?_;have hRR:=hR false cv E 0 true;rw[hst]at hRR;refine EvC.gcE (st2:=⟨[(6,.sc (.bool false))],[],coM t cv E 0 true,3⟩) [6] [(0,0),(1,1)] 3 rfl (by simp only[go_sem,coM,coO,norefs_natC,hnr,hren]<;>rfl) ?_;refine EvC.ret ⟨.inl rfl,_,(by simp only[go_sem]<;>rfl),?_⟩;exact hRR ⟨by omega,rfl,rfl,⟨c,hv⟩,rfl⟩
 have dz:=decide_eq_false (show ¬(f:Int)=0 by omega);refine EvC.cs ?_ (by simp only[go_sem,dz]<;>rfl);obtain⟨f,rfl⟩:∃g,f=g+1:=⟨f-1,by omega⟩;have hfs:((f+1:Nat):Int)-1=f:=by omega
 have hfs2:(f:Int)+((1:Nat):Int)-1=f:=by omega
 refine EvC.a ?_ (by simp only[go_sem,hfs,hfs2]<;>rfl) (by simp;exact inI64_of (by omega) (by omega));have hstep:∀r,stepS t (srch t k d) c used (.fail (f+1)) i=r→r.more=false→res=r:=fun r h1 h3=>by
  rw[hres];exact foldl_at him (by rw[h2];exact h1) h3
 have hnextf:∀f',stepS t (srch t k d) c used (.fail (f+1)) i=.fail f'→(List.range (i+1)).foldl (stepS t (srch t k d) c used) (.fail fuel)=.fail f':=fun f' h=>by
  rw[foldl_next,h2,h]
 have hstv:stepS t (srch t k d) c used (.fail (f+1)) i=if possB t c i=true then srch t k d (c++[i]) (max used (i+1)) f else .fail f:=by
  unfold stepS;simp only;rw[if_neg (by omega)];rfl
 clear h2;refine EvC.seq ?_;apply EvC.seq;apply EvC.rs
 ·simp only[go_sem]<;>rfl
 ·simp
 refine XR.gcTo ⟨[(0,.rf 0 0),(1,.sc (.int .i64 k)),(2,.sc (.int .i64 used)),(7,.sc (.int .i64 i)),(45,.rf 0 0),(46,.sc (.int .i64 i))],[],coM t cv E f false,3⟩ [0,1,2,7,45,46] [(0,0),(1,1)] rfl (by simp only[go_sem,coM,coO,norefs_natC,hnr,hren]<;>rfl) ?_;apply XR.callI rfl rfl (by simp only[go_sem]<;>rfl) (by simp only[go_sem]<;>rfl) (by simp only[go_sem]<;>rfl);refine possible77_body v tp hv (by omega) i f false ?_;apply XR.done
 ·simp only[go_sem]<;>rfl
 ·simp
 cases hpb:possB t c i with
 | false=>
   rw[hpb,if_neg (by simp)]at hstv;refine EvC.ct ?_ (by simp only[go_sem,hpb]<;>rfl);refine EvC.exit ?_;refine EvC.bi ?_;exact⟨[(0,0),(1,1)],(i+1,cv,E,f),rfl,(by simp only[go_sem,coM,coO,norefs_natC,hnr,hren,Int.natCast_add,Int.natCast_one]<;>rfl),⟨by simp only;omega,hv,hE,by simp only;omega,hnextf f hstv⟩,by simp only;omega⟩
 | true=>
 rw[hpb,if_pos rfl]at hstv;refine EvC.cs ?_ (by simp only[go_sem,hpb]<;>rfl);have hcN:c.length<N:=by omega
 refine EvC.mergeC (α:=List Nat) (fun E'=>⟨[(0,.rf 0 0),(1,.sc (.int .i64 k)),(2,.sc (.int .i64 used)),(7,.sc (.int .i64 i))],[],coM t (.tv 1 E'.length 0 (c.length+1) .rest) E' f false,3⟩)
  (fun E'=>E'.take (c.length+1)=c++[i]∧E'≠[]∧c.length+1≤E'.length∧E'.length≤N) ?_ ?_
 ·rcases hv with⟨rfl,rfl,rfl⟩|⟨rfl,hE1,hE2,hE3⟩
  ·have hr2:room 1 8=true:=by simp only[room_eq];decide
   refine EvC.b ?_ (by simp only[go_sem,coM,coO]<;>rfl) (by simp[hr2]);refine⟨rfl,[i],⟨rfl,by simp,by simp,by simp;omega⟩,fun c Q h=>?_⟩;refine EvC.toTv 1 ?_;refine EvC.gcE [0,1,2,7] [(0,0),(1,1)] 3 rfl (by simp only[go_sem,coM,coO,norefs_natC,natC,List.map_cons,List.map_nil]<;>rfl) h
  ·have hElen:(E.map natC).length=E.length:=List.length_map _;by_cases hfull:c.length=E.length
   ·have hEc:E=c:=by rw[←hE1,List.take_of_length_le (by omega)]
    have hr2:room (E.length+1) 8=true:=by simp only[room_eq,decide_eq_true_eq];omega
    obtain⟨E1,hE1d⟩:∃E1,E1=E++[i]:=⟨_,rfl⟩;have hsn:E.map natC++[[.sc (.int .i64 (i:Int))]]=E1.map natC:=by rw[hE1d];simp[natC]
    have hl2:E1.length=E.length+1:=by rw[hE1d];simp
    have ht2:E1.take (c.length+1)=c++[i]:=by rw[hE1d,hEc,List.take_of_length_le (by simp)]
    refine EvC.b ?_ (by simp only[go_sem,coM,coO,hfull,hElen,hsn]<;>rfl) (by simp[hr2];try exact hE2);exact⟨rfl,E1,⟨ht2,fun h=>by rw[h]at hl2;simp at hl2,by omega,by omega⟩,fun c Q h=>EvC.gcE [0,1,2,7] [(0,0),(1,1)] 3 rfl (by simp only[go_sem,coM,coO,norefs_natC,hfull,hl2]<;>rfl) h⟩
   ·obtain⟨E1,hE1d⟩:∃E1,E1=E.take c.length++i::E.drop (c.length+1):=⟨_,rfl⟩;have hsn:List.take c.length (E.map natC)++[.sc (.int .i64 (i:Int))]::List.drop (c.length+1) (E.map natC)=E1.map natC:=by rw[hE1d];simp[natC,List.map_take,List.map_drop]
    have hl2:E1.length=E.length:=by rw[hE1d];simp;omega
    have ht2:E1.take (c.length+1)=c++[i]:=by
     rw[hE1d,hE1,List.take_append];simp[List.take_of_length_le]
    refine EvC.b ?_ (by simp only[go_sem,coM,coO,hfull,hElen,hsn]<;>rfl) (by simp;try omega);exact⟨rfl,E1,⟨ht2,fun h=>by rw[h]at hl2;exact hE2 (List.length_eq_zero_iff.1 hl2.symm),by omega,by omega⟩,fun c Q h=>EvC.gcE [0,1,2,7] [(0,0),(1,1)] 3 rfl (by simp only[go_sem,coM,coO,norefs_natC,hl2]<;>rfl) h⟩
 clear hv hE hren hnr cv E;rintro E ⟨hE1,hE2,hE3,hE4⟩;have hlast:(c++[i]).length=c.length+1:=by simp
 have hv:ColOk (.tv 1 E.length 0 (c.length+1) .rest) E (c++[i]):=.inr ⟨by rw[hlast],by rw[hlast];exact hE1,hE2,by rw[hlast];exact hE3⟩;refine EvC.seq ?_;apply EvC.seq;apply EvC.rs
 ·simp only[go_sem,coM,coO]<;>rfl
 ·exact inI64_of (by omega) (by omega)
 have hmx:(if(used:Int)≤(i:Int)+1 then(i:Int)+1 else(used:Int))=((max used (i+1):Nat):Int):=by
  split<;>omega
 refine XR.gcTo ⟨[(0,.rf 0 0),(1,.sc (.int .i64 k)),(2,.sc (.int .i64 used)),(7,.sc (.int .i64 i)),(59,.rf 0 0),(60,.sc (.int .i64 k)),(64,.sc (.int .i64 ((max used (i+1):Nat):Int)))],[],coM t (.tv 1 E.length 0 (c.length+1) .rest) E f false,3⟩ [0,1,2,7,59,60,64] [(0,0),(1,1)] rfl (by rw[hmx];simp only[go_sem,coM,coO,norefs_natC]<;>rfl) ?_;apply XR.callI rfl rfl (by simp only[go_sem]<;>rfl) (by simp only[go_sem]<;>rfl) (by simp only[go_sem]<;>rfl);refine ih (c++[i]) E _ _ f (by rw[hlast];omega) hv (by omega) (by omega) (by omega) ?_;clear hv;intro b cv E2 f' sp hok;refine XR.nil ?_;obtain⟨hE,hok⟩:=hok;cases hsr:srch t k d (c++[i]) (max used (i+1)) f with
 | found c' fu=>
   rw[hsr]at hok hstv;obtain⟨rfl,hv,rfl,rfl⟩:=hok;have hres:=hstep _ hstv rfl;have hren:=hv.ren;have hnr:=hv.noref;refine EvC.ct ?_;refine EvC.a ?_;have hRR:=hR true cv E2 f' false;rw[hres]at hRR;refine EvC.gcE (st2:=⟨[(6,.sc (.bool true))],[],coM t cv E2 f' false,3⟩) [6] [(0,0),(1,1)] 3 rfl (by simp only[go_sem,coM,coO,norefs_natC,hnr,hren]<;>rfl) ?_;refine EvC.ret ⟨.inl rfl,_,(by simp only[go_sem]<;>rfl),?_⟩;exact hRR ⟨hE,rfl,hv,rfl,rfl⟩
 | spent=>
   rw[hsr]at hok hstv;obtain⟨rfl,rfl,⟨c',hv⟩,rfl⟩:=hok;have hres:=hstep _ hstv rfl;have hren:=hv.ren;have hnr:=hv.noref;refine EvC.cs ?_;refine EvC.seq ?_;refine EvC.a ?_ (by simp only[go_sem,coM,coO]<;>rfl);refine EvC.ct ?_;refine EvC.a ?_;have hRR:=hR false cv E2 0 true;rw[hres]at hRR;refine EvC.gcE (st2:=⟨[(6,.sc (.bool false))],[],coM t cv E2 0 true,3⟩) [6] [(0,0),(1,1)] 3 rfl (by simp only[go_sem,coM,coO,norefs_natC,hnr,hren]<;>rfl) ?_;refine EvC.ret ⟨.inl rfl,_,(by simp only[go_sem]<;>rfl),?_⟩;exact hRR ⟨hE,rfl,rfl,⟨c',hv⟩,rfl⟩
 | fail fu=>
   rw[hsr]at hok hstv;obtain⟨rfl,hv,rfl,rfl⟩:=hok;refine EvC.cs ?_;refine EvC.seq ?_;refine EvC.a ?_ (by simp only[go_sem,coM,coO]<;>rfl);refine EvC.cs ?_;rcases hv with⟨h,_⟩|⟨rfl,hF,hF0,hF1⟩
   ·simp at h
   rw[hlast]at hF hF1⊢;have hcl1:((c.length:Int)+1-1).toNat=c.length:=by omega
   have hcl3:((c.length:Int)+((1:Nat):Int)-1)=c.length:=by omega
   have hcl4:(c.length:Int).toNat=c.length:=Int.toNat_natCast _;have hcl2:((E2.map natC).take (c.length+1)).length=c.length+1:=by simp;omega
   have hF3:E2.take c.length=c:=by
    have:=congrArg (List.take c.length) hF;rw[List.take_take,Nat.min_eq_left (by omega)]at this;rw[this];simp
   refine EvC.dL mixed ?_ (h:=by simp only[go_sem,coM,coO,hcl1,hcl2,hcl3,hcl4,Int.natCast_add,Int.natCast_one]<;>rfl) (hok:=by simp[inI64_of (x:=(c.length:Int)) (by omega) (by omega)];try exact hF0);refine EvC.bi ?_;exact⟨[(0,0),(1,1)],(i+1,.tv 1 E2.length 0 c.length .rest,E2,f'),rfl,(by simp only[go_sem,coM,coO,norefs_natC,Int.natCast_add,Int.natCast_one]<;>rfl),⟨by simp only;omega,.inr ⟨rfl,hF3,hF0,Nat.le_trans (Nat.le_succ _) hF1⟩,by rw[hNd];exact hE,by simp only;have:=srch_fuel t k d (c++[i]) (max used (i+1)) f;rw[hsr]at this;exact Nat.le_trans this (by omega),hnextf f' hstv⟩,by simp only;omega⟩
def edgeK(t:Mach)(c:List Nat)(s i:Nat):Nat→Int×Int
 | 0=>(-1,-1)
 | n+1=>if stN c n=s∧(eT t n i).1≠ -1 then((stN c (eT t n i).1.toNat:Nat),(eT t n i).2)else edgeK t c s i n
def colW(t:Mach)(c:List Nat)(n i:Nat)(s j:Nat):Int×Int:=if j<i then edgeK t c s j (n+1)else edgeK t c s j n
def initW(s i a b:Nat):Int×Int:=if a<s∨b<i then(-1,-1)else(0,0)
theorem otab_congr{α:Type}(e:Nat)(C:α→List AV){W W':Nat→Nat→α}{n m:Nat}(h:∀s i,s<n→i<m→W s i=W' s i):otab e C W n m=otab e C W' n m:=by
 unfold otab;congr 1;refine List.map_congr_left fun s hs=>?_;have hs:=List.mem_range.1 hs;unfold grow gcells;congr 1;refine List.map_congr_left fun i hi=>?_;rw[h s i hs (List.mem_range.1 hi)]
theorem initW_set{s i n m:Nat}(hn:n=s+1):otab 2 edgeC (upd2 (initW s i) s i (-1,-1)) n m=otab 2 edgeC (initW s (i+1)) n m:=by
 refine otab_congr 2 edgeC fun a b ha hb=>?_;unfold upd2 initW;by_cases h:a=s∧b=i
 ·rw[if_pos h,if_pos (by omega)]
 ·rw[if_neg h];by_cases h2:a<s∨b<i
  ·rw[if_pos h2,if_pos (by omega)]
  ·rw[if_neg h2,if_neg (by omega)]
theorem initW_next{s m:Nat}:otab 2 edgeC (initW s m) (s+1) m=otab 2 edgeC (initW (s+1) 0) (s+1) m:=by
 refine otab_congr 2 edgeC fun a b ha hb=>?_;unfold initW;rw[if_pos (by omega),if_pos (by omega)]
theorem initW_all{t:Mach}{c:List Nat}{s m:Nat}:otab 2 edgeC (initW s 0) s m=otab 2 edgeC (colW t c 0 0) s m:=by
 refine otab_congr 2 edgeC fun a b ha hb=>?_;unfold initW colW;rw[if_pos (by omega),if_neg (by omega)];rfl
theorem colW_next{t:Mach}{c:List Nat}{n k m:Nat}:otab 2 edgeC (colW t c n m) k m=otab 2 edgeC (colW t c (n+1) 0) k m:=by
 refine otab_congr 2 edgeC fun a b ha hb=>?_;unfold colW;rw[if_pos hb,if_neg (by omega)]
theorem colW_set{t:Mach}{c:List Nat}{n i k m:Nat}(he:(eT t n i).1≠ -1):otab 2 edgeC (upd2 (colW t c n i) (stN c n) i ((stN c (eT t n i).1.toNat:Nat),(eT t n i).2)) k m=otab 2 edgeC (colW t c n (i+1)) k m:=by
 refine otab_congr 2 edgeC fun a b ha hb=>?_;unfold upd2 colW;by_cases h:a=stN c n∧b=i
 ·rw[if_pos h,if_pos (by omega),edgeK,if_pos (by rw[h.2];exact⟨h.1.symm,he⟩),h.2]
 ·rw[if_neg h];by_cases h2:b<i
  ·rw[if_pos h2,if_pos (by omega)]
  ·rw[if_neg h2];by_cases h3:b=i
   ·rw[if_pos (by omega),edgeK,if_neg (fun h4=>h ⟨h4.1.symm,h3⟩)]
   ·rw[if_neg (by omega)]
theorem colW_keep{t:Mach}{c:List Nat}{n i k m:Nat}(he:(eT t n i).1=-1):otab 2 edgeC (colW t c n i) k m=otab 2 edgeC (colW t c n (i+1)) k m:=by
 refine otab_congr 2 edgeC fun a b ha hb=>?_;unfold colW;by_cases h2:b<i
 ·rw[if_pos h2,if_pos (by omega)]
 ·rw[if_neg h2];by_cases h3:b=i
  ·rw[if_pos (by omega),edgeK,if_neg (fun h4=>h4.2 (by rw[h3];exact he))]
  ·rw[if_neg (by omega)]
def colRes(t:Mach)(c:List Nat)(k:Nat):AV:=.ag [.sc (.int .i64 t.ins),.sc (.int .i64 t.outs),.sl false (rowsV (fun s i=>edgeK t c s i t.rows.length) k t.ins.toNat) .full]
def colA(t:Mach)(c:List Nat)(fuel:Int)(sp:Bool):AV:=.ia [.sc (.int .i64 t.ins),.sc (.int .i64 t.outs),.sl t.nl (t.rows.map rowC) .unk,.sl false ((frT t).map prC) .full,.sl false (c.map natC) .unk,.sc (.int .i64 fuel),.sc (.bool sp)]
set_option maxHeartbeats 8000000 in
theorem machine65_is{t:Mach}(v:TV t){c:List Nat}(hl:c.length=t.rows.length){k:Nat}(hk:1≤k∧k≤64)(hck:∀x∈c,x<k)(fuel:Int)(sp:Bool):PureIs prog 77 [colA t c fuel sp,.sc (.int .i64 k)] (colRes t c k):=by
 have hrw:=v.rows;have hin:=v.ins;obtain⟨I,hId⟩:∃I,I=t.ins.toNat:=⟨_,rfl⟩;have hI:t.ins=(I:Int):=by omega
 have hkin:(k:Int).toNat=k:=Int.toNat_natCast k;unfold colA colRes;rw[←hId];refine PureIs.of1 5 [4,5,6,7,8,9,10,11,23,25,26,27,28,29,44,45,46,47,48,63,64,65,66,77,78,79,80,86] func77 ntmps77 results77 fun _=>?_;refine EvC.a ?_;have hrlz:(List.replicate k [AV.sl true [] .zer]).length=k:=List.length_replicate;apply EvC.seq;apply EvC.drwA mixed
 ·apply Tr.done
  ·simp only[go_sem,hkin,hrlz]<;>rfl
  ·simp[room_eq];omega
 ·kernel_rfl
 refine EvC.seq ?_;have hzt:((List.replicate k [AV.sl true [] .zer]).take k).length=k:=by simp
 refine EvC.a ?_ (by simp only[go_sem,hrlz,hzt]<;>rfl);refine EvC.block ?_;have hk6:k≤1000000:=by omega
 have hz2:(List.replicate k [AV.sl true [] .zer]).all AV.norefs=true:=by simp[List.all_eq_true,AV.norefs,AV.noref]
 refine EvC.loopS (σ:=Nat) (fun s=>⟨[(0,.ia [.sc (.int .i64 t.ins),.sc (.int .i64 t.outs),.sl t.nl (t.rows.map rowC) .unk,.sl false ((frT t).map prC) .full,.sl false (c.map natC) .unk,.sc (.int .i64 fuel),.sc (.bool sp)]),(4,.rf 1000200 0),(5,.rf 1000201 0),(27,.sc (.int .i64 k)),(28,.sc (.int .i64 s))],[],
  (1000200,.cells [.sc (.int .i64 0),.sc (.int .i64 0),.sl true [] .zer])::(1000201,.cells [.sc (.int .i64 t.ins),.sc (.int .i64 t.outs),.tv 1000202 k 0 k (.val k)])::(1000202,.arr 1 (opart I k s) false)::otab 2 edgeC (initW s 0) s I,3000000⟩) (fun s=>k-s) (fun s=>s≤k) [0,4,5,27,28] 3000000 ?_ ?_
 ·exact⟨[(0,1000200),(14,1000201),(12,1000202)],0,rfl,(by simp only[go_sem,opart_zero,otab_zero,Int.natCast_zero,hz2,if_true]<;>rfl),Nat.zero_le _⟩
 intro s hs;have hs6:s≤1000000:=by omega
 have htl:=opart_len (m:=I) hs;have hsin:(s:Int).toNat=s:=Int.toNat_natCast s;refine EvC.a ?_;refine EvC.seq ?_;refine EvC.cd (fun hc=>?_) (fun hc=>?_);rotate_left
 ·
  obtain rfl:k=s:=by have:¬s<k:=by simpa using hc
                     omega
  refine EvC.exit ?_;clear hs6 hsin;rw[opart_all,initW_all (t:=t) (c:=c)];have hor:(ocell I k).map (fun c=>c.map (AV.ren (osegK [(1000200,1000200),(1000201,1000201),(1000202,1000202)] (k) [])))=ocell I k:=ocell_ren (fun j hj=>rlook_osegK_lo hj hk6 (A:=[(1000200,1000200),(1000201,1000201),(1000202,1000202)]) rfl);have hol:=ocell_len I k;have hotz:(ocell I k).take k=ocell I k:=List.take_of_length_le (by omega);have hcl:(c.map natC).length=t.rows.length:=by rw[List.length_map,hl]
  obtain⟨N,hNd⟩:∃N,N=t.rows.length:=⟨_,rfl⟩;rw[←hNd]at hl hcl hrw;refine EvC.seq ?_;refine EvC.a ?_ (by simp only[go_sem,hcl]<;>rfl);refine EvC.block ?_;refine EvC.loopS (σ:=Nat) (fun n=>⟨[(0,.ia [.sc (.int .i64 t.ins),.sc (.int .i64 t.outs),.sl t.nl (t.rows.map rowC) .unk,.sl false ((frT t).map prC) .full,.sl false (c.map natC) .unk,.sc (.int .i64 fuel),.sc (.bool sp)]),(4,.rf 1000200 0),(5,.rf 1000201 0),(63,.sl false (c.map natC) .unk),(64,.sc (.int .i64 N)),(65,.sc (.int .i64 n))],[],
   (1000200,.cells [.sc (.int .i64 0),.sc (.int .i64 0),.sl true [] .zer])::(1000201,.cells [.sc (.int .i64 t.ins),.sc (.int .i64 t.outs),.tv 1000202 k 0 k (.val k)])::(1000202,.arr 1 (ocell I k) false)::otab 2 edgeC (colW t c n 0) k I,3000000⟩) (fun n=>N-n) (fun n=>n≤N) [0,4,5,63,64,65] 3000000 ?_ ?_
  ·exact⟨(osegK [(1000200,1000200),(1000201,1000201),(1000202,1000202)] (k) []),0,(osegK_ok (A:=[(1000200,1000200),(1000201,1000201),(1000202,1000202)]) rfl rfl rfl hk6 (by omega)),(by simp only[go_sem,hI,rlook_osegK_hi hk6,List.cons_append,List.nil_append,List.append_nil,renMem_oK_cons hk6,otab_ren 2 norefs_edgeC,hor,ite_self,Int.natCast_add,Int.natCast_one,Int.natCast_zero]<;>rfl),Nat.zero_le _⟩
  intro n hn;have hnin:(n:Int).toNat=n:=Int.toNat_natCast n;refine EvC.a ?_;refine EvC.seq ?_;refine EvC.cd (fun hc=>?_) (fun hc=>?_);rotate_left
  ·
   obtain rfl:n=N:=by have:¬n<N:=by simpa using hc
                      omega
   refine EvC.exit ?_;obtain⟨W,hW⟩:∃W,W=colW t c n 0:=⟨_,rfl⟩;have hWe:rowsV (fun s i=>edgeK t c s i n) k I=rowsV W k I:=by
    rw[hW];unfold rowsV;refine List.map_congr_left fun s _=>?_;have:gcells edgeC (fun i=>edgeK t c s i n) I=gcells edgeC (colW t c n 0 s) I:=by
     unfold gcells;refine List.map_congr_left fun i _=>?_;unfold colW;rw[if_neg (Nat.not_lt_zero _)]
    rw[this]
   rw[←hW];refine EvC.ofzAll k (fun i hi=>⟨2,gcells edgeC (W i) I,false,by simp only[mlook,o_ne (show i<1000000 by omega),if_false,otab_look 2 edgeC W hi,go_sem],gcells_norefs norefs_edgeC _ _⟩) ?_;have hfz:=otab_fz 2 edgeC W k I;obtain⟨MM,hMM⟩:∃MM:Mem,MM=(1000200,.cells [.sc (.int .i64 0),.sc (.int .i64 0),.sl true [] .zer])::(1000201,.cells [.sc (.int .i64 t.ins),.sc (.int .i64 t.outs),.tv 1000202 k 0 k (.val k)])::(1000202,.arr 1 (ocell I k) false)::otabF 2 edgeC W k I:=⟨_,rfl⟩;have hsn:(ocell I k).map (fun c=>c.map (AV.deep (snap MM)))=rowsV W k I:=ocell_snap (e:=2) (row:=fun s=>gcells edgeC (W s) I) (fun s hs=>by
    rw[hMM];simp only[mlook,o_ne (show s<1000000 by omega),if_false,otabF_look 2 edgeC W hs,go_sem]) (fun s _=>gcells_len _ _ _)
   rw[hMM]at hsn;have hvl:=rowsV_len W k I;have hvn:(rowsV W k I).all AV.norefs=true:=by simp[rowsV,List.all_eq_true,AV.norefs,AV.noref]
   have hmF:∀f,memMap f (otabF 2 edgeC W k I)=otabF 2 edgeC W k I:=fun f=>by rw[otabF,memMap_msegA,List.map_map];rfl
   refine EvC.snapA 1000202 (by simp only[go_sem,ofzAll_cons hk6,hfz,hsn]<;>rfl) ?_;refine EvC.frzD 1000202 (by simp only[go_sem,hvn,hvl,hmF]<;>rfl) ?_;refine EvC.a ?_;rw[←hNd,hWe];refine EvC.rz ?_;simp only[go_sem]
  have hnN:n<N:=by simpa using hc
  clear hc;refine EvC.skip ?_;refine EvC.seq ?_;refine EvC.block ?_;have hgn:=stN_get (c:=c) (m:=n) (by omega);have hck1:stN c n<k:=hck _ (List.mem_of_getElem? hgn);have hsin:((stN c n:Nat):Int).toNat=stN c n:=Int.toNat_natCast _;obtain⟨A,hA,hAl⟩:∃A:Row,t.rows[n]?=some A∧(A.2.length:Int)=t.ins:=by
   obtain⟨A,h1,h2,_⟩:=row_get v (n:=n) (i:=0) (by omega) (by omega);exact⟨A,h1,h2⟩
  have hAI:A.2.length=I:=by omega
  refine EvC.a ?_ (by simp only[go_sem,hgn,hnin,natC,hcl]<;>rfl) (by simp;try omega);refine EvC.a ?_ (by simp only[go_sem,hA,hnin,rowC,List.length_map,hAI]<;>rfl) (by simp;try omega);refine EvC.block ?_;refine EvC.loopS (σ:=Nat) (fun i=>⟨[(0,.ia [.sc (.int .i64 t.ins),.sc (.int .i64 t.outs),.sl t.nl (t.rows.map rowC) .unk,.sl false ((frT t).map prC) .full,.sl false (c.map natC) .unk,.sc (.int .i64 fuel),.sc (.bool sp)]),(4,.rf 1000200 0),(5,.rf 1000201 0),(8,.sc (.int .i64 n)),(9,.sc (.int .i64 (stN c n))),(63,.sl false (c.map natC) .unk),(64,.sc (.int .i64 N)),(65,.sc (.int .i64 n)),(77,.sl A.1 (A.2.map edgeC) .unk),(78,.sc (.int .i64 I)),(79,.sc (.int .i64 i))],[],
   (1000200,.cells [.sc (.int .i64 0),.sc (.int .i64 0),.sl true [] .zer])::(1000201,.cells [.sc (.int .i64 t.ins),.sc (.int .i64 t.outs),.tv 1000202 k 0 k (.val k)])::(1000202,.arr 1 (ocell I k) false)::otab 2 edgeC (colW t c n i) k I,3000000⟩) (fun i=>I-i) (fun i=>i≤I) [0,4,5,8,9,63,64,65,77,78,79] 3000000 ?_ ?_
  ·exact⟨(osegK [(1000200,1000200),(1000201,1000201),(1000202,1000202)] (k) []),0,(osegK_ok (A:=[(1000200,1000200),(1000201,1000201),(1000202,1000202)]) rfl rfl rfl hk6 (by omega)),(by simp only[go_sem,hI,rlook_osegK_hi hk6,List.cons_append,List.nil_append,List.append_nil,renMem_oK_cons hk6,otab_ren 2 norefs_edgeC,hor,ite_self,Int.natCast_add,Int.natCast_one,Int.natCast_zero]<;>rfl),Nat.zero_le _⟩
  intro i hi;have hiin:(i:Int).toNat=i:=Int.toNat_natCast i;refine EvC.a ?_;refine EvC.seq ?_;refine EvC.cd (fun hc=>?_) (fun hc=>?_);rotate_left
  ·
   obtain rfl:i=I:=by have:¬i<I:=by simpa using hc
                      omega
   refine EvC.exit ?_;refine EvC.bi ?_;exact⟨(osegK [(1000200,1000200),(1000201,1000201),(1000202,1000202)] (k) []),n+1,(osegK_ok (A:=[(1000200,1000200),(1000201,1000201),(1000202,1000202)]) rfl rfl rfl hk6 (by omega)),(by simp only[go_sem,hI,rlook_osegK_hi hk6,List.cons_append,List.nil_append,List.append_nil,renMem_oK_cons hk6,otab_ren 2 norefs_edgeC,hor,ite_self,Int.natCast_add,Int.natCast_one,Int.natCast_zero,colW_next]<;>rfl),hnN,by omega⟩
  have hiI:i<I:=by simpa using hc
  clear hc;refine EvC.skip ?_;refine EvC.seq ?_;refine EvC.block ?_;have hAi:A.2[i]?=some (eT t n i):=by
   obtain⟨A',h1,_,h2⟩:=row_get v (n:=n) (i:=i) (by omega) (by omega);rw[hA]at h1;cases h1;exact h2
  have eA:=v.edge (n:=n) (i:=i) (by omega) (by omega);have hkeep:=fun h=>colW_keep (t:=t) (c:=c) (n:=n) (i:=i) (k:=k) (m:=I) h;have hcs:=fun h=>colW_set (t:=t) (c:=c) (n:=n) (i:=i) (k:=k) (m:=I) h;generalize eT t n i=e at hAi eA hkeep hcs;obtain⟨e1,e2⟩:=e;simp only at eA hkeep hcs;refine EvC.a ?_ (by simp only[go_sem,hAi,hiin,edgeC,List.length_map]<;>rfl) (by simp;try omega);have hmd:∀j,notO j=true→mdel (otab 2 edgeC (colW t c n i) k I) j=otab 2 edgeC (colW t c n i) k I:=fun j hj=>mdel_otab _ _ _ hk6 j hj;refine EvC.z 3000004 ?_ (by simp only[go_sem,hmd 3000004 rfl]<;>rfl);refine EvC.a ?_;by_cases he:e1=-1
  ·refine EvC.cs ?_ (by simp only[go_sem,decide_eq_true he]<;>rfl);refine EvC.bi ?_;exact⟨(osegK [(1000200,1000200),(1000201,1000201),(1000202,1000202)] (k) []),i+1,(osegK_ok (A:=[(1000200,1000200),(1000201,1000201),(1000202,1000202)]) rfl rfl rfl hk6 (by omega)),(by simp only[go_sem,hI,rlook_osegK_hi hk6,List.cons_append,List.nil_append,List.append_nil,renMem_oK_cons hk6,otab_ren 2 norefs_edgeC,hor,ite_self,Int.natCast_add,Int.natCast_one,Int.natCast_zero,hkeep he]<;>rfl),by omega,by omega⟩
  refine EvC.ct ?_ (by simp only[go_sem,decide_eq_false he]<;>rfl);obtain⟨q,rfl⟩:∃q:Nat,e1=q:=⟨e1.toNat,by omega⟩;have hqin:(q:Int).toNat=q:=Int.toNat_natCast q;have hgq:=stN_get (c:=c) (m:=q) (by omega);have hocg:=ocell_get (m:=I) hck1;have hlk:=otab_look 2 edgeC (colW t c n i) (m:=I) hck1;have hgi:=gcells_get edgeC (colW t c n i (stN c n)) hiI;have hcs:=hcs he;rw[hqin]at hcs;have hset:mset (otab 2 edgeC (colW t c n i) k I) (2000000+stN c n) (.arr 2 ((gcells edgeC (colW t c n i (stN c n)) I).set i [.sc (.int .i64 (stN c q)),.sc (.int .i64 e2)]) false)=otab 2 edgeC (colW t c n (i+1)) k I:=by
   rw[←hcs];exact otab_set 2 edgeC (colW t c n i) ((stN c q:Nat),e2) hck1 hiI
  apply EvC.drd mixed
  ·simp only[go_sem,hotz,hol,hocg,hsin,hiin,hqin,hgq,natC,hcl,o_ne (show stN c n<1000000 by omega),hlk,gcells_len,hgi,hset,edgeC,List.drop_succ_cons,List.drop_zero]<;>rfl
  ·simp[hol];try omega
  ·exact confAll_slots (by simp[rdOk,slotsOf,opSlots,memless,Op.operands]) (by kernel_rfl)
  refine EvC.bi ?_;exact⟨(osegK [(1000200,1000200),(1000201,1000201),(1000202,1000202)] (k) []),i+1,(osegK_ok (A:=[(1000200,1000200),(1000201,1000201),(1000202,1000202)]) rfl rfl rfl hk6 (by omega)),(by simp only[go_sem,hI,rlook_osegK_hi hk6,List.cons_append,List.nil_append,List.append_nil,renMem_oK_cons hk6,otab_ren 2 norefs_edgeC,hor,ite_self,Int.natCast_add,Int.natCast_one,Int.natCast_zero]<;>rfl),by omega,by omega⟩
 have hsk:s<k:=by simpa using hc
 clear hc;refine EvC.skip ?_;refine EvC.seq ?_;refine EvC.block ?_;have hti:=opart_get (m:=I) hsk;have hIin:(I:Int).toNat=I:=Int.toNat_natCast I;have hrI:(List.replicate I [AV.sc (.int .i64 0),.sc (.int .i64 0)]).length=I:=List.length_replicate;refine EvC.a ?_;apply EvC.seq;apply EvC.drwA mixed
 ·apply Tr.done
  ·simp only[go_sem,hI,hIin,htl,hti,hsin,hrI,mlook_mset]<;>rfl
  ·simp[room_eq,htl];omega
 ·kernel_rfl
 have hrow0:gcells edgeC (initW s 0 s) I=List.replicate I [.sc (.int .i64 0),.sc (.int .i64 0)]:=by
  unfold gcells;rw[List.eq_replicate_iff];refine⟨by simp,fun b hb=>?_⟩;obtain⟨j,_,rfl⟩:=List.mem_map.1 hb;unfold initW;rw[if_neg (by omega)];rfl
 rw[←hrow0];have hlo:∀j,j<s→rlook (osegK [(1000200,1000200),(1000201,1000201),(1000202,1000202)] s [(3000011,2000000+s)]) (2000000+j)=some (2000000+j):=fun j hj=>rlook_osegK_lo hj hs6 (A:=[(1000200,1000200),(1000201,1000201),(1000202,1000202)]) rfl;have hhi:rlook (osegK [(1000200,1000200),(1000201,1000201),(1000202,1000202)] s [(3000011,2000000+s)]) 3000011=some (2000000+s):=rlook_osegK_hi hs6 _ _ _ rfl;have hpr:=opart_ren (m:=I) hsk hhi hlo;have hpn:=opart_norefs (m:=I) (k:=3000011) hsk;refine EvC.gcE (st2:=⟨[(0,.ia [.sc (.int .i64 t.ins),.sc (.int .i64 t.outs),.sl t.nl (t.rows.map rowC) .unk,.sl false ((frT t).map prC) .full,.sl false (c.map natC) .unk,.sc (.int .i64 fuel),.sc (.bool sp)]),(4,.rf 1000200 0),(5,.rf 1000201 0),(6,.sc (.int .i64 s)),(27,.sc (.int .i64 k)),(28,.sc (.int .i64 s))],[],
  (1000200,.cells [.sc (.int .i64 0),.sc (.int .i64 0),.sl true [] .zer])::(1000201,.cells [.sc (.int .i64 t.ins),.sc (.int .i64 t.outs),.tv 1000202 k 0 k (.val k)])::(1000202,.arr 1 (opart I k (s+1)) false)::otab 2 edgeC (initW s 0) (s+1) I,3000000⟩) [0,4,5,6,27,28] (osegK [(1000200,1000200),(1000201,1000201),(1000202,1000202)] s [(3000011,2000000+s)]) 3000000 (osegK_ok1 (A:=[(1000200,1000200),(1000201,1000201),(1000202,1000202)]) rfl rfl rfl rfl rfl (by decide) (by decide) (by omega) (by omega)) ?_ ?_
 ·simp only[go_sem,hI,rlook_osegK_hi hs6,List.cons_append,List.nil_append,renMem_oK_cons hs6,renMem_oK_mset hs6,mlook_mset,gcells_norefs norefs_edgeC,otab_ren 2 norefs_edgeC,otab_snoc,hpr,hpn]<;>rfl
 have hs7:s+1≤1000000:=by omega
 have htl1:=opart_len (m:=I) (n:=k) (s:=s+1) hsk;have hgs1:(opart I k (s+1))[s]?=some [.tl (2000000+s) I false]:=by
  rw[opart,List.getElem?_append_left (by rw[ocell_len];omega),ocell_get (by omega)]
 have htz1:((opart I k (s+1)).take k).length=k:=by rw[List.length_take,htl1,Nat.min_self]
 have htz2:(opart I k (s+1)).take k=opart I k (s+1):=List.take_of_length_le (by omega);have hon:=fun W=>otab_look 2 edgeC W (n:=s+1) (m:=I) (s:=s) (by omega);refine EvC.a ?_ (by simp only[go_sem,htl1,htz2,hgs1,hsin,o_ne (show s<1000000 by omega),hon,gcells_len]<;>rfl) (by simp[htl1];try omega);have hor1:(opart I k (s+1)).map (fun c=>c.map (AV.ren (osegK [(1000200,1000200),(1000201,1000201),(1000202,1000202)] (s+1) [])))=opart I k (s+1):=by
  rw[opart,List.map_append,ocell_ren (fun j hj=>rlook_osegK_lo hj hs7 (A:=[(1000200,1000200),(1000201,1000201),(1000202,1000202)]) rfl)];congr 1;rw[List.map_replicate];rfl
 refine EvC.block ?_;refine EvC.loopS (σ:=Nat) (fun i=>⟨[(0,.ia [.sc (.int .i64 t.ins),.sc (.int .i64 t.outs),.sl t.nl (t.rows.map rowC) .unk,.sl false ((frT t).map prC) .full,.sl false (c.map natC) .unk,.sc (.int .i64 fuel),.sc (.bool sp)]),(4,.rf 1000200 0),(5,.rf 1000201 0),(6,.sc (.int .i64 s)),(27,.sc (.int .i64 k)),(28,.sc (.int .i64 s)),(46,.sc (.int .i64 I)),(47,.sc (.int .i64 i))],[],
  (1000200,.cells [.sc (.int .i64 0),.sc (.int .i64 0),.sl true [] .zer])::(1000201,.cells [.sc (.int .i64 t.ins),.sc (.int .i64 t.outs),.tv 1000202 k 0 k (.val k)])::(1000202,.arr 1 (opart I k (s+1)) false)::otab 2 edgeC (initW s i) (s+1) I,3000000⟩) (fun i=>I-i) (fun i=>i≤I) [0,4,5,6,27,28,46,47] 3000000 ?_ ?_
 ·exact⟨(osegK [(1000200,1000200),(1000201,1000201),(1000202,1000202)] (s+1) []),0,(osegK_ok (A:=[(1000200,1000200),(1000201,1000201),(1000202,1000202)]) rfl rfl rfl hs7 (by omega)),(by simp only[go_sem,hI,rlook_osegK_hi hs7,List.cons_append,List.nil_append,List.append_nil,renMem_oK_cons hs7,otab_ren 2 norefs_edgeC,hor1,ite_self,Int.natCast_add,Int.natCast_one,Int.natCast_zero]<;>rfl),Nat.zero_le _⟩
 intro i hi;have hiin:(i:Int).toNat=i:=Int.toNat_natCast i;refine EvC.a ?_;refine EvC.seq ?_;refine EvC.cd (fun hc=>?_) (fun hc=>?_);rotate_left
 ·
  obtain rfl:i=I:=by have:¬i<I:=by simpa using hc
                     omega
  refine EvC.exit ?_;refine EvC.bi ?_;exact⟨(osegK [(1000200,1000200),(1000201,1000201),(1000202,1000202)] (s+1) []),s+1,(osegK_ok (A:=[(1000200,1000200),(1000201,1000201),(1000202,1000202)]) rfl rfl rfl hs7 (by omega)),(by simp only[go_sem,hI,rlook_osegK_hi hs7,List.cons_append,List.nil_append,List.append_nil,renMem_oK_cons hs7,otab_ren 2 norefs_edgeC,hor1,ite_self,Int.natCast_add,Int.natCast_one,Int.natCast_zero,initW_next]<;>rfl),hsk,by omega⟩
 have hiI:i<I:=by simpa using hc
 clear hc;refine EvC.skip ?_;refine EvC.seq ?_;refine EvC.block ?_;have hgi:=gcells_get edgeC (initW s i s) hiI;have hset:mset (otab 2 edgeC (initW s i) (s+1) I) (2000000+s) (.arr 2 ((gcells edgeC (initW s i s) I).set i [.sc (.int .i64 (-1)),.sc (.int .i64 (-1))]) false)=otab 2 edgeC (initW s (i+1)) (s+1) I:=by
  rw[←initW_set rfl];exact otab_set 2 edgeC (initW s i) (-1,-1) (by omega) hiI
 refine EvC.a ?_;refine EvC.b ?_ (by simp only[go_sem,htl1,htz2,hgs1,hsin,hiin,o_ne (show s<1000000 by omega),hon,gcells_len,hgi,hset,edgeC,List.drop_succ_cons,List.drop_zero]<;>rfl) (by simp[htl1];try omega);refine EvC.bi ?_;exact⟨(osegK [(1000200,1000200),(1000201,1000201),(1000202,1000202)] (s+1) []),i+1,(osegK_ok (A:=[(1000200,1000200),(1000201,1000201),(1000202,1000202)]) rfl rfl rfl hs7 (by omega)),(by simp only[go_sem,hI,rlook_osegK_hi hs7,List.cons_append,List.nil_append,List.append_nil,renMem_oK_cons hs7,otab_ren 2 norefs_edgeC,hor1,ite_self,Int.natCast_add,Int.natCast_one,Int.natCast_zero]<;>rfl),by omega,by omega⟩
end Go.Avl
