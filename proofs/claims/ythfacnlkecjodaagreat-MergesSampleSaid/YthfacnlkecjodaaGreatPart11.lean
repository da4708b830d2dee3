/-
  Lemmas.
  How the arguments of the merges' laws read.
-/
import Derived.Test.YthfacnlkecjodaaGreatRows
import Derived.Test.YthfacnlkecjodaaGreatPart10
set_option linter.unusedSimpArgs false
set_option linter.unusedVariables false
set_option linter.unnecessarySimpa false
set_option linter.deprecated false
namespace Go.Avl
open Go Go.Proofs.Tryz
set_option maxRecDepth 10000
def moreW(ws:List (Bool×List Int))(n:Int)(k:Nat):List RW:=(ws.take k).map fun y=>((wordOf y.2 n 10).isEmpty,wordOf y.2 n 10,.unk)
theorem moreW_succ{ws:List (Bool×List Int)}{n:Int}{k:Nat}{y:Bool×List Int}(h:ws[k]?=some y):moreW ws n (k+1)=moreW ws n k++[((wordOf y.2 n 10).isEmpty,wordOf y.2 n 10,.unk)]:=by
 obtain⟨h1,h2⟩:=List.getElem?_eq_some_iff.1 h;unfold moreW;rw[List.take_succ_eq_append_getElem h1,List.map_append,h2];rfl
def mMm(t:Mach)(rows:List (List (Int×Int))):Mach:=⟨t.ins,t.outs,false,rows.map fun r=>(false,r)⟩
theorem mMm_unk(t:Mach)(rows:List (List (Int×Int))):AV.unk (.ag [.sc (.int .i64 t.ins),.sc (.int .i64 t.outs),.sl false (rows.map rowFu) .full])=.ag (mMm t rows).cells:=by
 have h:AV.unkss (rows.map rowFu)=(rows.map fun r=>((false,r):Row)).map rowC:=by
  rw[unkss_eq,List.map_map,List.map_map];refine List.map_congr_left fun r _=>?_;have:AV.unkss (r.map edgeC)=r.map edgeC:=unkss_map edgeC (fun _=>rfl) r;simp[rowFu,rowC,AV.unks,AV.unk,this]
 simp only[AV.unk,AV.unks,h,mMm,Mach.cells]
theorem mach_unk(t:Mach):AV.unk (.ag t.cells)=.ag t.cells:=by
 have h:AV.unkss (t.rows.map rowC)=t.rows.map rowC:=by
  refine unkss_map rowC (fun x=>?_) t.rows;have:AV.unkss (x.2.map edgeC)=x.2.map edgeC:=unkss_map edgeC (fun _=>rfl) _;simp[rowC,AV.unks,AV.unk,this]
 simp only[Mach.cells,AV.unk,AV.unks,h]
set_option maxHeartbeats 8000000 in
theorem mergesSample_is{x:CM}(hx:x.Ok)(mn:Bool)(ws:List (Bool×List Int))(mc:Cp)(hws:∀y∈ws,∀e∈y.2,0≤e∧e<256)(f:Int)(hf:0≤f∧f<65536):
  PureIs prog 3 [.ag x.cells,.sl mn (ws.map wbR) mc,.sc (.int .u16 f)] (.sc (.bool true)):=by
 have hP:=CM.prp (CM.five_ok hx);have hn5:=CM.five_n hx;have hM:Mnl x.km:=hP.minN;have hlen:x.km.rows.length=nF x.five.mach:=minM_len _;have hrows:x.km.rows.length≤5:=by
  rw[hlen];have:=(firL_len (classL x.five.mach) (ordO x.five.mach x.five.mach.rows.length) x.five.mach.rows.length).1;have h2:=CM.len x.five;have:nF x.five.mach≤x.five.mach.rows.length:=this;omega
 have hii:x.km.ins=x.five.i:=rfl;obtain⟨_,_,b3,b4,_⟩:=CM.bounds (CM.five_ok hx);have hins3:x.km.ins.toNat≤3:=by rw[hii];omega
 have hsort:∀j k,j<k→k<x.km.rows.length→rk x.km j<rk x.km k:=fun j k hjk hk=>by
  rw[hlen]at hk;have h1:=hP.min_rk (k:=j) (by omega);have h2:=hP.min_rk (k:=k) hk;rw[show x.km=minM x.five.mach from rfl,h1,h2];exact(hP.fS_rk hjk hk).1
 have hord:ordO x.km x.km.rows.length=List.range x.km.rows.length:=hP.min_ord;have hk4:=kof4_is hx;generalize x.km=m at hM hlen hrows hii hins3 hsort hord hk4;have hv:=hM.p.v;have hrw:=hv.rows;have hin:=hv.ins;obtain⟨w1,w2,w3⟩:=hM.wL_ok hrows hins3;have hW0:0<(wL m).length:=List.length_pos_iff.2 w2;have hw5:=hM.w5_new (by omega) hW0;have hcan:=canonical11_is hM.p hord;have hlv:=lives15_is;refine PureIs.of1 17 [31,74,82,88] func3 ntmps3 results3 fun _=>?_;refine EvC.a ?_ (by simp only[go_sem,CM.cells]<;>rfl);refine EvC.z 0 ?_;refine EvC.k1 ?_ (h1:=by simp only[go_sem,CM.cells]<;>rfl) (c1:=.ca hk4) (h2:=by simp only[go_sem,Mach.cells]<;>rfl);apply EvC.seq;apply EvC.tr
 ·apply Tr.run
  ·simp only[go_sem,Mach.cells]<;>rfl
  ·simp
  apply Tr.cons
  ·exact .callN rfl rfl (by simp only[go_sem]<;>rfl) (by simp only[go_sem]<;>rfl) (by simp only[go_sem]<;>rfl) (by simp only[go_sem]<;>rfl) (by simp only[go_sem]<;>rfl) hw5
  apply Tr.done
  ·simp only[go_sem]<;>rfl
  ·simp
 refine EvC.seq ?_;refine EvC.a ?_;refine EvC.z 4 ?_;refine EvC.block ?_;refine EvC.loopS (σ:=Nat) (fun k=>⟨[(1,.sl mn (ws.map wbR) mc),(2,.sc (.int .u16 f)),(7,.ia m.cells),(8,.tl 0 (wL m++moreW ws m.ins k).length false),(9,.sc (.int .i64 k))],[],[(0,.arr 1 ((wL m++moreW ws m.ins k).map rwC) false)],1⟩) (fun k=>10-k) (fun k=>k≤10∧k≤ws.length) [1,2,7,8,9] 1 ?_ ?_
 ·have hz:wL m++moreW ws m.ins 0=wL m:=by simp[moreW]
  have hn:=norefs_rw (wL m);exact⟨[(10,0)],0,rfl,(by rw[hz];simp only[go_sem,Mach.cells,hn,List.length_map,Int.natCast_zero]<;>rfl),Nat.zero_le _,Nat.zero_le _⟩
 rintro k ⟨hk,hk2⟩;have hml:(moreW ws m.ins k).length≤10:=by simp[moreW];omega
 have hwbl:(ws.map wbR).length=ws.length:=List.length_map _;refine EvC.seq ?_;by_cases hend:k<ws.length∧k<10;rotate_left
 ·have hcond:decide ((k:Int)<ws.length)=false∨(decide ((k:Int)<ws.length)=true∧decide ((k:Int)<10)=false):=by
    by_cases h:k<ws.length
    ·exact .inr ⟨decide_eq_true (by omega),decide_eq_false (by omega)⟩
    ·exact .inl (decide_eq_false (by omega))
  obtain⟨V,hV⟩:∃V,V=wL m++moreW ws m.ins k:=⟨_,rfl⟩;have hVl:V.length≤610:=by rw[hV,List.length_append];omega
  have hV0:0<V.length:=by rw[hV,List.length_append];omega
  have hVo:∀x∈V,WOk m.ins.toNat x.2.1∧x.1=x.2.1.isEmpty∧x.2.1.length≤10:=fun x hx=>by
   rw[hV]at hx;rcases List.mem_append.1 hx with hx|hx
   ·exact w3 x hx
   ·obtain⟨y,_,rfl⟩:=List.mem_map.1 hx;refine⟨fun a ha=>?_,rfl,wordOf_len _ _ _⟩;have:=wordOf_in (es:=y.2) (n:=m.ins) (most:=10) (by omega) a ha;omega
  have hVw:∀x∈wL m,x∈V:=fun x hx=>by rw[hV];exact List.mem_append_left _ hx
  rw[←hV];have hVn:=norefs_rw V;have hVc:(V.map rwC).length=V.length:=List.length_map _;have hIf:inI64 f=true:=inI64_of (by omega) (by omega);have hq1:=Int.emod_nonneg f (show(V.length:Int)≠0 by omega);have hq2:=Int.emod_lt_of_pos f (show 0<(V.length:Int) by omega);obtain⟨p,hp⟩:∃p:Nat,f%(V.length:Int)=(p:Int):=⟨(f%(V.length:Int)).toNat,by omega⟩;have hpl:p<V.length:=by omega
  have hpt:((p:Nat):Int).toNat=p:=Int.toNat_natCast p;have hIq:inI64 (f%(V.length:Int))=true:=inI64_of (by omega) (by omega);have hcf:(if decide ((k:Int)<(ws.length:Int))=true then decide ((k:Int)<10)else false)=false:=by
   rcases hcond with h|⟨h,h'⟩
   ·rw[h];rfl
   ·rw[h,h'];rfl
  refine EvC.g ?_ (h:=by simp only[go_sem,hwbl]<;>rfl);refine EvC.cf ?_ (by simp only[go_sem,hcf]<;>rfl);refine EvC.exit ?_;refine EvC.frz 0 (by simp only[go_sem,hVc,hVn]<;>rfl) ?_;refine EvC.a ?_ (by simp only[go_sem,hVc,hp]<;>rfl) (by simp[hIf,hIq];try omega);have hpn:(V.length:Int).toNat=V.length:=Int.toNat_natCast _;have hD:∀y,y∈List.drop p (V.map rwC)→y.length=1:=fun y hy=>by
   obtain⟨z,_,rfl⟩:=List.mem_map.1 (List.mem_of_mem_drop hy);rfl
  have hT:∀y,y∈List.take p (V.map rwC)→y.length=1:=fun y hy=>by
   obtain⟨z,_,rfl⟩:=List.mem_map.1 (List.mem_of_mem_take hy);rfl
  refine EvC.d mixed ?_ (h:=by simp only[go_sem,hVc,hpt]<;>rfl) (hok:=by simp[room_eq];exact⟨⟨⟨fun _ _ _=>rfl,fun _ _ _=>rfl⟩,by omega⟩,⟨by omega,hD⟩,⟨⟨fun _ _ _=>rfl,fun _ _ _=>rfl⟩,by omega⟩,by omega,hT⟩);obtain⟨R,hR⟩:∃R,R=V.drop p++V.take p:=⟨_,rfl⟩;have hrot:List.drop p (V.map rwC)++List.take p (V.map rwC)=R.map rwC:=by rw[hR,List.map_append,List.map_drop,List.map_take]
  have hRl:R.length=V.length:=by rw[hR];simp;omega
  have hRc:(List.drop p (V.map rwC)).length+(List.take p (V.map rwC)).length=R.length:=by rw[List.length_drop,List.length_take,hVc,hRl];omega
  have hRn:=norefs_rw R;have hRm:(R.map rwC).length=R.length:=List.length_map _;have hRV:∀y,y∈R↔y∈V:=fun y=>by
   rw[hR,List.mem_append,Or.comm,←List.mem_append,List.take_append_drop]
  obtain⟨g1,g2,g3,g4⟩:=hM.sample hsort (W:=R) (fun y hy=>by have:=hVo y ((hRV y).1 hy);exact⟨this.1,by omega⟩) (by omega) (fun y hy=>(hRV y).2 (hVw y hy));have c1:=of7_is hv false R (fun y hy=>by have:=hVo y ((hRV y).1 hy);exact⟨this.1,this.2.1,by omega⟩) (by omega) (by omega) g1;have c2:=tree67_is g1 g2;rw[hv.insN.1]at c2;have hTV:=TV.of g3;have hRF:=treeM_rowsF m.ins.toNat m.outs (R.map (runTR m));have hti:(smpT m (R.map (runTR m))).ins=m.ins:=by show(m.ins.toNat:Int)=m.ins;exact hv.insN.1
  have hto:(smpT m (R.map (runTR m))).outs=m.outs:=rfl;rw[show treeM m.ins.toNat m.outs (R.map (runTR m))=smpT m (R.map (runTR m))from rfl]at c2 hRF;generalize smpT m (R.map (runTR m))=T at c2 hTV hRF g3 g4 hti hto;have c3:=merge20_is T hTV.short hRF;unfold mergeRes at c3;rw[nodesE_zero g3 (by intro x hx;cases hx),if_neg (by simp),g4]at c3;simp only at c3;have hsm:∀r∈(mMm T (m.rows.map (·.2))).rows,r.2.length<1000000:=fun r hr=>by
   obtain⟨q,hq,rfl⟩:=List.mem_map.1 hr;obtain⟨r',hr',rfl⟩:=List.mem_map.1 hq;have:=(hv.row r' hr').1;simp only;omega
  have c4:PureIs prog 10 [.ag [.sc (.int .i64 T.ins),.sc (.int .i64 T.outs),.sl false ((m.rows.map (·.2)).map rowFu) .full],.ag (canM m).cells] (.sc (.bool true)):=by
   refine PureIs.weak ?_;rw[List.map_cons,List.map_cons,List.map_nil,mMm_unk,mach_unk];exact sameM_is hti hto (by simp[mMm,canM,List.map_map,Function.comp]) (by simp[mMm];omega) hsm
  rw[Mach.cells]at c2 c3 c4;unfold logD at c1 c2;refine EvC.frz 19 (by simp only[go_sem,hrot,hRc,hRm,hRn]<;>rfl) ?_;refine EvC.k1 ?_ (h1:=by simp only[go_sem,Mach.cells]<;>rfl) (c1:=.ca c1);refine EvC.z 31 ?_;refine EvC.gc [7,11,12] [] 0 rfl ?_;refine EvC.k1 ?_ (c1:=.ca c2);refine EvC.z 5 ?_;refine EvC.gc [7,11,12,13,14] [] 0 rfl ?_;refine EvC.seq ?_;refine EvC.g ?_;refine EvC.cs ?_;refine EvC.k1 ?_ (c1:=.ca c3);refine EvC.z 11 ?_;apply EvC.seq;apply EvC.drw mixed
  ·apply Tr.run
   ·simp only[go_sem,Mach.cells]<;>rfl
   ·simp
   apply Tr.cons
   ·exact .cg (hcan)
   apply Tr.run
   ·simp only[go_sem,Mach.cells]<;>rfl
   ·simp
   apply Tr.cons
   ·exact .cg (c4)
   apply Tr.run
   ·simp only[go_sem,Mach.cells]<;>rfl
   ·simp
   apply Tr.cons
   ·exact .cg (hlv)
   apply Tr.done
   ·simp only[go_sem]<;>rfl
   ·simp
  ·kernel_rfl
  refine EvC.rz ?_;simp only[go_sem]
 obtain⟨hkl,hk10⟩:=hend;have d1:decide ((k:Int)<ws.length)=true:=decide_eq_true (by omega);have d2:decide ((k:Int)<10)=true:=decide_eq_true (by omega);have hkt:((k:Nat):Int).toNat=k:=Int.toNat_natCast k;have hgk:ws[k]?=some (ws[k]'hkl):=List.getElem?_eq_getElem hkl;have hyw:=hws _ (List.getElem_mem hkl);generalize ws[k]'hkl=y at hgk hyw;have hgy:(ws.map wbR)[k]?=some [.sl y.1 (y.2.map u8C) .unk]:=by rw[List.getElem?_map,hgk];rfl
 have hwd:=word60_is y.1 y.2 .unk m.ins 10 hyw (by omega) (by omega);have hms:=moreW_succ (n:=m.ins) hgk;obtain⟨V,hV⟩:∃V,V=wL m++moreW ws m.ins k:=⟨_,rfl⟩;have hVl:V.length≤610:=by rw[hV,List.length_append];omega
 have hVs:wL m++moreW ws m.ins (k+1)=V++[((wordOf y.2 m.ins 10).isEmpty,wordOf y.2 m.ins 10,.unk)]:=by rw[hms,←List.append_assoc,hV]
 have hm:V.map rwC++[[.sl (wordOf y.2 m.ins 10).isEmpty ((wordOf y.2 m.ins 10).map intC) .unk]]=(wL m++moreW ws m.ins (k+1)).map rwC:=by rw[hVs,List.map_append];rfl
 rw[←hV];obtain⟨U,hU⟩:∃U,U=wL m++moreW ws m.ins (k+1):=⟨_,rfl⟩;rw[←hU]at hVs hm;generalize wordOf y.2 m.ins 10=w at hwd hVs hm;have hVn:=norefs_rw V;have hVc:(V.map rwC).length=V.length:=List.length_map _;refine EvC.g ?_ (h:=by simp only[go_sem,d1,d2,hwbl]<;>rfl);refine EvC.cr ?_;refine EvC.seq ?_;refine EvC.block ?_;refine EvC.k1LD mixed ?_ (h1:=by simp only[go_sem,hgy,hkt,hwbl,Mach.cells]<;>rfl) (k1:=by simp;try omega) (c1:=.ca hwd) (h2:=by simp only[go_sem,hgy,hkt,hwbl,hVn,hVc,hm,Mach.cells]<;>rfl) (k2:=by simp[room_eq];try omega);refine EvC.bi ?_;have hUn:=norefs_rw U;have hUc:(U.map rwC).length=U.length:=List.length_map _;have hU':wL m++moreW ws m.ins (k+1)=U:=hU.symm;exact⟨[(0,0)],k+1,rfl,(by rw[hU'];simp only[go_sem,Mach.cells,hUn,hUc,Int.natCast_add,Int.natCast_one]<;>rfl),⟨by omega,by omega⟩,by omega⟩
open Go Go.Proofs
theorem Reads.imm_int{H:Type}{enc:TypeId×Value→H}{w:World}{α:Type}{P:Program}{t:TypeId}{k:IntKind}{f:α→AV}{Ok:α→Prop}{r:Reach}{b0:Nat}{v:Value}{d:DataW H}{ps:List MemPlace}(ht:P.underlying t=some (.int k))(h:Reads enc P w t (fun a=>[f a]) Ok)
  (hv:Value.okWide P w r b0 t v)(hw:Fits P t d)(hd:DataW.Trod enc P w 0 (fun _=>true) true t v d ps):∃a,Ok a∧Imm (Live w) w v (f a):=by
 have hc:v.cells=#[v]:=by
  simp only[Value.okWide,ht,Cell.okWide]at hv;cases v<;>simp_all[Cell.ok,Value.cells]
 obtain⟨fuel,hd⟩:=hd;obtain⟨a,h1,h2,_⟩:=h _ _ _ hw hd;rw[hc]at h2;exact⟨a,h1,h2.2 0 (by simp) (by simp)⟩
end Go.Avl
namespace Go.Proofs.YthfacnlkecjodaaGreat
open Go Go.Avl Go.Proofs Go.ChangeShapes Go.RowKit
theorem Tryz.own:ownKnob Tryz.prog.godebug=none:=by kernel_rfl
theorem Tryz.laidOut:laidOutB Tryz.prog=true:=by kernel_rfl
section
variable {H:Type} {enc:TypeId×Value→H} {w:World}
theorem u8wf{n:Int}(h:(Lit.int .u8 n).wf=true):0≤n∧n<256:=by
 simp[Lit.wf,IntKind.min,IntKind.max,IntKind.signed,IntKind.bits]at h;omega
theorem u16wf{n:Int}(h:(Lit.int .u16 n).wf=true):0≤n∧n<65536:=by
 simp[Lit.wf,IntKind.min,IntKind.max,IntKind.signed,IntKind.bits]at h;omega
theorem rd_u8:Reads enc Tryz.prog w 5 u8C (fun n=>0≤n∧n<256):=(Reads.int (by kernel_rfl)).mono fun a h=>⟨a,u8wf h,rfl⟩
theorem rd_u16':Reads enc Tryz.prog w 29 (fun n:Int=>[.sc (.int .u16 n)]) (fun n=>0≤n∧n<65536):=(Reads.int (by kernel_rfl)).mono fun a h=>⟨a,u16wf h,rfl⟩
theorem rd_u16:Reads enc Tryz.prog w 29 u16C (fun n=>0≤n∧n<65536):=(Reads.int (by kernel_rfl)).mono fun a h=>⟨a,u16wf h,rfl⟩
theorem rd_wb:Reads enc Tryz.prog w 22 wbR (fun x:Bool×List Int=>∀e∈x.2,0≤e∧e<256):=
 (Reads.slice Tryz.underlying22 rd_u8 (fun a=>by rw[show Program.cellsOf Tryz.prog 5=1 by kernel_rfl];rfl) (by rw[show Program.cellsOf Tryz.prog 5=1 by kernel_rfl];exact Nat.succ_pos _)).mono fun a h=>⟨a,h.1,rfl⟩
theorem rd_wbs:Reads enc Tryz.prog w 28 (fun x:Bool×List (Bool×List Int)=>[.sl x.1 (x.2.map wbR) .unk]) (fun x=>∀y∈x.2,∀e∈y.2,0≤e∧e<256):=
 (Reads.slice Tryz.underlying28 rd_wb (fun a=>by rw[show Program.cellsOf Tryz.prog 22=1 by kernel_rfl];rfl) (by rw[show Program.cellsOf Tryz.prog 22=1 by kernel_rfl];exact Nat.succ_pos _)).mono fun a h=>⟨a,h.1,rfl⟩
theorem rd_CM:Reads enc Tryz.prog w 25 CM.cells CM.Ok:=by
 have:=(Reads.struct (enc:=enc) (w:=w) (tot:=5) Tryz.underlying25 (by kernel_rfl) (.cons (sz:=1) rfl (by kernel_rfl) rfl rd_u8 (.cons (sz:=1) rfl (by kernel_rfl) rfl rd_u8 (.cons (sz:=1) rfl (by kernel_rfl) rfl rd_u8 (.cons (sz:=1) rfl (by kernel_rfl) rfl (Reads.slice Tryz.underlying22 rd_u8 (fun a=>by rw[show Program.cellsOf Tryz.prog 5=1 by kernel_rfl];rfl) (by rw[show Program.cellsOf Tryz.prog 5=1 by kernel_rfl];exact Nat.succ_pos _))
  (.cons (sz:=1) rfl (by kernel_rfl) rfl (Reads.slice Tryz.underlying23 rd_u16 (fun a=>by rw[show Program.cellsOf Tryz.prog 29=1 by kernel_rfl];rfl) (by rw[show Program.cellsOf Tryz.prog 29=1 by kernel_rfl];exact Nat.succ_pos _)) .nil))))))
 exact this.mono fun a h=>⟨⟨a.1,a.2.1,a.2.2.1,a.2.2.2.1.1,a.2.2.2.1.2,.unk,a.2.2.2.2.1.1,a.2.2.2.2.1.2,.unk⟩,⟨h.1.1,h.2.1.1,h.2.2.1.1,h.2.2.2.1.1,h.2.2.2.2.1.1⟩,rfl⟩
theorem rd_K:Reads enc Tryz.prog w 27 CM.cells CM.Ok:=by
 have:=(Reads.struct (enc:=enc) (w:=w) (tot:=5) Tryz.underlying27 (by kernel_rfl) (.cons (sz:=5) rfl (by kernel_rfl) rfl rd_CM .nil));exact this.mono fun a h=>⟨a.1,h.1,by simp⟩
end
end Go.Proofs.YthfacnlkecjodaaGreat
