/-
  Lemmas.
-/
import Derived.Test.YthfacnlkecjodaaGreatPart5
set_option linter.unusedSimpArgs false
set_option linter.unusedVariables false
set_option linter.unnecessarySimpa false
set_option linter.deprecated false
namespace Go.Avl
open Go Go.Proofs.Tryz
set_option maxRecDepth 10000
theorem fdiff_neg:∀(a b:List Int),fdiff a b=- fdiff b a
 | [],[]=>rfl
 | [],_::_=>rfl
 | _::_,[]=>rfl
 | x::a,y::b=>by
   rw[fdiff,fdiff];by_cases h1:x<y
   ·rw[if_pos h1,if_neg (show ¬y<x by omega),if_pos h1]
   ·by_cases h2:y<x
    ·rw[if_neg h1,if_pos h2,if_pos h2];rfl
    ·rw[if_neg h1,if_neg h2,if_neg h2,if_neg h1];exact fdiff_neg a b
theorem fdiff_trans:∀{a b c:List Int},a.length=b.length→b.length=c.length→fdiff a b<0→fdiff b c<0→fdiff a c<0
 | [],b,c,_,_,h,_=>by simp[fdiff]at h
 | x::a,[],c,h,_,_,_=>by simp at h
 | x::a,y::b,[],_,h,_,_=>by simp at h
 | x::a,y::b,z::c,h1,h2,h3,h4=>by
   rw[fdiff]at h3 h4⊢;by_cases hxy:x<y
   ·by_cases hyz:y<z
    ·rw[if_pos (by omega)];decide
    ·rw[if_neg hyz]at h4;by_cases hzy:z<y
     ·rw[if_pos hzy]at h4;omega
     ·rw[if_pos (by omega)];decide
   ·rw[if_neg hxy]at h3;by_cases hyx:y<x
    ·rw[if_pos hyx]at h3;omega
    ·rw[if_neg hyx]at h3;by_cases hyz:y<z
     ·rw[if_pos (by omega)];decide
     ·rw[if_neg hyz]at h4;by_cases hzy:z<y
      ·rw[if_pos hzy]at h4;omega
      ·rw[if_neg hzy]at h4;rw[if_neg (by omega),if_neg (by omega)];exact fdiff_trans (by simpa using h1) (by simpa using h2) h3 h4
theorem cmpW_neg(a b:List Int):cmpW a b=- cmpW b a:=by
 unfold cmpW;by_cases h1:a.length<b.length
 ·rw[if_pos h1,if_neg (show ¬b.length<a.length by omega),if_pos h1]
 ·by_cases h2:b.length<a.length
  ·rw[if_neg h1,if_pos h2,if_pos h2];rfl
  ·rw[if_neg h1,if_neg h2,if_neg h2,if_neg h1];exact fdiff_neg a b
theorem cmpW_len{a b:List Int}(h:cmpW a b<0):a.length≤b.length:=by
 unfold cmpW at h;by_cases h1:a.length<b.length
 ·omega
 ·rw[if_neg h1]at h;by_cases h2:b.length<a.length
  ·rw[if_pos h2]at h;omega
  ·omega
theorem cmpW_short{a b:List Int}(h:a.length<b.length):cmpW a b<0:=by rw[cmpW,if_pos h];decide
theorem cmpW_trans{a b c:List Int}(h1:cmpW a b<0)(h2:cmpW b c<0):cmpW a c<0:=by
 have l1:=cmpW_len h1;have l2:=cmpW_len h2;by_cases h:a.length<c.length
 ·exact cmpW_short h
 ·have e1:a.length=b.length:=by omega
  have e2:b.length=c.length:=by omega
  unfold cmpW at h1 h2⊢;rw[if_neg (by omega),if_neg (by omega)]at h1 h2⊢;exact fdiff_trans e1 e2 h1 h2
theorem cmpW_irr(a:List Int):¬cmpW a a<0:=by rw[cmpW_zero.2 rfl];decide
def SortW(l:List (List Int)):Prop:=l.Pairwise fun a b=>cmpW a b<0
theorem SortW.nodup{l:List (List Int)}(h:SortW l):l.Nodup:=List.Pairwise.imp (fun{a b} (h:cmpW a b<0) (he:a=b)=>cmpW_irr b (by rw[he]at h;exact h)) h
theorem SortW.eq:∀{l r:List (List Int)},SortW l→SortW r→(∀x,x∈l↔x∈r)→l=r
 | [],[],_,_,_=>rfl
 | [],y::r,_,_,h=>by have:=(h y).2 List.mem_cons_self;cases this
 | x::l,[],_,_,h=>by have:=(h x).1 List.mem_cons_self;cases this
 | x::l,y::r,hl,hr,h=>by
   obtain⟨hl1,hl2⟩:=List.pairwise_cons.1 hl;obtain⟨hr1,hr2⟩:=List.pairwise_cons.1 hr;have hxy:x=y:=by
    rcases List.mem_cons.1 ((h x).1 List.mem_cons_self)with h1|h1
    ·exact h1
    rcases List.mem_cons.1 ((h y).2 List.mem_cons_self)with h2|h2
    ·exact h2.symm
    exact absurd (cmpW_trans (hl1 y h2) (hr1 x h1)) (cmpW_irr x)
   subst hxy;have:l=r:=SortW.eq hl2 hr2 fun z=>by
    constructor
    ·intro hz;rcases List.mem_cons.1 ((h z).1 (List.mem_cons_of_mem _ hz))with rfl|h1
     ·exact absurd (hl1 z hz) (cmpW_irr z)
     ·exact h1
    ·intro hz;rcases List.mem_cons.1 ((h z).2 (List.mem_cons_of_mem _ hz))with rfl|h1
     ·exact absurd (hr1 z hz) (cmpW_irr z)
     ·exact h1
   rw[this]
theorem addL_true(w:List Int):∀l,addL l w true=l
 | []=>rfl
 | x::l=>by rw[addL,if_neg (by simp),Bool.true_or,addL_true w l];rfl
theorem mem_addL{w x:List Int}:∀{l:List (List Int)},x∈addL l w false↔x∈l∨x=w
 | []=>by simp[addL]
 | y::l=>by
   rw[addL];by_cases h1:cmpW w y<0
   ·rw[if_pos ⟨h1,rfl⟩,decide_eq_true (show cmpW w y≤0 by omega),Bool.false_or,addL_true];simp only[List.singleton_append,List.mem_cons];constructor
    ·rintro(h|h|h)
     ·exact .inr h
     ·exact .inl (.inl h)
     ·exact .inl (.inr h)
    ·rintro((h|h)|h)
     ·exact .inr (.inl h)
     ·exact .inr (.inr h)
     ·exact .inl h
   ·rw[if_neg (fun h=>h1 h.1),List.nil_append];by_cases h2:cmpW w y=0
    ·rw[decide_eq_true (show cmpW w y≤0 by omega),Bool.false_or,addL_true];have:=cmpW_zero.1 h2;subst this;simp only[List.mem_cons];constructor
     ·exact .inl
     ·rintro(h|h)
      ·exact h
      ·exact .inl h
    ·rw[decide_eq_false (show ¬cmpW w y≤0 by omega),Bool.false_or,List.mem_cons,mem_addL,List.mem_cons,or_assoc]
theorem addL_sort{w:List Int}:∀{l:List (List Int)},SortW l→SortW (addL l w false)
 | [],_=>by simp[addL,SortW]
 | y::l,h=>by
   obtain⟨hl1,hl2⟩:=List.pairwise_cons.1 h;rw[addL];by_cases h1:cmpW w y<0
   ·rw[if_pos ⟨h1,rfl⟩,decide_eq_true (show cmpW w y≤0 by omega),Bool.false_or,addL_true];refine List.pairwise_cons.2 ⟨fun z hz=>?_,h⟩;rcases List.mem_cons.1 hz with rfl|hz
    ·exact h1
    ·exact cmpW_trans h1 (hl1 z hz)
   ·rw[if_neg (fun h=>h1 h.1),List.nil_append];by_cases h2:cmpW w y=0
    ·rw[decide_eq_true (show cmpW w y≤0 by omega),Bool.false_or,addL_true];exact h
    ·rw[decide_eq_false (show ¬cmpW w y≤0 by omega),Bool.false_or];refine List.pairwise_cons.2 ⟨fun z hz=>?_,addL_sort hl2⟩;rcases mem_addL.1 hz with hz|rfl
     ·exact hl1 z hz
     ·have:=cmpW_neg z y;omega
theorem mem_addP{t:TR}{l:List (List Int)}{x:List Int}:∀{k:Nat},x∈addP t l k↔x∈l∨∃j,j<k∧x=t.w.take (j+1)
 | 0=>by simp[addP]
 | k+1=>by
   rw[addP_succ,mem_addL,mem_addP];constructor
   ·rintro((h|⟨j,h1,h2⟩)|h)
    ·exact .inl h
    ·exact .inr ⟨j,by omega,h2⟩
    ·exact .inr ⟨k,by omega,h⟩
   ·rintro(h|⟨j,h1,h2⟩)
    ·exact .inl (.inl h)
    ·by_cases hj:j<k
     ·exact .inl (.inr ⟨j,hj,h2⟩)
     ·obtain rfl:j=k:=by omega
      exact .inr h2
theorem addP_sort{t:TR}{l:List (List Int)}(h:SortW l):∀k,SortW (addP t l k)
 | 0=>h
 | k+1=>by rw[addP_succ];exact addL_sort (addP_sort h k)
theorem nodesL_gen:∀(L:List TR) (l:List (List Int)),SortW l→SortW (L.foldl (fun l t=>addP t l (preN t.r)) l)∧
  ∀x,x∈L.foldl (fun l t=>addP t l (preN t.r)) l↔x∈l∨∃t∈L,∃j,j<preN t.r∧x=t.w.take (j+1)
 | [],l,h=>⟨h,fun x=>by simp⟩
 | t::L,l,h=>by
   obtain⟨h1,h2⟩:=nodesL_gen L (addP t l (preN t.r)) (addP_sort h _);refine⟨h1,fun x=>?_⟩;rw[List.foldl_cons,h2,mem_addP];constructor
   ·rintro((h|⟨j,k1,k2⟩)|⟨u,k1,k2⟩)
    ·exact .inl h
    ·exact .inr ⟨t,List.mem_cons_self,j,k1,k2⟩
    ·exact .inr ⟨u,List.mem_cons_of_mem _ k1,k2⟩
   ·rintro(h|⟨u,k1,k2⟩)
    ·exact .inl (.inl h)
    ·rcases List.mem_cons.1 k1 with rfl|k1
     ·exact .inl (.inr k2)
     ·exact .inr ⟨u,k1,k2⟩
theorem nodesL_sort(L:List TR):SortW (nodesL L):=(nodesL_gen L [[]] (by simp[SortW])).1
theorem mem_nodesL{L:List TR}{x:List Int}:x∈nodesL L↔x=[]∨∃t∈L,∃j,j<preN t.r∧x=t.w.take (j+1):=by
 have:=(nodesL_gen L [[]] (by simp[SortW])).2 x;rw[List.mem_singleton]at this;exact this
structure TrVal (ins:Nat) (outs:Int) (t:TR):Prop where
 len:t.r.length=t.w.length
 sym:∀a∈t.w,0≤a∧a<ins
 form:∃(p:List Int) (m:Nat),t.r=p++List.replicate m (-1)∧∀x∈p,0≤x∧x<outs
theorem preN_form{p:List Int}{m:Nat}(h:∀x∈p,(0:Int)≤x):preN (p++List.replicate m (-1))=p.length:=by
 induction p with
 | nil=>
   cases m with
   | zero=>rfl
   | succ m=>simp[preN,List.replicate_succ]
 | cons a p ih=>
   have ha:=h a List.mem_cons_self;have:=ih fun x hx=>h x (List.mem_cons_of_mem _ hx);rw[preN]at this⊢;rw[List.cons_append,List.takeWhile_cons,if_pos (by simp;omega),List.length_cons,this,List.length_cons]
theorem TrVal.get{ins:Nat}{outs:Int}{t:TR}(h:TrVal ins outs t){k:Nat}(hk:k<t.r.length):(k<preN t.r∧0≤(t.r[k]?).getD 0∧(t.r[k]?).getD 0<outs)∨(preN t.r≤k∧(t.r[k]?).getD 0=-1):=by
 obtain⟨p,m,h1,h2⟩:=h.form;have hp:=preN_form (m:=m) fun x hx=>(h2 x hx).1;rw[h1]at hk⊢;rw[hp];by_cases h3:k<p.length
 ·refine .inl ⟨h3,?_⟩;rw[List.getElem?_append_left h3,List.getElem?_eq_getElem h3];exact h2 _ (List.getElem_mem h3)
 ·refine .inr ⟨by omega,?_⟩;rw[List.getElem?_append_right (by omega),List.getElem?_eq_getElem (by simp at hk⊢;omega)];simp
def Cons(L:List TR):Prop:=∀t∈L,∀u∈L,∀w,w≠[]→hasW t w→hasW u w→(t.r[w.length-1]?).getD 0=(u.r[w.length-1]?).getD 0
theorem lastL_mem:∀{L:List TR} {w:List Int} {n:Int},lastL L w=some n→∃t∈L,hasW t w∧n=(t.r[w.length-1]?).getD 0
 | [],_,_,h=>by cases h
 | t::L,w,n,h=>by
   rw[lastL]at h;split at h
   ·rename_i hw;exact⟨t,List.mem_cons_self,hw,(Option.some.inj h).symm⟩
   ·obtain⟨u,h1,h2⟩:=lastL_mem h;exact⟨u,List.mem_cons_of_mem _ h1,h2⟩
theorem lastL_none:∀{L:List TR} {w:List Int},lastL L w=none→∀t∈L,¬hasW t w
 | [],_,_,_,ht=>by cases ht
 | u::L,w,h,t,ht=>by
   rw[lastL]at h;split at h
   ·cases h
   ·rename_i hw;rcases List.mem_cons.1 ht with rfl|ht
    ·exact hw
    ·exact lastL_none h t ht
theorem Cons.last{L:List TR}(h:Cons L){t:TR}(ht:t∈L){w:List Int}(hw:w≠[])(hh:hasW t w):lastL L w=some ((t.r[w.length-1]?).getD 0):=by
 cases hl:lastL L w with
 | none=>exact absurd hh (lastL_none hl t ht)
 | some n=>
   obtain⟨u,h1,h2,h3⟩:=lastL_mem hl;rw[h3,h u h1 t ht w hw h2 hh]
theorem hasW_take(t:TR)(k:Nat):hasW t (t.w.take k):=by
 constructor
 ·simp;omega
 ·rw[List.length_take];by_cases h:k≤t.w.length
  ·rw[Nat.min_eq_left h]
  ·rw[Nat.min_eq_right (by omega),List.take_of_length_le (by omega),List.take_of_length_le (by omega)]
theorem edge_cases{ins:Nat}{outs:Int}{L:List TR}(hv:∀t∈L,TrVal ins outs t)(hc:Cons L){w:List Int}(hw:w≠[]):
  (w∉nodesL L∧(edgeOf L (nodesL L) w=(-1,-1)∨edgeOf L (nodesL L) w=(-1,-2)))∨
  (w∈nodesL L∧∃n,lastL L w=some n∧0≤n∧n<outs∧edgeOf L (nodesL L) w=((((nodesL L).idxOf w:Nat):Int),n)):=by
 have hw0:w.length≠0:=fun h=>hw (List.length_eq_zero_iff.1 h);by_cases hm:w∈nodesL L
 ·right;refine⟨hm,?_⟩;rcases mem_nodesL.1 hm with h|⟨t,ht,j,hj,he⟩
  ·exact absurd h hw
  have hl:=preN_le t.r;have tv:=hv t ht;have hwl:w.length=j+1:=by rw[he,List.length_take,←tv.len];omega
  have hh:hasW t w:=by rw[he];exact hasW_take t _
  have hlast:=hc.last ht hw hh;have e1:w.length-1=j:=by omega
  rw[e1]at hlast;rcases tv.get (k:=j) (by omega)with h|h
  ·refine⟨_,hlast,h.2.1,h.2.2,?_⟩;unfold edgeOf;rw[hlast];simp only;rw[if_neg (by omega),posOf,if_pos (List.idxOf_lt_length_of_mem hm)]
  ·omega
 ·left;refine⟨hm,?_⟩;unfold edgeOf;cases hl:lastL L w with
  | none=>exact .inl rfl
  | some n=>
    simp only;by_cases hn:n=-1
    ·rw[if_pos hn];exact .inr rfl
    ·obtain⟨t,ht,hh,he⟩:=lastL_mem hl;have tv:=hv t ht;have hwl:=hh.1;rcases tv.get (k:=w.length-1) (by rw[tv.len];omega)with h|h
     ·refine absurd (mem_nodesL.2 (.inr ⟨t,ht,w.length-1,h.1,?_⟩)) hm;rw[show w.length-1+1=w.length by omega];exact hh.2.symm
     ·omega
theorem nodesL_pre{ins:Nat}{outs:Int}{L:List TR}(hv:∀t∈L,TrVal ins outs t){x:List Int}{a:Int}(h:x++[a]∈nodesL L):x∈nodesL L∧0≤a∧a<ins:=by
 rcases mem_nodesL.1 h with h|⟨t,ht,j,hj,he⟩
 ·simp at h
 have tv:=hv t ht;have hl:=preN_le t.r;rw[tv.len]at hl;have hxl:x.length=j:=by
  have:=congrArg List.length he;simp at this;omega
 have hx:x=t.w.take j:=by
  have h1:=congrArg (List.take j) he;rw[List.take_left' hxl,List.take_take,Nat.min_eq_left (by omega)]at h1;exact h1
 have ha:a∈t.w:=by
  have:a∈t.w.take (j+1):=by rw[←he];simp
  exact List.mem_of_mem_take this
 refine⟨?_,tv.sym a ha⟩;by_cases hj0:j=0
 ·subst hj0;exact mem_nodesL.2 (.inl (by rw[hx];simp))
 ·exact mem_nodesL.2 (.inr ⟨t,ht,j-1,by omega,by rw[hx,show j-1+1=j by omega]⟩)
def kidsF(N:List (List Int))(x:List Int)(j:Nat):Option (List Int):=if x++[(j:Int)]∈N then some (x++[(j:Int)])else none
def kids(N:List (List Int))(ins:Nat)(x:List Int):List (List Int):=(List.range ins).filterMap (kidsF N x)
theorem mem_kids{N:List (List Int)}{ins:Nat}{x w:List Int}:w∈kids N ins x↔w∈N∧∃j:Nat,j<ins∧w=x++[(j:Int)]:=by
 unfold kids kidsF;simp only[List.mem_filterMap,List.mem_range];constructor
 ·rintro⟨j,h1,h2⟩;split at h2
  ·rename_i h3;have:=Option.some.inj h2;subst this;exact⟨h3,j,h1,rfl⟩
  ·cases h2
 ·rintro⟨h1,j,h2,rfl⟩;exact⟨j,h2,if_pos h1⟩
theorem cmpW_snoc{x:List Int}{a b:Int}(h:a<b):cmpW (x++[a]) (x++[b])<0:=by
 rw[cmpW,if_neg (by simp),if_neg (by simp)]
 induction x with
 | nil=>simp[fdiff,h]
 | cons y x ih=>rw[List.cons_append,List.cons_append,fdiff,if_neg (by omega),if_neg (by omega)];exact ih
theorem fdiff_app:∀{x y u v:List Int},x.length=y.length→fdiff x y<0→fdiff (x++u) (y++v)<0
 | [],[],_,_,_,h=>by simp[fdiff]at h
 | a::x,b::y,u,v,hl,h=>by
   rw[List.cons_append,List.cons_append,fdiff];rw[fdiff]at h;split
   ·decide
   ·rename_i h1;rw[if_neg h1]at h;split
    ·rename_i h2;rw[if_pos h2]at h;omega
    ·rename_i h2;rw[if_neg h2]at h;exact fdiff_app (by simpa using hl) h
 | [],_::_,_,_,h,_=>by simp at h
 | _::_,[],_,_,h,_=>by simp at h
theorem cmpW_app{x y:List Int}{a b:Int}(h:cmpW x y<0):cmpW (x++[a]) (y++[b])<0:=by
 have hl:=cmpW_len h;by_cases h1:x.length<y.length
 ·exact cmpW_short (by simp;omega)
 ·have e:x.length=y.length:=by omega
  unfold cmpW at h⊢;rw[if_neg (by omega),if_neg (by omega)]at h;rw[if_neg (by simp;omega),if_neg (by simp;omega)];exact fdiff_app e h
theorem kids_sort(N:List (List Int))(ins:Nat)(x:List Int):SortW (kids N ins x):=by
 unfold kids SortW;rw[List.pairwise_filterMap];refine List.Pairwise.imp ?_ (List.pairwise_lt_range (n:=ins));intro i j hij b hb b' hb';unfold kidsF at hb hb';split at hb
 ·split at hb'
  ·have e1:=Option.some.inj hb;have e2:=Option.some.inj hb';subst e1 e2;exact cmpW_snoc (by omega)
  ·cases hb'
 ·cases hb
theorem kids_all_sort{N:List (List Int)}(ins:Nat):∀{l:List (List Int)},SortW l→SortW (l.flatMap (kids N ins))
 | [],_=>by simp[SortW]
 | x::l,h=>by
   obtain⟨h1,h2⟩:=List.pairwise_cons.1 h;rw[List.flatMap_cons];refine List.pairwise_append.2 ⟨kids_sort N ins x,kids_all_sort ins h2,fun a ha b hb=>?_⟩;obtain⟨_,i,_,rfl⟩:=mem_kids.1 ha;obtain⟨y,hy,hb⟩:=List.mem_flatMap.1 hb;obtain⟨_,j,_,rfl⟩:=mem_kids.1 hb;exact cmpW_app (h1 y hy)
theorem kids_all{ins:Nat}{outs:Int}{L:List TR}(hv:∀t∈L,TrVal ins outs t):nodesL L=[]::(nodesL L).flatMap (kids (nodesL L) ins):=by
 have hs:=nodesL_sort L;refine SortW.eq hs (List.pairwise_cons.2 ⟨fun w hw=>?_,kids_all_sort ins hs⟩) fun w=>?_
 ·obtain⟨y,hy,hb⟩:=List.mem_flatMap.1 hw;obtain⟨_,j,_,rfl⟩:=mem_kids.1 hb;exact cmpW_short (by simp)
 ·rw[List.mem_cons,List.mem_flatMap];constructor
  ·intro h;rcases List.eq_nil_or_concat w with h0|⟨x,a,h0⟩
   ·exact .inl h0
   ·rw[List.concat_eq_append]at h0;subst h0;have:=nodesL_pre hv h;refine .inr ⟨x,this.1,mem_kids.2 ⟨h,a.toNat,by omega,by rw[Int.toNat_of_nonneg this.2.1]⟩⟩
  ·rintro(rfl|⟨y,hy,hb⟩)
   ·exact mem_nodesL.2 (.inl rfl)
   ·exact(mem_kids.1 hb).1
theorem idxOf_drop{N:List (List Int)}(hn:N.Nodup){n:Nat}{w:List Int}{r:List (List Int)}(h:N.drop n=w::r):N.idxOf w=n∧n<N.length:=by
 have hlt:n<N.length:=by
  refine Nat.lt_of_not_le fun h1=>?_;rw[List.drop_eq_nil_of_le h1]at h;cases h
 rw[List.drop_eq_getElem_cons hlt]at h;have e:=(List.cons.inj h).1;subst e;exact⟨hn.idxOf_getElem n hlt,hlt⟩
theorem rowT_kids{ins:Nat}{outs:Int}{L:List TR}(hv:∀t∈L,TrVal ins outs t)(hc:Cons L)(x:List Int):∀(js:List Nat) (n:Nat) (r:List (List Int)),
  (nodesL L).drop n=js.filterMap (kidsF (nodesL L) x)++r→rowT outs (js.map fun(j:Nat)=>edgeOf L (nodesL L) (x++[(j:Int)])) n=some ((n+(js.filterMap (kidsF (nodesL L) x)).length:Nat):Int)
 | [],n,r,h=>by simp[rowT]
 | j::js,n,r,h=>by
   rw[List.map_cons,rowT];rcases edge_cases hv hc (w:=x++[(j:Int)]) (by simp)with⟨h1,h2⟩|⟨h1,m,h2,h3,h4,h5⟩
   ·have hk:kidsF (nodesL L) x j=none:=if_neg h1;rw[List.filterMap_cons_none hk]at h⊢;rw[if_pos (by rcases h2 with h2|h2<;>rw[h2]<;>simp)];exact rowT_kids hv hc x js n r h
   ·have hk:kidsF (nodesL L) x j=some (x++[(j:Int)]):=if_pos h1;rw[List.filterMap_cons_some hk]at h⊢;rw[List.cons_append]at h;obtain⟨e1,e2⟩:=idxOf_drop (nodesL_sort L).nodup h;rw[h5,e1,if_neg (by simp only;omega),if_pos (show((n:Nat):Int)=((n:Nat):Int)∧0≤m∧m<outs from⟨rfl,h3,h4⟩)];have:=rowT_kids hv hc x js (n+1) r (by rw[←List.drop_drop,h];rfl);rw[show((n:Nat):Int)+1=((n+1:Nat):Int) by omega,this];simp only[List.length_cons];congr 2;omega
theorem rowsT_kids{ins:Nat}{outs:Int}{L:List TR}(hv:∀t∈L,TrVal ins outs t)(hc:Cons L):∀(B A:List (List Int)) (n:Nat),nodesL L=A++B→(nodesL L).drop n=B.flatMap (kids (nodesL L) ins)→
  n=1+(A.flatMap (kids (nodesL L) ins)).length→rowsT ins outs (B.map fun x=>(false,treeRow L (nodesL L) x ins)) (A.length:Nat) n=some ((nodesL L).length:Int)
 | [],A,n,h1,h2,h3=>by
   rw[List.map_nil,rowsT];have h4:=congrArg List.length (kids_all hv);rw[List.append_nil]at h1;rw[List.length_cons]at h4;rw[←h1]at h3;rw[h4,h3];congr 2;omega
 | x::B,A,n,h1,h2,h3=>by
   have hs:=nodesL_sort L;have hlt:¬((n:Nat):Int)≤(A.length:Nat):=fun hle=>by
    have hle:n≤A.length:=by omega
    have hnl:n<(nodesL L).length:=by rw[h1];simp;omega
    have hm:(nodesL L)[n]∈(x::B).flatMap (kids (nodesL L) ins):=by rw[←h2,List.drop_eq_getElem_cons hnl];exact List.mem_cons_self
    obtain⟨y,hy,hb⟩:=List.mem_flatMap.1 hm;obtain⟨_,j,_,he⟩:=mem_kids.1 hb;have hy2:y∈(nodesL L).drop A.length:=by
     have:(nodesL L).drop A.length=x::B:=by
      conv=>lhs;rw[h1]
      rw[List.drop_left]
     rw[this];exact hy
    obtain⟨i,hi,hiy⟩:=List.mem_iff_getElem.1 hy2;rw[List.getElem_drop]at hiy;have hyl:cmpW y ((nodesL L)[n])<0:=cmpW_short (by rw[he];simp);have hle2:n≤A.length+i:=by omega
    have hil:A.length+i<(nodesL L).length:=by simp at hi;omega
    rcases Nat.lt_or_ge n (A.length+i)with hlt|hge
    ·have:=List.pairwise_iff_getElem.1 hs n (A.length+i) hnl hil hlt;rw[hiy]at this;exact cmpW_irr _ (cmpW_trans hyl this)
    ·have e:A.length+i=n:=by omega
     subst e;rw[hiy]at hyl;exact cmpW_irr _ hyl
   rw[List.map_cons,rowsT];have hrl:((treeRow L (nodesL L) x ins).length:Int)=ins:=by simp[treeRow]
   rw[List.flatMap_cons]at h2;have hr:=rowT_kids hv hc x (List.range ins) n _ h2;rw[if_neg (by simp only;omega)];simp only;rw[treeRow,hr];simp only;have:=rowsT_kids hv hc B (A++[x]) (n+(kids (nodesL L) ins x).length) (by rw[h1];simp) (by rw[←List.drop_drop,h2];simp) (by rw[List.flatMap_append,List.length_append,h3];simp;omega);rw[List.length_append,List.length_singleton]at this;exact this
theorem checkT_tree{ins:Nat}{outs:Int}{L:List TR}(hv:∀t∈L,TrVal ins outs t)(hc:Cons L)(hi:1≤ins∧ins≤16)(ho:1≤outs∧outs≤16)(hn:(nodesL L).length≤65537):checkT (treeM ins outs L)=0:=by
 have hL:1≤(nodesL L).length:=List.length_pos_of_mem (mem_nodesL.2 (.inl rfl));unfold checkT treeM;simp only[List.length_map];rw[if_neg (by omega),if_neg (by omega)]
 have:=rowsT_kids hv hc (nodesL L) [] 1 rfl (by conv=>lhs;rw[kids_all hv]
                                                rfl) rfl
 rw[List.length_nil]at this;rw[show((0:Nat):Int)=0 from rfl,show((1:Nat):Int)=1 from rfl]at this;rw[this];simp
def FormR(outs:Int)(r:List Int):Prop:=∃(p:List Int) (m:Nat),r=p++List.replicate m (-1)∧∀x∈p,0≤x∧x<outs
theorem FormR.take{outs:Int}{r:List Int}(h:FormR outs r)(k:Nat):FormR outs (r.take k):=by
 obtain⟨p,m,rfl,h2⟩:=h;rw[List.take_append,List.take_replicate];exact⟨p.take k,_,rfl,fun x hx=>h2 x (List.mem_of_mem_take hx)⟩
def LG.tree(g:LG):Mach:=treeM g.m.mach.ins.toNat g.m.mach.outs (okLog g.log)
def natC(n:Nat):List AV:=[.sc (.int .i64 (n:Int))]
@[go_sem] theorem norefs_natC(l:List Nat):(l.map natC).all AV.norefs=true:=by simp[List.all_eq_true,natC,AV.norefs,AV.noref]
def pU(up:List Nat)(n:Nat):Nat:=(up[n]?).getD n
def UpOk(up:List Nat):Prop:=∀n,pU up n≤n
def rootF(up:List Nat):Nat→Nat→Nat
 | 0,n=>n
 | f+1,n=>if pU up n=n then n else rootF up f (pU up n)
def rootU(up:List Nat)(n:Nat):Nat:=rootF up n n
theorem rootF_more{up:List Nat}(h:UpOk up):∀(f g n:Nat),n≤f→n≤g→rootF up f n=rootF up g n
 | 0,g,n,h1,_=>by
   obtain rfl:n=0:=by omega
   cases g with
   | zero=>rfl
   | succ g=>rw[rootF,rootF,if_pos (by have:=h 0;omega)]
 | f+1,0,n,_,h2=>by
   obtain rfl:n=0:=by omega
   rw[rootF,rootF,if_pos (by have:=h 0;omega)]
 | f+1,g+1,n,h1,h2=>by
   rw[rootF,rootF];split
   ·rfl
   ·rename_i hn;have:=h n;exact rootF_more h f g _ (by omega) (by omega)
theorem rootU_eq{up:List Nat}(h:UpOk up)(n:Nat):rootU up n=if pU up n=n then n else rootU up (pU up n):=by
 rw[rootU,rootF_more h n (n+1) n (Nat.le_refl _) (by omega),rootF];split
 ·rfl
 ·rename_i hn;have:=h n;exact rootF_more h _ _ _ (by omega) (by omega)
theorem rootU_fix{up:List Nat}(h:UpOk up){n:Nat}(hn:pU up n=n):rootU up n=n:=by rw[rootU_eq h,if_pos hn]
theorem rootU_up{up:List Nat}(h:UpOk up)(n:Nat):rootU up (pU up n)=rootU up n:=by
 rw[rootU_eq h n];split
 ·rename_i hn;rw[hn,rootU_fix h hn]
 ·rfl
theorem rootU_le{up:List Nat}(h:UpOk up):∀n,rootU up n≤n:=by
 intro n
 induction n using Nat.strongRecOn with
 | _ n ih=>
   rw[rootU_eq h];split
   ·exact Nat.le_refl _
   ·rename_i hn;have h1:=h n;have:=ih (pU up n) (by omega);omega
theorem pU_root{up:List Nat}(h:UpOk up):∀n,pU up (rootU up n)=rootU up n:=by
 intro n
 induction n using Nat.strongRecOn with
 | _ n ih=>
   rw[rootU_eq h];split
   ·rename_i hn;exact hn
   ·rename_i hn;have h1:=h n;exact ih (pU up n) (by omega)
theorem rootU_root{up:List Nat}(h:UpOk up)(n:Nat):rootU up (rootU up n)=rootU up n:=rootU_fix h (pU_root h n)
theorem pU_set{up:List Nat}{n g:Nat}(hn:n<up.length)(k:Nat):pU (up.set n g) k=if k=n then g else pU up k:=by
 unfold pU;rw[List.getElem?_set];by_cases h:n=k
 ·subst h;simp[hn]
 ·rw[if_neg h,if_neg (Ne.symm h)]
theorem pU_get{up:List Nat}{n:Nat}(hn:n<up.length):up[n]?=some (pU up n):=by
 rw[pU,List.getElem?_eq_getElem hn];rfl
theorem up_set{up:List Nat}(h:UpOk up){n g:Nat}(hn:n<up.length)(hg:g<n)(hr:rootU up g=rootU up n):UpOk (up.set n g)∧∀k,rootU (up.set n g) k=rootU up k:=by
 have h':UpOk (up.set n g):=fun k=>by
  rw[pU_set hn];split
  ·omega
  ·exact h k
 refine⟨h',fun k=>?_⟩
 induction k using Nat.strongRecOn with
 | _ k ih=>
   rw[rootU_eq h',pU_set hn];by_cases hk:k=n
   ·subst hk;rw[if_pos rfl,if_neg (by omega),ih g hg,hr]
   ·rw[if_neg hk,rootU_eq h k];split
    ·rfl
    ·rename_i hp;have:=h k;exact ih _ (by omega)
def leastF:Nat→List Nat→Nat→List Nat×Nat
 | 0,up,n=>(up,n)
 | f+1,up,n=>if pU up n=n then(up,n)else leastF f (up.set n (pU up (pU up n))) (pU up (pU up n))
theorem leastF_ok:∀(f:Nat) {up:List Nat} (n:Nat),UpOk up→n<up.length→n≤f→
  (leastF f up n).2=rootU up n∧UpOk (leastF f up n).1∧(leastF f up n).1.length=up.length∧∀k,rootU (leastF f up n).1 k=rootU up k
 | 0,up,n,h,hn,hf=>by
   obtain rfl:n=0:=by omega
   refine⟨?_,h,rfl,fun _=>rfl⟩;show 0=rootU up 0;exact(rootU_fix h (by have:=h 0;omega)).symm
 | f+1,up,n,h,hn,hf=>by
   rw[leastF];split
   ·rename_i hp;exact⟨(rootU_fix h hp).symm,h,rfl,fun _=>rfl⟩
   ·rename_i hp;have h1:=h n;have h2:=h (pU up n);have hr:rootU up (pU up (pU up n))=rootU up n:=by rw[rootU_up h,rootU_up h]
    obtain⟨k1,k2⟩:=up_set h hn (g:=pU up (pU up n)) (by omega) hr;obtain⟨j1,j2,j3,j4⟩:=leastF_ok f (up:=up.set n (pU up (pU up n))) (pU up (pU up n)) k1 (by simp;omega) (by omega);exact⟨by rw[j1,k2,hr],j2,by rw[j3];simp,fun k=>by rw[j4,k2]⟩
def halved(up:List Nat)(n:Nat):List Nat:=(leastF n up n).1
theorem halved_ok{up:List Nat}(h:UpOk up){n:Nat}(hn:n<up.length):(leastF n up n).2=rootU up n∧UpOk (halved up n)∧(halved up n).length=up.length∧∀k,rootU (halved up n) k=rootU up k:=leastF_ok n n h hn (Nat.le_refl _)
set_option maxHeartbeats 4000000 in
theorem least44_is{up:List Nat}(h:UpOk up)(hl:up.length≤70000){n:Nat}(hn:n<up.length):WrIs prog 68 up.length (up.map natC) (.sc (.int .i64 n)) (.sc (.int .i64 (rootU up n:Nat))) ((halved up n).map natC):=by
 intro v;have key:=halved_ok h hn;have hfin:∀M':Mem,M'=prM up.length ((leastF n up n).1.map natC) (.sc v)→M'=prM up.length ((halved up n).map natC) (.sc v):=fun _ h=>h;refine BodyIs.of (nv:=2) (hid:=[4,13]) func68 rfl (by kernel_rfl) (by simp[ntmps68]) fun h0=>?_;rw[ntmps68,results68];unfold prM;refine EvC.a ?_;refine EvC.seq ?_;refine EvC.block ?_;refine EvC.loopS (σ:=Nat×List Nat×Nat) (fun g=>⟨[(0,.rf 0 0),(1,.sc (.int .i64 (g.2.2:Nat)))],[],[(0,.cells [.tv 1 up.length 0 up.length .unk,.sc v]),(1,.arr 1 (g.2.1.map natC) false)],2⟩) (fun g=>g.1)
  (fun g=>g.2.2≤g.1∧UpOk g.2.1∧g.2.1.length=up.length∧g.2.2<up.length∧leastF g.1 g.2.1 g.2.2=leastF n up n) [0,1] 2 ?_ ?_
 ·exact⟨[(0,0),(1,1)],(n,up,n),rfl,(by simp only[go_sem]<;>rfl),Nat.le_refl _,h,rfl,hn,rfl⟩
 rintro⟨f,u,m⟩ ⟨h1,h2,h3,h4,h5⟩;simp only at h1 h2 h3 h4 h5⊢;have hm:(u.map natC)[m]?=some (natC (pU u m)):=by rw[List.getElem?_map,pU_get (by omega)];rfl
 have hmin:(m:Int).toNat=m:=Int.toNat_natCast m;have hul:(u.map natC).length=up.length:=by rw[List.length_map,h3]
 refine EvC.seq ?_;refine EvC.a ?_ (by simp only[go_sem,hm,natC,hmin,hul]<;>rfl) (by simp;omega);refine EvC.cd (fun hc=>?_) (fun hc=>?_);rotate_left
 ·
  have hc:pU u m=m:=by have:((pU u m:Nat):Int)=m:=by simpa using hc
                       omega
  refine EvC.exit ?_;have hlf:leastF f u m=(u,m):=by
   cases f with
   | zero=>rfl
   | succ f=>rw[leastF,if_pos hc]
  rw[hlf]at h5;rw[←h5]at key hfin;rw[←key.1];refine EvC.a ?_;refine EvC.ret ⟨.inl rfl,_,(by simp only[go_sem]<;>rfl),?_⟩;exact⟨rfl,hfin _ rfl⟩
 have hc:pU u m≠m:=by have:¬((pU u m:Nat):Int)=m:=by simpa using hc
                      omega
 refine EvC.skip ?_;refine EvC.block ?_;have hpm:=h2 m;have hpp:=h2 (pU u m);have hg:(u.map natC)[pU u m]?=some (natC (pU u (pU u m))):=by rw[List.getElem?_map,pU_get (by omega)];rfl
 have hgin:((pU u m:Nat):Int).toNat=pU u m:=Int.toNat_natCast _;obtain⟨q,hqd⟩:∃q,q=pU u m:=⟨_,rfl⟩;rw[←hqd]at hg hgin hm hpm hpp hc;obtain⟨g,hgd⟩:∃g,g=pU u q:=⟨_,rfl⟩;rw[←hgd]at hg hpp;have hset:(u.map natC).set m [.sc (.int .i64 (g:Int))]=(u.set m g).map natC:=by rw[List.map_set];rfl
 have hnew:((u.set m g).map natC)[m]?=some (natC g):=by rw[List.getElem?_map,List.getElem?_set_self (by omega)];rfl
 have hul2:((u.set m g).map natC).length=up.length:=by simp[h3]
 refine EvC.d mixed ?_ (h:=by simp only[go_sem,hm,hg,natC,hmin,hgin,hul]<;>rfl) (hok:=by simp;omega);rw[hset];refine EvC.b ?_ (by simp only[go_sem,hnew,natC,hmin,hul2]<;>rfl) (by simp;omega);obtain⟨f,rfl⟩:∃k,f=k+1:=⟨f-1,by omega⟩;rw[leastF,if_neg (by rw[←hqd];exact hc),←hqd,←hgd]at h5;have hroot:rootU u g=rootU u m:=by rw[hgd,rootU_up h2,hqd,rootU_up h2]
 exact⟨[(0,0),(1,1)],(f,u.set m g,g),rfl,(by simp only[go_sem]<;>rfl),⟨by simp only;omega,(up_set h2 (by omega) (by omega) hroot).1,by simp[h3],by simp only;omega,h5⟩,by simp⟩
theorem norefs_edgeC(x:Int×Int):AV.norefs (edgeC x)=true:=rfl
theorem clone68_new(es:List (Int×Int))(c:Cp)(hl:es.length<1000000)(h0:es.length≠0):PureNew prog 66 [.sl false (es.map edgeC) c] 2 (es.map edgeC):=by
 refine PureNew.of (nv:=1) (hid:=[2,4]) func66 rfl (by kernel_rfl) (by simp[ntmps66]) fun _=>?_;rw[ntmps66,results66];refine EvC.a ?_;refine EvC.seq ?_;refine EvC.a ?_;refine EvC.cs ?_;have hr1:room es.length 16=true:=by simp only[room_eq,decide_eq_true_eq];omega
 have hr3:∀a b:Int,(a,b)∈es→(edgeC (a,b)).length=2:=fun _ _ _=>rfl;refine EvC.a ?_ (by simp only[go_sem,List.length_map]<;>rfl) (by simp[hr1];try exact hr3);refine EvC.ret ⟨.inl rfl,_,5,(by simp only[go_sem,List.length_map]<;>rfl),.inl ?_,?_,by simpa using h0,norefs_edges es⟩
 ·simp only[List.length_map]
 ·rfl
theorem row_gcells{N:Nat}{r:List (Int×Int)}{W:Nat→Int×Int}(hN:r.length=N)(hW:∀i,i<N→r[i]?=some (W i)):r.map edgeC=gcells edgeC W N:=by
 refine List.ext_getElem (by simp[gcells,hN]) fun i k1 k2=>?_;simp only[gcells,List.getElem_map,List.getElem_range];have:=hW i (by simp at k1;omega);rw[List.getElem?_eq_getElem (by simpa using k1)]at this;rw[Option.some.inj this]
def upPart(n s:Nat):List Nat:=List.range s++List.replicate (n-s) 0
theorem upPart_len{n s:Nat}(h:s≤n):(upPart n s).length=n:=by simp[upPart];omega
theorem upPart_zero(n:Nat):(upPart n 0).map natC=List.replicate n [.sc (.int .i64 0)]:=by simp[upPart,natC]
theorem upPart_all(n:Nat):upPart n n=List.range n:=by simp[upPart]
theorem upPart_set{n s:Nat}(h:s<n):((upPart n s).map natC).set s [.sc (.int .i64 (s:Int))]=(upPart n (s+1)).map natC:=by
 obtain⟨d,hd⟩:∃d,n-s=d+1:=⟨n-s-1,by omega⟩;have hd':n-(s+1)=d:=by omega
 rw[upPart,upPart,hd,hd',List.replicate_succ,List.map_append,List.set_append_right _ _ (by simp),List.length_map,List.length_range,Nat.sub_self,List.map_cons,List.set_cons_zero,List.range_succ,List.map_append,List.map_append];simp[natC]
def foldM(N I:Nat)(up:List Nat)(W:Nat→Nat→Int×Int):Mem:=
 (1000200,.cells [.tv 1000201 N 0 N .unk,.tv 1000202 N 0 N .unk])::(1000201,.arr 1 (up.map natC) false)::(1000202,.arr 1 (ocell I N) false)::otab 2 edgeC W N I
set_option maxHeartbeats 4000000 in
theorem alone42_body{t:Mach}(v:TV t)(hf:∀r∈t.rows,r.1=false){I:Nat}(hI:t.ins=(I:Int)){R:AV→Mem→Nat→Prop}
  (hR:R (.rf 1000200 0) (foldM t.rows.length I (List.range t.rows.length) (eT t)) 3000000):BodyIs prog 33 [.ag t.cells] [] 1000100 R:=by
 have hrw:=v.rows;have hin:=v.ins;obtain⟨n,hn⟩:∃n,n=t.rows.length:=⟨_,rfl⟩;rw[←hn]at hrw hR;refine BodyIs.of (nv:=6) (hid:=[17,18,19,20,9,13]) func33 rfl (by kernel_rfl) (by simp[ntmps33]) fun h0=>?_;rw[ntmps33,results33];refine EvC.a ?_ (by simp only[go_sem,Mach.cells]<;>rfl);refine EvC.z 1000100 ?_;apply EvC.seq;apply EvC.drwA mixed
 ·apply Tr.done
  ·simp only[go_sem,List.length_map,←hn,List.length_replicate]<;>rfl
  ·simp[room_eq];omega
 ·kernel_rfl
 refine EvC.seq ?_;refine EvC.a ?_ (by simp only[go_sem,List.length_map,←hn]<;>rfl);refine EvC.block ?_;refine EvC.loopS (σ:=Nat) (fun s=>⟨[(3,.rf 1000200 0),(17,.sl t.nl (t.rows.map rowC) .unk),(18,.sc (.int .i64 n)),(19,.sc (.int .i64 s))],[],
  (1000200,.cells [.tv 1000201 n 0 n (.val n),.tv 1000202 n 0 n (.val n)])::(1000201,.arr 1 ((upPart n s).map natC) false)::(1000202,.arr 1 (opart I n s) false)::otab 2 edgeC (eT t) s I,3000000⟩) (fun s=>n-s) (fun s=>s≤n) [3,17,18,19] 3000000 ?_ ?_
 ·have hz1:(List.replicate n [AV.sc (.int .i64 0)]).all AV.norefs=true:=by simp[List.all_eq_true,AV.norefs,AV.noref]
  have hz2:(List.replicate n [AV.sl true [] .zer]).all AV.norefs=true:=by simp[List.all_eq_true,AV.norefs,AV.noref]
  exact⟨[(1000111,1000200),(1000105,1000201),(1000109,1000202)],0,rfl,(by simp only[go_sem,Mach.cells,upPart_zero,opart_zero,otab_zero,Int.natCast_zero,hz1,hz2,if_true]<;>rfl),Nat.zero_le _⟩
 intro s hs;have hul:=upPart_len hs;have hul2:((upPart n s).map natC).length=n:=by rw[List.length_map,hul]
 have htl:=opart_len (m:=I) hs;refine EvC.a ?_;refine EvC.seq ?_;refine EvC.cd (fun hc=>?_) (fun hc=>?_);rotate_left
 ·
  obtain rfl:s=n:=by have:¬s<n:=by simpa using hc
                     omega
  refine EvC.exit ?_;rw[upPart_all,opart_all];have hn1:s≤1000000:=by omega
  have hlo:∀k,k<s→rlook (osegK [(1000200,1000200),(1000201,1000201),(1000202,1000202)] s []) (2000000+k)=some (2000000+k):=fun k hk=>rlook_osegK_lo hk hn1 (A:=[(1000200,1000200),(1000201,1000201),(1000202,1000202)]) rfl;refine EvC.a ?_;refine EvC.unkC ?_;have hs00:s≠0:=by omega
  refine EvC.gcE (st2:=⟨[(2,.rf 1000200 0)],[],foldM s I (List.range s) (eT t),3000000⟩) [2] (osegK [(1000200,1000200),(1000201,1000201),(1000202,1000202)] s []) 3000000 (osegK_ok (A:=[(1000200,1000200),(1000201,1000201),(1000202,1000202)]) rfl rfl rfl hn1 (by omega)) ?_ ?_
  ·unfold foldM;simp only[go_sem,hs00,memMap_otab,ne_eq,not_false_eq_true,if_true,rlook_osegK_hi hn1,List.cons_append,List.nil_append,List.append_nil,renMem_oK_cons hn1,otab_ren 2 norefs_edgeC,ocell_ren hlo,ite_self]<;>rfl
  refine EvC.ret ⟨.inl rfl,_,(by simp only[go_sem]<;>rfl),?_⟩;exact hR
 have hsn:s<n:=by simpa using hc
 clear hc;refine EvC.skip ?_;refine EvC.seq ?_;refine EvC.block ?_;have hsin:(s:Int).toNat=s:=Int.toNat_natCast s;have hx:t.rows[s]?=some (t.rows[s]'(by omega)):=List.getElem?_eq_getElem (by omega);have hxl:=v.row s _ hx;have hxf:=hf _ (List.getElem_mem (show s<t.rows.length by omega));have hWx:∀i,i<I→(t.rows[s]'(by omega)).2[i]?=some (eT t s i):=fun i hi=>by
  rw[eT,hx];simp only[Option.map_some,Option.getD_some];rw[List.getElem?_eq_getElem (by omega)];rfl
 generalize t.rows[s]'(by omega)=x at hx hxl hWx hxf;obtain⟨xn,x⟩:=x;simp only at hxl hWx hxf;subst hxf;have hxI:x.length=I:=by omega
 have hcl:=clone68_new x .unk (by omega) (by omega);have hrow:=row_gcells hxI hWx;refine EvC.a ?_ (by simp only[go_sem,hx,rowC,hsin,List.length_map,←hn]<;>rfl);have hup0:(upPart n s)[s]?=some 0:=by rw[upPart,List.getElem?_append_right (by simp),List.length_range,Nat.sub_self,List.getElem?_replicate,if_pos (by omega)]
 refine EvC.a ?_ (by simp only[go_sem,hul2,hsin,hup0,natC]<;>rfl) (by simp;omega);rw[upPart_set hsn];have hti:=opart_get (m:=I) hsn;apply EvC.drwA mixed
 ·apply Tr.run
  ·simp only[go_sem]<;>rfl
  ·simp
  apply Tr.cons
  ·exact .callN rfl rfl (by simp only[go_sem]<;>rfl) (by simp only[go_sem]<;>rfl) (by simp only[go_sem]<;>rfl) (by simp only[go_sem]<;>rfl) (by simp only[go_sem]<;>rfl) hcl
  apply Tr.done
  ·simp only[go_sem,htl,hsin,hti,List.length_map,hxI,mlook_mset]<;>rfl
  ·simp[htl];omega
 ·kernel_rfl
 rw[hrow];refine EvC.bi ?_;have hn1:s≤1000000:=by omega
 refine⟨osegK [(1000200,1000200),(1000201,1000201),(1000202,1000202)] s [(3000020,2000000+s)],s+1,osegK_ok1 (A:=[(1000200,1000200),(1000201,1000201),(1000202,1000202)]) rfl rfl rfl rfl rfl (by decide) (by decide) (by omega) (by omega),?_,by omega,by omega⟩;have hlo:∀k,k<s→rlook (osegK [(1000200,1000200),(1000201,1000201),(1000202,1000202)] s [(3000020,2000000+s)]) (2000000+k)=some (2000000+k):=fun k hk=>rlook_osegK_lo hk hn1 (A:=[(1000200,1000200),(1000201,1000201),(1000202,1000202)]) rfl;have hhi:rlook (osegK [(1000200,1000200),(1000201,1000201),(1000202,1000202)] s [(3000020,2000000+s)]) 3000020=some (2000000+s):=rlook_osegK_hi hn1 _ _ _ rfl;have hpr:=opart_ren (m:=I) hsn hhi hlo;have hpn:=opart_norefs (m:=I) (k:=3000020) hsn;simp only[go_sem,rlook_osegK_hi hn1,List.cons_append,List.nil_append,renMem_oK_cons hn1,renMem_oK_mset hn1,mlook_mset,gcells_norefs norefs_edgeC,otab_ren 2 norefs_edgeC,otab_snoc,hpr,hpn,Int.natCast_add,Int.natCast_one]<;>rfl
def mergeE(x y:Int×Int):Int×Int:=if knownE x=true then x else y
def mrgW(W:Nat→Nat→Int×Int)(p q i:Nat):Nat→Nat→Int×Int:=fun a k=>if a=p∧k<i then mergeE (W p k) (W q k)else W a k
def pushP(W:Nat→Nat→Int×Int)(p q k:Nat):Option (Int×Int):=if bothE (W p k) (W q k)=true then some ((W p k).1,(W q k).1)else none
def pushN(W:Nat→Nat→Int×Int)(p q i:Nat):List (Int×Int):=(List.range i).filterMap (pushP W p q)
theorem mrgW_zero(W:Nat→Nat→Int×Int)(p q:Nat):mrgW W p q 0=W:=by funext a k;simp[mrgW]
theorem mrgW_succ(W:Nat→Nat→Int×Int)(p q i:Nat):mrgW W p q (i+1)=upd2 (mrgW W p q i) p i (mergeE (W p i) (W q i)):=by
 funext a k;simp only[mrgW,upd2];by_cases h:a=p∧k=i
 ·obtain⟨rfl,rfl⟩:=h;simp
 ·rw[if_neg h];by_cases h2:a=p∧k<i
  ·rw[if_pos h2,if_pos ⟨h2.1,by omega⟩]
  ·rw[if_neg h2,if_neg (fun h3=>h2 ⟨h3.1,by have:k≠i:=fun e=>h ⟨h3.1,e⟩;omega⟩)]
theorem mrgW_same{W:Nat→Nat→Int×Int}{p q i:Nat}(h:knownE (W p i)=true):mrgW W p q (i+1)=mrgW W p q i:=by
 rw[mrgW_succ,mergeE,if_pos h];funext a k;unfold upd2 mrgW;by_cases e:a=p∧k=i
 ·obtain⟨rfl,rfl⟩:=e;simp
 ·rw[if_neg e]
theorem mrgW_p(W:Nat→Nat→Int×Int)(p q i:Nat):mrgW W p q i p i=W p i:=by simp[mrgW]
theorem mrgW_q{W:Nat→Nat→Int×Int}{p q:Nat}(h:q≠p)(i:Nat):mrgW W p q i q i=W q i:=by simp[mrgW,h]
theorem pushN_succ(W:Nat→Nat→Int×Int)(p q i:Nat):pushN W p q (i+1)=pushN W p q i++(if bothE (W p i) (W q i)=true then [((W p i).1,(W q i).1)]else []):=by
 rw[pushN,List.range_succ,List.filterMap_append,←pushN];congr 1;rw[List.filterMap_cons,List.filterMap_nil,pushP];split<;>rename_i h<;>split at h<;>first|(cases h;done)|skip
 ·rename_i h2;rw[if_neg h2]
 ·rename_i h2;rw[if_pos h2];cases h;rfl
theorem pushN_len(W:Nat→Nat→Int×Int)(p q i:Nat):(pushN W p q i).length≤i:=by
 have:=List.length_filterMap_le (pushP W p q) (List.range i);rw[List.length_range]at this;exact this
theorem both_known{x y:Int×Int}(h:bothE x y=true):knownE x=true:=by
 unfold bothE at h;unfold knownE;simp at h⊢;exact .inl h.1
def joinM(N I:Nat)(up:List Nat)(W:Nat→Nat→Int×Int)(n k:Nat)(E:List (Int×Int)):Mem:=
 (1000200,.cells [.tv 1000201 N 0 N .unk,.tv 1000202 N 0 N .unk])::(1000201,.arr 1 (up.map natC) false)::(1000202,.arr 1 (ocell I N) false)::
 (3000000,.cells [.rf 1000200 0])::(3000001,.cells [.tv 3000002 n 0 k .rest])::(3000002,.arr 2 (E.map edgeC) false)::otab 2 edgeC W N I
def joinK(N:Nat):List (Nat×Nat):=osegK [(1000200,1000200),(1000201,1000201),(1000202,1000202),(3000000,3000000),(3000001,3000001),(3000002,3000002)] N []
theorem bothE_if(x1 x2 y1 y2:Int):(if(!decide (x1=-1))=true then !decide (y1=-1)else false)=bothE (x1,x2) (y1,y2):=by
 unfold bothE;by_cases h:x1=-1<;>simp[h]
set_option maxHeartbeats 8000000 in
theorem unite69_body{N I:Nat}(hN:N≤70000)(hI:1≤I∧I≤16){up:List Nat}(hup:up.length=N)(W:Nat→Nat→Int×Int){p q:Nat}(hp:p<N)(hq:q<N)(hpq:q≠p)(S E:List (Int×Int))(B:Nat)(hB:B≤1000000000000)
  (hE:E.take S.length=S)(hE0:E≠[])(hSE:S.length≤E.length)(hSB:S.length+I≤B)(hEB:E.length≤B){R:AV→Mem→Nat→Prop}
  (hRt:(∀i,i<I→clashE (W p i) (W q i)=false)→∀E',E'.take (S++pushN W p q I).length=S++pushN W p q I→E'≠[]→(S++pushN W p q I).length≤E'.length→E'.length≤B→R (.sc (.bool true)) (joinM N I (up.set q p) (mrgW W p q I) E'.length (S++pushN W p q I).length E') 3000003)
  (hRf:(∃i,i<I∧clashE (W p i) (W q i)=true)→∀W' k E',E'≠[]→R (.sc (.bool false)) (joinM N I up W' E'.length k E') 3000003):
  BodyIs prog 90 [.sc (.int .i64 p),.sc (.int .i64 q),.rf 3000000 0,.rf 3000001 0] (joinM N I up W E.length S.length E) 3000003 R:=by
 refine BodyIs.of (nv:=4) (hid:=[6,7,8,9,16,17,18,19,33,37,54]) func90 rfl (by kernel_rfl) (by simp[ntmps90]) fun h0=>?_;rw[ntmps90,results90];have hn1:N≤1000000:=by omega
 have hp6:p<1000000:=by omega
 have hq6:q<1000000:=by omega
 have hpin:(p:Int).toNat=p:=Int.toNat_natCast p;have hqin:(q:Int).toNat=q:=Int.toNat_natCast q;have htl:=ocell_len I N;have htp:=ocell_get (m:=I) hp;have htq:=ocell_get (m:=I) hq;have hlo:∀k,k<N→rlook (joinK N) (2000000+k)=some (2000000+k):=fun k hk=>rlook_osegK_lo hk hn1 (A:=[(1000200,1000200),(1000201,1000201),(1000202,1000202),(3000000,3000000),(3000001,3000001),(3000002,3000002)]) rfl;have hhi:∀k,notO k=true→rlook (joinK N) k=rlook [(1000200,1000200),(1000201,1000201),(1000202,1000202),(3000000,3000000),(3000001,3000001),(3000002,3000002)] k:=fun k hk=>by rw[joinK,rlook_osegK_hi hn1 _ _ _ hk,List.append_nil]
 have hgk:gcOk 3000003 3000003 (joinK N)=true:=osegK_ok (A:=[(1000200,1000200),(1000201,1000201),(1000202,1000202),(3000000,3000000),(3000001,3000001),(3000002,3000002)]) rfl rfl rfl hn1 (by omega);unfold joinM;refine EvC.a ?_;refine EvC.seq ?_;refine EvC.a ?_ (by simp only[go_sem,htl,htp,hpin,o_ne hp6,otab_look 2 edgeC W (m:=I) hp,gcells_len]<;>rfl) (by simp[htl];omega);refine EvC.block ?_;refine EvC.loopS (σ:=Nat×List (Int×Int)) (fun g=>⟨[(0,.sc (.int .i64 p)),(1,.sc (.int .i64 q)),(2,.rf 3000000 0),(3,.rf 3000001 0),(16,.tl (2000000+p) I false),(17,.sc (.int .i64 I)),(18,.sc (.int .i64 g.1))],[],joinM N I up (mrgW W p q g.1) g.2.length (S++pushN W p q g.1).length g.2,3000003⟩) (fun g=>I-g.1)
  (fun g=>g.1≤I∧g.2.take (S++pushN W p q g.1).length=S++pushN W p q g.1∧g.2≠[]∧(S++pushN W p q g.1).length≤g.2.length∧g.2.length≤B∧∀j,j<g.1→clashE (W p j) (W q j)=false) [0,1,2,3,16,17,18] 3000003 ?_ ?_
 ·have hP0:S++pushN W p q 0=S:=by simp[pushN]
  refine⟨joinK N,(0,E),hgk,?_,Nat.zero_le _,by rw[hP0];exact hE,hE0,by rw[hP0];exact hSE,hEB,fun j h=>absurd h (Nat.not_lt_zero _)⟩;rw[hP0,mrgW_zero];unfold joinM;have hlp:=hlo p hp;rw[joinK]at hlo hhi hlp⊢;simp only[go_sem,hhi,hlp,List.cons_append,List.nil_append,List.append_nil,renMem_oK_cons hn1,otab_ren 2 norefs_edgeC,ocell_ren hlo,ite_self,norefs_edges,if_true]<;>rfl
 rintro⟨i,E1⟩ ⟨h1,h2,h3,h4,h5,h6⟩;simp only at h1 h2 h3 h4 h5 h6⊢;have hiin:(i:Int).toNat=i:=Int.toNat_natCast i;unfold joinM;refine EvC.a ?_;refine EvC.seq ?_;refine EvC.cd (fun hc=>?_) (fun hc=>?_);rotate_left
 ·
  obtain rfl:i=I:=by have:¬i<I:=by simpa using hc
                     omega
  refine EvC.exit ?_;have hset:(up.map natC).set q [.sc (.int .i64 (p:Int))]=(up.set q p).map natC:=by rw[List.map_set];rfl
  have hul:(up.map natC).length=N:=by rw[List.length_map,hup]
  have huq:up[q]?=some (pU up q):=pU_get (by omega);refine EvC.a ?_ (by simp only[go_sem,hul,huq,natC,hqin,hset]<;>rfl) (by simp;omega);refine EvC.a ?_;refine EvC.gcE (st2:=⟨[(6,.sc (.bool true))],[],joinM N i (up.set q p) (mrgW W p q i) E1.length (S++pushN W p q i).length E1,3000003⟩) [6] (joinK N) 3000003 hgk ?_ ?_
  ·unfold joinM;rw[joinK]at hlo hhi⊢;simp only[go_sem,hhi,List.cons_append,List.nil_append,List.append_nil,renMem_oK_cons hn1,otab_ren 2 norefs_edgeC,ocell_ren hlo,ite_self,norefs_edges,if_true]<;>rfl
  refine EvC.ret ⟨.inl rfl,_,(by simp only[go_sem]<;>rfl),?_⟩;exact hRt h6 E1 h2 h3 h4 h5
 have hiI:i<I:=by simpa using hc
 clear hc;refine EvC.skip ?_;refine EvC.seq ?_;refine EvC.block ?_;have hlp:=otab_look 2 edgeC (mrgW W p q i) (m:=I) hp;have hlq:=otab_look 2 edgeC (mrgW W p q i) (m:=I) hq;have hgp:=gcells_get edgeC (mrgW W p q i p) hiI;have hgq:=gcells_get edgeC (mrgW W p q i q) hiI;rw[mrgW_p]at hgp;rw[mrgW_q hpq]at hgq;have hgl:=gcells_len edgeC;refine EvC.a ?_ (by simp only[go_sem,o_ne hp6,hlp,hgp,hgl,hiin,edgeC]<;>rfl) (by simp;omega);refine EvC.a ?_ (by simp only[go_sem,o_ne hq6,hlq,hgq,hgl,hiin,edgeC,htq,htl,hqin]<;>rfl) (by simp;omega);have hmd:∀k,notO k=true→mdel (otab 2 edgeC (mrgW W p q i) N I) k=otab 2 edgeC (mrgW W p q i) N I:=fun k hk=>mdel_otab _ _ _ (by omega) k hk;refine EvC.z 3000007 ?_ (by simp only[go_sem,hmd 3000007 rfl]<;>rfl);refine EvC.z 3000020 ?_ (by simp only[go_sem,hmd 3000020 rfl]<;>rfl);refine EvC.block ?_;have hbk:=both_known (x:=W p i) (y:=W q i);have hps:=pushN_succ W p q i;have hms:=mrgW_succ W p q i;have hmk:=mrgW_same (W:=W) (p:=p) (q:=q) (i:=i);have hx:W p i=((W p i).1,(W p i).2):=rfl;have hy:W q i=((W q i).1,(W q i).2):=rfl;obtain⟨x,hxd⟩:∃x,x=W p i:=⟨_,rfl⟩;obtain⟨y,hyd⟩:∃y,y=W q i:=⟨_,rfl⟩;have hcl:clashE (W p i) (W q i)=clashE x y:=by rw[hxd,hyd]
 rw[←hxd,←hyd]at hbk hps hms;rw[←hxd]at hmk hgp⊢;rw[←hyd]at hgq⊢;have hxw:=hxd;clear hx hy hxd hyd;obtain⟨x1,x2⟩:=x;obtain⟨y1,y2⟩:=y;have hK:=clash38_is x1 x2 y1 y2;simp only;generalize clashE (x1,x2) (y1,y2)=ck at hK hcl;refine EvC.k1 ?_ (c1:=.ca hK);cases ck with
 | true=>
   refine EvC.ct ?_;refine EvC.a ?_;refine EvC.gcE (st2:=⟨[(6,.sc (.bool false))],[],joinM N I up (mrgW W p q i) E1.length (S++pushN W p q i).length E1,3000003⟩) [6] (joinK N) 3000003 hgk ?_ ?_
   ·unfold joinM;rw[joinK]at hlo hhi⊢;simp only[go_sem,hhi,List.cons_append,List.nil_append,List.append_nil,renMem_oK_cons hn1,otab_ren 2 norefs_edgeC,ocell_ren hlo,ite_self,norefs_edges,if_true]<;>rfl
   refine EvC.ret ⟨.inl rfl,_,(by simp only[go_sem]<;>rfl),?_⟩;exact hRf ⟨i,hiI,hcl⟩ _ _ E1 h3
 | false=>
 refine EvC.cf ?_;have hcl':∀j,j<i+1→clashE (W p j) (W q j)=false:=fun j hj=>by
  by_cases h:j<i
  ·exact h6 j h
  ·obtain rfl:j=i:=by omega
   exact hcl
 have hbo:=bothE_if x1 x2 y1 y2;refine EvC.g ?_ (h:=by simp only[go_sem,hbo]<;>rfl);cases hbe:bothE (x1,x2) (y1,y2)with
 | true=>
   refine EvC.ct ?_ (by simp only[go_sem,hbo,hbe]<;>rfl);rw[if_pos hbe]at hps;have hkx:knownE (W p i)=true:=by rw[←hxw];exact hbk hbe
   have hms':=hmk (hbk hbe);obtain⟨T,hT⟩:∃T,T=S++pushN W p q i:=⟨_,rfl⟩;have hTn:S++pushN W p q (i+1)=T++[(x1,y1)]:=by rw[hps,hT,List.append_assoc]
   have hTl:S.length+(pushN W p q i).length=T.length:=by rw[hT,List.length_append]
   have hTb:T.length≤S.length+i:=by have:=pushN_len W p q i;omega
   rw[←hT]at h2 h4;have hElen:(E1.map edgeC).length=E1.length:=List.length_map _;have hr2:room (T.length+1) 16=true:=by simp only[room_eq,decide_eq_true_eq];omega
   have hE1ne:E1.length≠0:=by simpa using h3
   by_cases hfull:T.length=E1.length
   ·obtain⟨E2,hE2d⟩:∃E2,E2=E1++[(x1,y1)]:=⟨_,rfl⟩;have hET:E1=T:=by rw[←h2,hfull,List.take_length]
    have hsn:E1.map edgeC++[[.sc (.int .i64 x1),.sc (.int .i64 y1)]]=E2.map edgeC:=by rw[hE2d];simp[edgeC]
    have hl2:E2.length=E1.length+1:=by rw[hE2d];simp
    refine EvC.b ?_ (by simp only[go_sem,hTl,hfull,hElen,hsn]<;>rfl) (by simp;exact⟨h3,by rw[←hfull];exact hr2⟩);have hc1:E2.take (T++[(x1,y1)]).length=T++[(x1,y1)]:=by rw[hE2d,hET,List.take_length]
    refine EvC.bi ?_;refine⟨joinK N,(i+1,E2),hgk,?_,⟨hiI,by simp only;rw[hTn];exact hc1,(by simp only;rw[hE2d];simp),by simp only;rw[hTn,List.length_append,List.length_singleton];omega,by simp only;omega,hcl'⟩,by simp only;omega⟩;show _=St.mk _ _ (joinM N I up (mrgW W p q (i+1)) E2.length (S++pushN W p q (i+1)).length E2) _;rw[hTn,hms'];unfold joinM;have hlp':=hlo p hp;rw[joinK]at hlo hhi hlp'⊢;simp only[go_sem,hhi,hlp',hl2,hfull,List.cons_append,List.nil_append,List.append_nil,renMem_oK_cons hn1,otab_ren 2 norefs_edgeC,ocell_ren hlo,ite_self,norefs_edges,if_true,Int.natCast_add,Int.natCast_one]<;>rfl
   ·obtain⟨E2,hE2d⟩:∃E2,E2=E1.take T.length++(x1,y1)::E1.drop (T.length+1):=⟨_,rfl⟩;have hsn:List.take T.length (E1.map edgeC)++[.sc (.int .i64 x1),.sc (.int .i64 y1)]::List.drop (T.length+1) (E1.map edgeC)=E2.map edgeC:=by rw[hE2d];simp[edgeC,List.map_take,List.map_drop]
    have hl2:E2.length=E1.length:=by rw[hE2d];simp;omega
    refine EvC.b ?_ (by simp only[go_sem,hTl,hfull,hElen,hsn]<;>rfl) (by simp[hr2];try omega);have hc1:E2.take (T++[(x1,y1)]).length=T++[(x1,y1)]:=by
     have e:E2=(T++[(x1,y1)])++E1.drop (T.length+1):=by rw[hE2d,h2];simp
     rw[e,List.take_left]
    refine EvC.bi ?_;refine⟨joinK N,(i+1,E2),hgk,?_,⟨hiI,by simp only;rw[hTn];exact hc1,(by simp only;rw[hE2d];simp),by simp only;rw[hTn,List.length_append,List.length_singleton];omega,by simp only;omega,hcl'⟩,by simp only;omega⟩;show _=St.mk _ _ (joinM N I up (mrgW W p q (i+1)) E2.length (S++pushN W p q (i+1)).length E2) _;rw[hTn,hms'];unfold joinM;have hlp':=hlo p hp;rw[joinK]at hlo hhi hlp'⊢;simp only[go_sem,hhi,hlp',hl2,List.cons_append,List.nil_append,List.append_nil,renMem_oK_cons hn1,otab_ren 2 norefs_edgeC,ocell_ren hlo,ite_self,norefs_edges,if_true,Int.natCast_add,Int.natCast_one]<;>rfl
 | false=>
 refine EvC.cf ?_ (by simp only[go_sem,hbo,hbe]<;>rfl);rw[if_neg (by rw[hbe];simp),List.append_nil]at hps;have hK2:=known55_is x1 x2;refine EvC.k1 ?_ (c1:=.ca hK2);cases hkx:knownE (x1,x2)with
 | true=>
   refine EvC.cs ?_ (by simp only[go_sem,hkx]<;>rfl);have hms':=hmk hkx;refine EvC.bi ?_;refine⟨joinK N,(i+1,E1),hgk,?_,⟨hiI,by simp only;rw[hps];exact h2,h3,by simp only;rw[hps];exact h4,h5,hcl'⟩,by simp only;omega⟩;show _=St.mk _ _ (joinM N I up (mrgW W p q (i+1)) E1.length (S++pushN W p q (i+1)).length E1) _;rw[hps,hms'];unfold joinM;have hlp':=hlo p hp;rw[joinK]at hlo hhi hlp'⊢;simp only[go_sem,hhi,hlp',List.cons_append,List.nil_append,List.append_nil,renMem_oK_cons hn1,otab_ren 2 norefs_edgeC,ocell_ren hlo,ite_self,norefs_edges,if_true,Int.natCast_add,Int.natCast_one]<;>rfl
 | false=>
   refine EvC.ct ?_ (by simp only[go_sem,hkx]<;>rfl);have hset:mset (otab 2 edgeC (mrgW W p q i) N I) (2000000+p) (.arr 2 ((gcells edgeC (mrgW W p q i p) I).set i [.sc (.int .i64 y1),.sc (.int .i64 y2)]) false)=_:=otab_set 2 edgeC (mrgW W p q i) (m:=I) (y1,y2) hp hiI;rw[show mergeE (x1,x2) (y1,y2)=(y1,y2)from if_neg (by rw[hkx];simp)]at hms;rw[←hms]at hset;have hms2:upd2 (mrgW W p q i) p i (y1,y2)=mrgW W p q (i+1):=hms.symm;apply EvC.drd mixed
   ·simp only[go_sem,htl,htp,hpin,o_ne hp6,hlp,hgp,hgl,hiin,edgeC,hset]<;>rfl
   ·simp[htl,hgl];omega
   ·exact confAll_slots (by simp[rdOk,slotsOf,opSlots,memless,Op.operands]) (by kernel_rfl)
   refine EvC.bi ?_;refine⟨joinK N,(i+1,E1),hgk,?_,⟨hiI,by simp only;rw[hps];exact h2,h3,by simp only;rw[hps];exact h4,h5,hcl'⟩,by simp only;omega⟩;show _=St.mk _ _ (joinM N I up (mrgW W p q (i+1)) E1.length (S++pushN W p q (i+1)).length E1) _;rw[hps];unfold joinM;have hlp':=hlo p hp;rw[joinK]at hlo hhi hlp'⊢;simp only[go_sem,hhi,hlp',hset,List.cons_append,List.nil_append,List.append_nil,renMem_oK_cons hn1,otab_ren 2 norefs_edgeC,ocell_ren hlo,ite_self,norefs_edges,if_true,Int.natCast_add,Int.natCast_one]<;>rfl
inductive EqvC (R:Nat→Nat→Prop):Nat→Nat→Prop
 | base {x y:Nat} (h:R x y):EqvC R x y
 | refl (x:Nat):EqvC R x x
 | symm {x y:Nat} (h:EqvC R x y):EqvC R y x
 | trans {x y z:Nat} (h:EqvC R x y) (k:EqvC R y z):EqvC R x z
theorem EqvC.bind{R R':Nat→Nat→Prop}(hR:∀x y,R x y→EqvC R' x y){x y:Nat}(h:EqvC R x y):EqvC R' x y:=by
 induction h with
 | base h=>exact hR _ _ h
 | refl x=>exact .refl x
 | symm _ ih=>exact .symm ih
 | trans _ _ ih1 ih2=>exact .trans ih1 ih2
theorem EqvC.fn{f:Nat→Nat}{x y:Nat}(h:EqvC (fun a b=>f a=f b) x y):f x=f y:=by
 induction h with
 | base h=>exact h
 | refl x=>rfl
 | symm _ ih=>exact ih.symm
 | trans _ _ ih1 ih2=>exact ih1.trans ih2
inductive Cong (t:Mach) (R:Nat→Nat→Prop):Nat→Nat→Prop
 | base {x y:Nat} (h:R x y):Cong t R x y
 | refl (x:Nat):Cong t R x x
 | symm {x y:Nat} (h:Cong t R x y):Cong t R y x
 | trans {x y z:Nat} (h:Cong t R x y) (k:Cong t R y z):Cong t R x z
 | step {x y i:Nat} (h:Cong t R x y) (hi:(i:Int)<t.ins) (hb:bothE (eT t x i) (eT t y i)=true):Cong t R (eT t x i).1.toNat (eT t y i).1.toNat
def Clash(t:Mach)(R:Nat→Nat→Prop):Prop:=∃x y i:Nat,Cong t R x y∧(i:Int)<t.ins∧clashE (eT t x i) (eT t y i)=true
theorem clashE_iff{a b:Int×Int}(ha:knownE a=true)(hb:knownE b=true):clashE a b=false↔((a.1=-1↔b.1=-1)∧(a.1≠ -1→a.2=b.2)):=by
 unfold clashE;rw[ha,hb];by_cases h1:a.1=-1<;>by_cases h2:b.1=-1<;>simp[h1,h2]
theorem clashE_known{a b:Int×Int}(h:clashE a b=true):knownE a=true∧knownE b=true:=by
 unfold clashE at h;simp only[Bool.and_eq_true]at h;exact⟨h.1.1,h.1.2⟩
theorem bothE_iff{a b:Int×Int}:bothE a b=true↔a.1≠ -1∧b.1≠ -1:=by unfold bothE;simp
theorem knownE_to{a:Int×Int}(h:a.1≠ -1):knownE a=true:=by unfold knownE;simp[h]
structure FI (t:Mach) (up:List Nat) (W:Nat→Nat→Int×Int) (P:Nat→Nat→Prop):Prop where
 ok:UpOk up
 len:up.length=t.rows.length
 node:∀m i:Nat,m<t.rows.length→(i:Int)<t.ins→knownE (eT t m i)=true→knownE (W (rootU up m) i)=true∧clashE (eT t m i) (W (rootU up m) i)=false∧
  (bothE (eT t m i) (W (rootU up m) i)=true→EqvC (fun a b=>rootU up a=rootU up b∨P a b) (eT t m i).1.toNat (W (rootU up m) i).1.toNat)
 row:∀p i:Nat,p<t.rows.length→rootU up p=p→(i:Int)<t.ins→knownE (W p i)=true→∃m,m<t.rows.length∧rootU up m=p∧W p i=eT t m i
theorem FI.same{t:Mach}{up up':List Nat}{W:Nat→Nat→Int×Int}{P:Nat→Nat→Prop}(h:FI t up W P)(ho:UpOk up')(hl:up'.length=up.length)(hr:∀k,rootU up' k=rootU up k):FI t up' W P:=by
 have e:(fun a b=>rootU up' a=rootU up' b∨P a b)=fun a b=>rootU up a=rootU up b∨P a b:=by funext a b;rw[hr,hr]
 refine⟨ho,hl.trans h.len,fun m i hm hi hk=>?_,fun p i hp hpr hi hk=>?_⟩
 ·rw[hr,e];exact h.node m i hm hi hk
 ·rw[hr]at hpr;obtain⟨m,h1,h2,h3⟩:=h.row p i hp hpr hi hk;exact⟨m,h1,by rw[hr];exact h2,h3⟩
theorem FI.less{t:Mach}{up:List Nat}{W:Nat→Nat→Int×Int}{P P':Nat→Nat→Prop}(h:FI t up W P)(hP:∀a b,P a b→EqvC (fun a b=>rootU up a=rootU up b∨P' a b) a b):FI t up W P':=by
 refine⟨h.ok,h.len,fun m i hm hi hk=>?_,h.row⟩;obtain⟨h1,h2,h3⟩:=h.node m i hm hi hk;refine⟨h1,h2,fun hb=>(h3 hb).bind fun a b hab=>?_⟩;rcases hab with hab|hab
 ·exact .base (.inl hab)
 ·exact hP a b hab
theorem rootU_range(n k:Nat):rootU (List.range n) k=k:=by
 have hp:∀k,pU (List.range n) k=k:=fun k=>by
  unfold pU;by_cases h:k<n
  ·rw[List.getElem?_range h];rfl
  ·rw[List.getElem?_eq_none (by simp;omega)];rfl
 exact rootU_fix (fun k=>Nat.le_of_eq (hp k)) (hp k)
theorem upOk_range(n:Nat):UpOk (List.range n):=fun k=>by
 unfold pU;by_cases h:k<n
 ·rw[List.getElem?_range h];exact Nat.le_refl _
 ·rw[List.getElem?_eq_none (by simp;omega)];exact Nat.le_refl _
theorem clashE_self{a:Int×Int}(h:knownE a=true):clashE a a=false:=by rw[clashE_iff h h];simp
theorem FI.alone(t:Mach):FI t (List.range t.rows.length) (eT t) fun _ _=>False:=by
 refine⟨upOk_range _,by simp,fun m i hm hi hk=>?_,fun p i hp _ hi hk=>⟨p,hp,rootU_range _ _,rfl⟩⟩;rw[rootU_range];exact⟨hk,clashE_self hk,fun _=>.refl _⟩
theorem rootU_set{up:List Nat}(h:UpOk up){p q:Nat}(hq:q<up.length)(hpq:p<q)(hp:pU up p=p)(hqr:pU up q=q):UpOk (up.set q p)∧∀k,rootU (up.set q p) k=if rootU up k=q then p else rootU up k:=by
 have h':UpOk (up.set q p):=fun k=>by
  rw[pU_set hq];split
  ·omega
  ·exact h k
 refine⟨h',fun k=>?_⟩
 induction k using Nat.strongRecOn with
 | _ k ih=>
   rw[rootU_eq h',pU_set hq];by_cases hk:k=q
   ·subst hk;rw[if_pos rfl,if_neg (by omega),ih p hpq,rootU_fix h hp,rootU_fix h hqr,if_neg (by omega),if_pos rfl]
   ·rw[if_neg hk,rootU_eq h k];by_cases hkk:pU up k=k
    ·rw[if_pos hkk,if_pos hkk,if_neg hk]
    ·rw[if_neg hkk,if_neg hkk];have:=h k;exact ih _ (by omega)
def inS2(S:List (Int×Int))(a b:Nat):Prop:=((a:Int),(b:Int))∈S
theorem mem_pushN{W:Nat→Nat→Int×Int}{p q n:Nat}{x:Int×Int}:x∈pushN W p q n↔∃i,i<n∧bothE (W p i) (W q i)=true∧x=((W p i).1,(W q i).1):=by
 unfold pushN pushP;simp only[List.mem_filterMap,List.mem_range];constructor
 ·rintro⟨i,h1,h2⟩;split at h2
  ·rename_i h3;exact⟨i,h1,h3,(Option.some.inj h2).symm⟩
  ·cases h2
 ·rintro⟨i,h1,h2,rfl⟩;exact⟨i,h1,if_pos h2⟩
theorem TV.to{t:Mach}(v:TV t){m i:Nat}(hm:m<t.rows.length)(hi:(i:Int)<t.ins)(h:(eT t m i).1≠ -1):(((eT t m i).1.toNat:Nat):Int)=(eT t m i).1∧(eT t m i).1.toNat<t.rows.length:=by
 rcases v.edge hm hi with h1|h1
 ·exact absurd h1.1 h
 ·omega
theorem eT_in{t:Mach}{m i:Nat}(h:(eT t m i).1≠ -1):m<t.rows.length:=by
 refine Nat.lt_of_not_le fun hm=>h ?_;rw[eT,List.getElem?_eq_none hm];rfl
theorem FI.unite{t:Mach}(v:TV t){I:Nat}(hI:t.ins=(I:Int)){up:List Nat}{W:Nat→Nat→Int×Int}{S:List (Int×Int)}{x y p q:Nat}(h:FI t up W (inS2 (S++[((x:Int),(y:Int))])))
  (hq:q<t.rows.length)(hpq:p<q)(hp:rootU up p=p)(hqr:rootU up q=q)(hxy:(rootU up x=p∧rootU up y=q)∨(rootU up x=q∧rootU up y=p))(hc:∀i,i<I→clashE (W p i) (W q i)=false):
  FI t (up.set q p) (mrgW W p q I) (inS2 (S++pushN W p q I)):=by
 have hpp:pU up p=p:=by have:=pU_root h.ok p;rwa[hp]at this
 have hqq:pU up q=q:=by have:=pU_root h.ok q;rwa[hqr]at this
 obtain⟨ho,hr⟩:=rootU_set h.ok (by rw[h.len];exact hq) hpq hpp hqq;have hpl:p<t.rows.length:=by omega
 have hmono:∀a b,EqvC (fun a b=>rootU up a=rootU up b∨inS2 (S++[((x:Int),(y:Int))]) a b) a b→EqvC (fun a b=>rootU (up.set q p) a=rootU (up.set q p) b∨inS2 (S++pushN W p q I) a b) a b:=fun a b hab=>hab.bind fun a b hab=>by
  rcases hab with hab|hab
  ·exact .base (.inl (by rw[hr,hr,hab]))
  ·unfold inS2 at hab;rcases List.mem_append.1 hab with hab|hab
   ·exact .base (.inr (List.mem_append_left _ hab))
   ·have e:=List.mem_singleton.1 hab;have e1:a=x:=by have:=congrArg Prod.fst e;simp only at this;omega
    have e2:b=y:=by have:=congrArg Prod.snd e;simp only at this;omega
    subst e1 e2;refine .base (.inl ?_);rw[hr,hr];rcases hxy with⟨k1,k2⟩|⟨k1,k2⟩<;>rw[k1,k2]<;>simp
 have hne:q≠p:=by omega
 have hWp:∀i,i<I→mrgW W p q I p i=mergeE (W p i) (W q i):=fun i hi=>by simp[mrgW,hi]
 have hWo:∀a i,a≠p→mrgW W p q I a i=W a i:=fun a i ha=>by simp[mrgW,ha]
 refine⟨ho,by rw[List.length_set,h.len],fun m i hm hi hk=>?_,fun p' i hp' hpr hi hk=>?_⟩
 ·have hiI:i<I:=by omega
  obtain⟨h1,h2,h3⟩:=h.node m i hm hi hk;rw[hr];by_cases hmq:rootU up m=q
  ·rw[if_pos hmq];rw[hmq]at h1 h2 h3;rw[hWp i hiI,mergeE];by_cases hkp:knownE (W p i)=true
   ·rw[if_pos hkp];have hcp:=hc i hiI;rw[clashE_iff hkp h1]at hcp;rw[clashE_iff hk h1]at h2;refine⟨hkp,(clashE_iff hk hkp).2 ⟨h2.1.trans hcp.1.symm,fun hn=>?_⟩,fun hb=>?_⟩
    ·have a1:=h2.2 hn;have a2:=hcp.2 (fun e=>hn (h2.1.2 (hcp.1.1 e)));rw[a1,←a2]
    ·obtain⟨b1,b2⟩:=bothE_iff.1 hb;have b3:(W q i).1≠ -1:=fun e=>b1 (h2.1.2 e);refine .trans (hmono _ _ (h3 (bothE_iff.2 ⟨b1,b3⟩))) (.symm (.base (.inr ?_)));refine List.mem_append_right _ (mem_pushN.2 ⟨i,hiI,bothE_iff.2 ⟨b2,b3⟩,?_⟩);obtain⟨m1,c1,c2,c3⟩:=h.row p i hpl hp hi hkp;obtain⟨m2,d1,d2,d3⟩:=h.row q i hq hqr hi h1;rw[c3]at b2⊢;rw[d3]at b3⊢;rw[(v.to c1 hi b2).1,(v.to d1 hi b3).1]
   ·rw[if_neg hkp];exact⟨h1,h2,fun hb=>hmono _ _ (h3 hb)⟩
  ·rw[if_neg hmq];by_cases hmp:rootU up m=p
   ·rw[hmp]at h1 h2 h3⊢;rw[hWp i hiI,mergeE,if_pos h1];exact⟨h1,h2,fun hb=>hmono _ _ (h3 hb)⟩
   ·rw[hWo _ _ hmp];exact⟨h1,h2,fun hb=>hmono _ _ (h3 hb)⟩
 ·have hiI:i<I:=by omega
  rw[hr]at hpr;have hpr':p'≠q:=fun e=>by
   subst e;rw[hqr,if_pos rfl]at hpr;omega
  have hpr2:rootU up p'=p':=by
   by_cases e:rootU up p'=q
   ·rw[if_pos e]at hpr;subst hpr;rw[hp]at e;omega
   ·rwa[if_neg e]at hpr
  by_cases hpp':p'=p
  ·subst hpp';rw[hWp i hiI,mergeE]at hk⊢;by_cases hkp:knownE (W p' i)=true
   ·rw[if_pos hkp];obtain⟨m,c1,c2,c3⟩:=h.row p' i hpl hp hi hkp;exact⟨m,c1,by rw[hr,c2,if_neg (by omega)],c3⟩
   ·rw[if_neg hkp]at hk⊢;obtain⟨m,c1,c2,c3⟩:=h.row q i hq hqr hi hk;exact⟨m,c1,by rw[hr,c2,if_pos rfl],c3⟩
  ·rw[hWo _ _ hpp']at hk⊢;obtain⟨m,c1,c2,c3⟩:=h.row p' i hp' hpr2 hi hk;exact⟨m,c1,by rw[hr,c2,if_neg hpr'],c3⟩
def sumR(up:List Nat):Nat→Nat
 | 0=>0
 | n+1=>sumR up n+rootU up n
theorem sumR_same{up up':List Nat}(h:∀k,rootU up' k=rootU up k):∀n,sumR up' n=sumR up n
 | 0=>rfl
 | n+1=>by rw[sumR,sumR,sumR_same h n,h]
theorem sumR_le{up:List Nat}(h:UpOk up):∀n,sumR up n≤n*n
 | 0=>Nat.le_refl _
 | n+1=>by
   have:=sumR_le h n;have:=rootU_le h n;rw[sumR,Nat.succ_mul,Nat.mul_succ];omega
theorem sumR_less{up up':List Nat}(h:∀k,rootU up' k≤rootU up k){q:Nat}(hq:rootU up' q<rootU up q):∀n,sumR up' n≤sumR up n∧(q<n→sumR up' n<sumR up n)
 | 0=>⟨Nat.le_refl _,fun h=>by omega⟩
 | n+1=>by
   obtain⟨h1,h2⟩:=sumR_less h hq n;have:=h n;refine⟨by rw[sumR,sumR];omega,fun hn=>?_⟩;rw[sumR,sumR];by_cases e:q=n
   ·subst e;omega
   ·have:=h2 (by omega);omega
structure JInv (t:Mach) (R:Nat→Nat→Prop) (up:List Nat) (W:Nat→Nat→Int×Int) (S:List (Int×Int)):Prop where
 fi:FI t up W (inS2 S)
 sub:∀x y,rootU up x=rootU up y→Cong t R x y
 mem:∀e∈S,0≤e.1∧0≤e.2∧e.1<t.rows.length∧e.2<t.rows.length∧Cong t R e.1.toNat e.2.toNat
 old:∀x y,R x y→EqvC (fun a b=>rootU up a=rootU up b∨inS2 S a b) x y
theorem JInv.same{t:Mach}{R:Nat→Nat→Prop}{up up':List Nat}{W:Nat→Nat→Int×Int}{S:List (Int×Int)}(h:JInv t R up W S)(ho:UpOk up')(hl:up'.length=up.length)(hr:∀k,rootU up' k=rootU up k):JInv t R up' W S:=by
 have e:(fun a b=>rootU up' a=rootU up' b∨inS2 S a b)=fun a b=>rootU up a=rootU up b∨inS2 S a b:=by funext a b;rw[hr,hr]
 exact⟨h.fi.same ho hl hr,fun x y hxy=>h.sub x y (by rwa[hr,hr]at hxy),h.mem,fun x y hxy=>by rw[e];exact h.old x y hxy⟩
theorem inS2_snoc{S:List (Int×Int)}{x y a b:Nat}(h:inS2 (S++[((x:Int),(y:Int))]) a b):inS2 S a b∨(a=x∧b=y):=by
 rcases List.mem_append.1 h with hab|hab
 ·exact .inl hab
 ·have e:=List.mem_singleton.1 hab;have e1:a=x:=by have:=congrArg Prod.fst e;simp only at this;omega
  have e2:b=y:=by have:=congrArg Prod.snd e;simp only at this;omega
  exact .inr ⟨e1,e2⟩
theorem JInv.drop{t:Mach}{R:Nat→Nat→Prop}{up:List Nat}{W:Nat→Nat→Int×Int}{S:List (Int×Int)}{x y:Nat}(h:JInv t R up W (S++[((x:Int),(y:Int))]))(hxy:rootU up x=rootU up y):JInv t R up W S:=by
 have key:∀a b,inS2 (S++[((x:Int),(y:Int))]) a b→EqvC (fun a b=>rootU up a=rootU up b∨inS2 S a b) a b:=fun a b hab=>by
  rcases inS2_snoc hab with hab|⟨rfl,rfl⟩
  ·exact .base (.inr hab)
  ·exact .base (.inl hxy)
 exact⟨h.fi.less key,h.sub,fun e he=>h.mem e (List.mem_append_left _ he),fun x y hR=>(h.old x y hR).bind fun a b hab=>by
  rcases hab with hab|hab
  ·exact .base (.inl hab)
  ·exact key a b hab⟩
theorem JInv.unite{t:Mach}(v:TV t){I:Nat}(hI:t.ins=(I:Int)){R:Nat→Nat→Prop}{up:List Nat}{W:Nat→Nat→Int×Int}{S:List (Int×Int)}{x y p q:Nat}(h:JInv t R up W (S++[((x:Int),(y:Int))]))
  (hq:q<t.rows.length)(hpq:p<q)(hp:rootU up p=p)(hqr:rootU up q=q)(hxy:(rootU up x=p∧rootU up y=q)∨(rootU up x=q∧rootU up y=p))(hc:∀i,i<I→clashE (W p i) (W q i)=false):
  JInv t R (up.set q p) (mrgW W p q I) (S++pushN W p q I):=by
 have hfi:=h.fi.unite v hI hq hpq hp hqr hxy hc;have hpp:pU up p=p:=by have:=pU_root h.fi.ok p;rwa[hp]at this
 have hqq:pU up q=q:=by have:=pU_root h.fi.ok q;rwa[hqr]at this
 obtain⟨_,hr⟩:=rootU_set h.fi.ok (by rw[h.fi.len];exact hq) hpq hpp hqq;have hExy:Cong t R x y:=by
  have:=(h.mem ((x:Int),(y:Int)) (by simp)).2.2.2.2;simpa using this
 have hEpq:Cong t R p q:=by
  rcases hxy with⟨k1,k2⟩|⟨k1,k2⟩
  ·exact .trans (.symm (h.sub x p (by rw[k1,hp]))) (.trans hExy (h.sub y q (by rw[k2,hqr])))
  ·exact .trans (.symm (h.sub y p (by rw[k2,hp]))) (.trans (.symm hExy) (h.sub x q (by rw[k1,hqr])))
 refine⟨hfi,fun a b hab=>?_,fun e he=>?_,fun a b hab=>(h.old a b hab).bind fun a b hab=>?_⟩
 ·have key:∀z,Cong t R z (rootU (up.set q p) z):=fun z=>by
    rw[hr];by_cases e:rootU up z=q
    ·rw[if_pos e];exact .trans (h.sub z q (by rw[e,hqr])) (.symm hEpq)
    ·rw[if_neg e];exact h.sub z _ (rootU_root h.fi.ok z).symm
  exact .trans (key a) (by rw[hab];exact .symm (key b))
 ·rcases List.mem_append.1 he with he|he
  ·exact h.mem e (List.mem_append_left _ he)
  ·obtain⟨i,hi,hb,rfl⟩:=mem_pushN.1 he;obtain⟨b1,b2⟩:=bothE_iff.1 hb;have hiI:(i:Int)<t.ins:=by omega
   obtain⟨m1,c1,c2,c3⟩:=h.fi.row p i (by omega) hp hiI (knownE_to b1);obtain⟨m2,d1,d2,d3⟩:=h.fi.row q i hq hqr hiI (knownE_to b2);rw[c3]at b1⊢;rw[d3]at b2⊢;have e1:=v.to c1 hiI b1;have e2:=v.to d1 hiI b2;have hm:Cong t R m1 m2:=.trans (h.sub m1 p (by rw[c2,hp])) (.trans hEpq (h.sub q m2 (by rw[d2,hqr])));refine⟨by simp only;omega,by simp only;omega,by simp only;omega,by simp only;omega,.step hm hiI (bothE_iff.2 ⟨b1,b2⟩)⟩
 ·rcases hab with hab|hab
  ·exact .base (.inl (by rw[hr,hr,hab]))
  ·rcases inS2_snoc hab with hab|⟨rfl,rfl⟩
   ·exact .base (.inr (List.mem_append_left _ hab))
   ·refine .base (.inl ?_);rw[hr,hr];rcases hxy with⟨k1,k2⟩|⟨k1,k2⟩<;>rw[k1,k2]<;>simp
theorem JInv.bad{t:Mach}{I:Nat}(hI:t.ins=(I:Int)){R:Nat→Nat→Prop}{up:List Nat}{W:Nat→Nat→Int×Int}{S:List (Int×Int)}{x y p q:Nat}(h:JInv t R up W (S++[((x:Int),(y:Int))]))
  (hq:q<t.rows.length)(hpq:p<q)(hp:rootU up p=p)(hqr:rootU up q=q)(hxy:(rootU up x=p∧rootU up y=q)∨(rootU up x=q∧rootU up y=p))(hc:∃i,i<I∧clashE (W p i) (W q i)=true):Clash t R:=by
 have hExy:Cong t R x y:=by
  have:=(h.mem ((x:Int),(y:Int)) (by simp)).2.2.2.2;simpa using this
 have hEpq:Cong t R p q:=by
  rcases hxy with⟨k1,k2⟩|⟨k1,k2⟩
  ·exact .trans (.symm (h.sub x p (by rw[k1,hp]))) (.trans hExy (h.sub y q (by rw[k2,hqr])))
  ·exact .trans (.symm (h.sub y p (by rw[k2,hp]))) (.trans (.symm hExy) (h.sub x q (by rw[k1,hqr])))
 obtain⟨i,hi,hcl⟩:=hc;obtain⟨k1,k2⟩:=clashE_known hcl;obtain⟨m1,c1,c2,c3⟩:=h.fi.row p i (by omega) hp (by omega) k1;obtain⟨m2,d1,d2,d3⟩:=h.fi.row q i hq hqr (by omega) k2;rw[c3,d3]at hcl;exact⟨m1,m2,i,.trans (h.sub m1 p (by rw[c2,hp])) (.trans hEpq (h.sub q m2 (by rw[d2,hqr]))),by omega,hcl⟩
theorem FI.cong{t:Mach}{R:Nat→Nat→Prop}{up:List Nat}{W:Nat→Nat→Int×Int}(h:FI t up W fun _ _=>False)(hR:∀x y,R x y→rootU up x=rootU up y){x y:Nat}(hc:Cong t R x y):rootU up x=rootU up y:=by
 induction hc with
 | base h=>exact hR _ _ h
 | refl x=>rfl
 | symm _ ih=>exact ih.symm
 | trans _ _ ih1 ih2=>exact ih1.trans ih2
 | step _ hi hb ih=>
   rename_i x y i _;obtain⟨b1,b2⟩:=bothE_iff.1 hb;have hx:=eT_in b1;have hy:=eT_in b2;obtain⟨c1,c2,c3⟩:=h.node x i hx hi (knownE_to b1);obtain⟨d1,d2,d3⟩:=h.node y i hy hi (knownE_to b2);rw[←ih]at d1 d2 d3;have e1:(W (rootU up x) i).1≠ -1:=fun e=>b1 (((clashE_iff (knownE_to b1) c1).1 c2).1.2 e);have f1:=c3 (bothE_iff.2 ⟨b1,e1⟩);have f2:=d3 (bothE_iff.2 ⟨b2,e1⟩);have e:(fun a b=>rootU up a=rootU up b∨False)=fun a b=>rootU up a=rootU up b:=by funext a b;simp
   rw[e]at f1 f2;exact f1.fn.trans f2.fn.symm
theorem FI.noclash{t:Mach}{up:List Nat}{W:Nat→Nat→Int×Int}{P:Nat→Nat→Prop}(h:FI t up W P){x y i:Nat}(hxy:rootU up x=rootU up y)(hi:(i:Int)<t.ins):clashE (eT t x i) (eT t y i)=false:=by
 cases hc:clashE (eT t x i) (eT t y i)with
 | false=>rfl
 | true=>
   obtain⟨k1,k2⟩:=clashE_known hc;have hin:∀{m:Nat},knownE (eT t m i)=true→m<t.rows.length:=fun{m} hk=>by
    refine Nat.lt_of_not_le fun hm=>?_;have:eT t m i=(-1,-1):=by rw[eT,List.getElem?_eq_none hm];rfl
    rw[this]at hk;cases hk
   obtain⟨c1,c2,_⟩:=h.node x i (hin k1) hi k1;obtain⟨d1,d2,_⟩:=h.node y i (hin k2) hi k2;rw[←hxy]at d1 d2;rw[clashE_iff k1 c1]at c2;rw[clashE_iff k2 d1]at d2;rw[←hc];refine(clashE_iff k1 k2).2 ⟨c2.1.trans d2.1.symm,fun hn=>?_⟩;rw[c2.2 hn,d2.2 fun e=>hn (c2.1.2 (d2.1.1 e))]
theorem inS2_nil(up:List Nat):(fun a b=>rootU up a=rootU up b∨inS2 [] a b)=fun a b=>rootU up a=rootU up b:=by funext a b;simp[inS2]
theorem JInv.done{t:Mach}{R:Nat→Nat→Prop}{up:List Nat}{W:Nat→Nat→Int×Int}(h:JInv t R up W []):
  FI t up W (fun _ _=>False)∧(∀x y,rootU up x=rootU up y↔Cong t R x y)∧¬Clash t R:=by
 have hf:FI t up W fun _ _=>False:=h.fi.less fun a b hab=>by cases hab
 have hR:∀x y,R x y→rootU up x=rootU up y:=fun x y hxy=>by
  have:=h.old x y hxy;rw[inS2_nil]at this;exact this.fn
 refine⟨hf,fun x y=>⟨h.sub x y,fun hc=>hf.cong hR hc⟩,fun⟨x,y,i,h1,h2,h3⟩=>?_⟩;have:=hf.noclash (hf.cong hR h1) h2;rw[h3]at this;cases this
def joinR(up:List Nat)(a b:Nat):Nat→Nat→Prop:=fun x y=>rootU up x=rootU up y∨(x=a∧y=b)
theorem JInv.start{t:Mach}{up:List Nat}{W:Nat→Nat→Int×Int}(h:FI t up W fun _ _=>False){a b:Nat}(ha:a<t.rows.length)(hb:b<t.rows.length):JInv t (joinR up a b) up W [((a:Int),(b:Int))]:=by
 refine⟨h.less fun _ _ h=>h.elim,fun x y hxy=>.base (.inl hxy),fun e he=>?_,fun x y hxy=>?_⟩
 ·have:=List.mem_singleton.1 he;subst this;refine⟨by simp,by simp,by simp only;omega,by simp only;omega,?_⟩;simp only[Int.toNat_natCast];exact .base (.inr ⟨rfl,rfl⟩)
 ·rcases hxy with hxy|⟨rfl,rfl⟩
  ·exact .base (.inl hxy)
  ·exact .base (.inr (List.mem_singleton.2 rfl))
theorem foldM_ren{N I:Nat}(hN:N≤1000000)(up:List Nat)(W:Nat→Nat→Int×Int):renMem (foldM N I up W) (osegK [(1000200,1000200),(1000201,1000201),(1000202,1000202)] N []) (osegK [(1000200,1000200),(1000201,1000201),(1000202,1000202)] N [])=foldM N I up W:=by
 have hlo:∀k,k<N→rlook (osegK [(1000200,1000200),(1000201,1000201),(1000202,1000202)] N []) (2000000+k)=some (2000000+k):=fun k hk=>rlook_osegK_lo hk hN (A:=[(1000200,1000200),(1000201,1000201),(1000202,1000202)]) rfl;unfold foldM;simp only[go_sem,rlook_osegK_hi hN,List.cons_append,List.nil_append,List.append_nil,renMem_oK_cons hN,otab_ren 2 norefs_edgeC,ocell_ren hlo,ite_self,if_true]
set_option maxHeartbeats 8000000 in
theorem join43_body{t:Mach}(v:TV t){I:Nat}(hI:t.ins=(I:Int)){up:List Nat}{W:Nat→Nat→Int×Int}(hF:FI t up W fun _ _=>False){a b:Nat}(ha:a<t.rows.length)(hb:b<t.rows.length){R:AV→Mem→Nat→Prop}
  (hRt:¬Clash t (joinR up a b)→∀up' W',FI t up' W' (fun _ _=>False)→(∀x y,rootU up' x=rootU up' y↔Cong t (joinR up a b) x y)→R (.sc (.bool true)) (foldM t.rows.length I up' W') 3000000)
  (hRf:Clash t (joinR up a b)→∀up' W',up'.length=t.rows.length→R (.sc (.bool false)) (foldM t.rows.length I up' W') 3000000):
  BodyIs prog 70 [.rf 1000200 0,.sc (.int .i64 a),.sc (.int .i64 b)] (foldM t.rows.length I up W) 3000000 R:=by
 have hrw:=v.rows;have hin:=v.ins;have hJ:=JInv.start hF ha hb;obtain⟨N,hN⟩:∃N,N=t.rows.length:=⟨_,rfl⟩;rw[←hN]at hrw hRt hRf ha hb⊢;have hn1:N≤1000000:=by omega
 have hNN:N*N≤65537*65537:=Nat.mul_le_mul hrw.2 hrw.2;have hs0:=sumR_le hF.ok N;obtain⟨B,hB⟩:∃B,B=17*sumR up N+17:=⟨_,rfl⟩;refine BodyIs.of (nv:=4) (hid:=[6,7,8,9,10,11,19,41,50,15,42,45,48]) func70 rfl (by kernel_rfl) (by simp[ntmps70]) fun h0=>?_;rw[ntmps70,results70];have hlo:∀k,k<N→rlook (joinK N) (2000000+k)=some (2000000+k):=fun k hk=>rlook_osegK_lo hk hn1 (A:=[(1000200,1000200),(1000201,1000201),(1000202,1000202),(3000000,3000000),(3000001,3000001),(3000002,3000002)]) rfl;have hhi:∀k,notO k=true→rlook (joinK N) k=rlook [(1000200,1000200),(1000201,1000201),(1000202,1000202),(3000000,3000000),(3000001,3000001),(3000002,3000002)] k:=fun k hk=>by rw[joinK,rlook_osegK_hi hn1 _ _ _ hk,List.append_nil]
 have hgk:gcOk 3000000 3000003 (joinK N)=true:=osegK_ok (A:=[(1000200,1000200),(1000201,1000201),(1000202,1000202),(3000000,3000000),(3000001,3000001),(3000002,3000002)]) rfl rfl rfl hn1 (by omega);unfold foldM;refine EvC.a ?_;refine EvC.scope ?_;refine EvC.a ?_;refine EvC.a ?_;refine EvC.toTv 3000005 ?_;refine EvC.seq (EvC.label ?_);refine EvC.seq ?_;refine EvC.block ?_;refine EvC.loopS (σ:=List Nat×(Nat→Nat→Int×Int)×List (Int×Int)×List (Int×Int)) (fun g=>⟨[(3,.rf 3000000 0),(7,.rf 3000001 0),(8,.fn 90 [.rf 3000000 0,.rf 3000001 0])],[],joinM N I g.1 g.2.1 g.2.2.2.length g.2.2.1.length g.2.2.2,3000003⟩) (fun g=>17*sumR g.1 N+g.2.2.1.length)
  (fun g=>JInv t (joinR up a b) g.1 g.2.1 g.2.2.1∧17*sumR g.1 N+g.2.2.1.length+16≤B∧g.2.2.2.take g.2.2.1.length=g.2.2.1∧g.2.2.2≠[]∧g.2.2.1.length≤g.2.2.2.length∧g.2.2.2.length≤B) [3,7,8] 3000003 ?_ ?_
 ·refine⟨osegK [(1000200,1000200),(1000201,1000201),(1000202,1000202),(3000000,3000000),(3000006,3000001),(3000005,3000002)] N [],(up,W,[((a:Int),(b:Int))],[((a:Int),(b:Int))]),osegK_ok (A:=[(1000200,1000200),(1000201,1000201),(1000202,1000202),(3000000,3000000),(3000006,3000001),(3000005,3000002)]) rfl rfl rfl hn1 (by omega),?_,hJ,by simp only[List.length_singleton];omega,rfl,by simp,Nat.le_refl _,by simp;omega⟩;have hlo':∀k,k<N→rlook (osegK [(1000200,1000200),(1000201,1000201),(1000202,1000202),(3000000,3000000),(3000006,3000001),(3000005,3000002)] N []) (2000000+k)=some (2000000+k):=fun k hk=>rlook_osegK_lo hk hn1 (A:=[(1000200,1000200),(1000201,1000201),(1000202,1000202),(3000000,3000000),(3000006,3000001),(3000005,3000002)]) rfl;simp only[go_sem,joinM,memMap_otab,rlook_osegK_hi hn1,List.cons_append,List.nil_append,List.append_nil,renMem_oK_cons hn1,otab_ren 2 norefs_edgeC,ocell_ren hlo',ite_self,norefs_edges,if_true,edgeC,List.map_cons,List.map_nil,List.length_singleton]<;>rfl
 have hBb:B≤1000000000000:=by omega
 clear hJ hF hs0 hB;rintro⟨u,W,S,E⟩ ⟨h1,h2,h3,h4,h5,h6⟩;simp only at h1 h2 h3 h4 h5 h6⊢;have hul:(u.map natC).length=N:=by rw[List.length_map,h1.fi.len,hN]
 have htl:=ocell_len I N;have htk:(List.take S.length (E.map edgeC)).length=S.length:=by rw[List.length_take,List.length_map];omega
 unfold joinM;refine EvC.seq ?_;refine EvC.a ?_ (by simp only[go_sem,htk]<;>rfl);refine EvC.cd (fun hc=>?_) (fun hc=>?_);rotate_left
 ·
  have hS0:S=[]:=by
   have:¬0<S.length:=by simpa using hc
   exact List.length_eq_zero_iff.1 (by omega)
  subst hS0;obtain⟨k1,k2,k3⟩:=h1.done;refine EvC.exit ?_;refine EvC.a ?_;have hlo3:∀k,k<N→rlook (osegK [(1000200,1000200),(1000201,1000201),(1000202,1000202)] N []) (2000000+k)=some (2000000+k):=fun k hk=>rlook_osegK_lo hk hn1 (A:=[(1000200,1000200),(1000201,1000201),(1000202,1000202)]) rfl;refine EvC.gcE (st2:=⟨[(6,.sc (.bool true))],[],foldM N I u W,3000000⟩) [6] (osegK [(1000200,1000200),(1000201,1000201),(1000202,1000202)] N []) 3000000 (osegK_ok (A:=[(1000200,1000200),(1000201,1000201),(1000202,1000202)]) rfl rfl rfl hn1 (by omega)) ?_ ?_
  ·unfold foldM;simp only[go_sem,rlook_osegK_hi hn1,List.cons_append,List.nil_append,List.append_nil,renMem_oK_cons hn1,otab_ren 2 norefs_edgeC,ocell_ren hlo3,ite_self,if_true]<;>rfl
  refine EvC.ret ⟨.inl rfl,_,(by simp only[go_sem]<;>rfl),?_⟩;exact hRt k3 u W k1 k2
 have hS0:0<S.length:=by simpa using hc
 clear hc;refine EvC.skip ?_;refine EvC.block ?_;obtain⟨T,xy,hT⟩:∃T xy,S=T++[xy]:=by
  rcases List.eq_nil_or_concat S with h|⟨T,xy,h⟩
  ·rw[h]at hS0;simp at hS0
  ·exact⟨T,xy,by rw[h,List.concat_eq_append]⟩
 have hm:=h1.mem xy (by rw[hT];simp);obtain⟨x,y,hxy⟩:∃x y:Nat,xy=((x:Int),(y:Int)):=⟨xy.1.toNat,xy.2.toNat,by rw[Int.toNat_of_nonneg hm.1,Int.toNat_of_nonneg hm.2.1]⟩;subst hxy;simp only at hm;have hx:x<N:=by omega
 have hy:y<N:=by omega
 have hTl:S.length=T.length+1:=by rw[hT];simp
 have hEl:(E.map edgeC).length=E.length:=List.length_map _;have hget:(E.map edgeC)[T.length]?=some [.sc (.int .i64 (x:Int)),.sc (.int .i64 (y:Int))]:=by
  have:E[T.length]?=some ((x:Int),(y:Int)):=by
   have h:(E.take S.length)[T.length]?=some ((x:Int),(y:Int)):=by rw[h3,hT];simp
   rw[List.getElem?_take]at h;split at h
   ·exact h
   ·cases h
  rw[List.getElem?_map,this];rfl
 rw[hTl]at h2 h3 h5 htk⊢;have hcl1:((T.length:Int)+1-1).toNat=T.length:=by omega
 have hE0:E.length≠0:=by simpa using h4
 have hi64:inI64 ((T.length:Int)+1-1)=true:=inI64_of (by omega) (by omega);have hi64':inI64 (T.length:Int)=true:=inI64_of (by omega) (by omega);refine EvC.a ?_ (by simp only[go_sem,hEl,htk,hcl1,hget,Int.natCast_add,Int.natCast_one]<;>rfl) (by simp[hi64,hi64'];try omega);refine EvC.a ?_ (by simp only[go_sem,hEl,htk,hcl1,Int.natCast_add,Int.natCast_one,Nat.sub_zero]<;>rfl) (by simp[hi64,hi64'];(try exact h4);(try omega));have hmd:∀W k,notO k=true→mdel (otab 2 edgeC W N I) k=otab 2 edgeC W N I:=fun W k hk=>mdel_otab _ _ _ (by omega) k hk;refine EvC.z 3000012 ?_ (by simp only[go_sem,hmd W 3000012 rfl]<;>rfl);have hulen:u.length=N:=by rw[h1.fi.len,hN]
 obtain⟨q1,q2,q3,q4⟩:=halved_ok h1.fi.ok (n:=x) (by omega);have w1:=least44_is h1.fi.ok (by omega) (n:=x) (by omega);rw[hulen]at w1;obtain⟨u1,hu1⟩:∃u1,u1=halved u x:=⟨_,rfl⟩;rw[←hu1]at q2 q3 q4 w1;have hu1len:u1.length=N:=by rw[q3,hulen]
 obtain⟨r1,r2,r3,r4⟩:=halved_ok q2 (n:=y) (by omega);have w2:=least44_is q2 (by omega) (n:=y) (by omega);rw[hu1len]at w2;obtain⟨u2,hu2⟩:∃u2,u2=halved u1 y:=⟨_,rfl⟩;rw[←hu2]at r2 r3 r4 w2;have hu2len:u2.length=N:=by rw[r3,hu1len]
 have hroot:∀k,rootU u2 k=rootU u k:=fun k=>by rw[r4,q4]
 rw[q4]at w2;have hul1:(u1.map natC).length=N:=by rw[List.length_map,hu1len]
 have hul2:(u2.map natC).length=N:=by rw[List.length_map,hu2len]
 have hJ2:=h1.same r2 (by rw[r3,q3]) hroot;apply EvC.seq;apply EvC.drw mixed
 ·apply Tr.run
  ·simp only[go_sem]<;>rfl
  ·simp
  apply Tr.cons
  ·exact .callW (i:=1000200) (u:=1000201) rfl rfl (by simp only[go_sem]<;>rfl) (by simp only[go_sem]<;>rfl) (by simp only[go_sem]<;>rfl) (by simp only[go_sem]<;>rfl) (by simp only[go_sem]<;>rfl) (by simp only[go_sem]<;>rfl) hul.symm (by omega) (by rw[hul1,hul]) (norefs_natC _) (norefs_natC _) rfl rfl (by simp only[go_sem]<;>rfl) w1
  apply Tr.run
  ·simp only[go_sem]<;>rfl
  ·simp
  apply Tr.cons
  ·exact .callW (i:=1000200) (u:=1000201) rfl rfl (by simp only[go_sem]<;>rfl) (by simp only[go_sem]<;>rfl) (by simp only[go_sem]<;>rfl) (by simp only[go_sem]<;>rfl) (by simp only[go_sem]<;>rfl) (by simp only[go_sem]<;>rfl) hul1.symm (by omega) (by rw[hul2,hul1]) (norefs_natC _) (norefs_natC _) rfl rfl (by simp only[go_sem]<;>rfl) w2
  apply Tr.done
  ·simp only[go_sem]<;>rfl
  ·simp
 ·kernel_rfl
 have hrx:rootU u x<N:=by have:=rootU_le h1.fi.ok x;omega
 have hry:rootU u y<N:=by have:=rootU_le h1.fi.ok y;omega
 have hrx2:rootU u2 x=rootU u x:=hroot x;have hry2:rootU u2 y=rootU u y:=hroot y;have hrrx:rootU u2 (rootU u x)=rootU u x:=by rw[hroot,rootU_root h1.fi.ok]
 have hrry:rootU u2 (rootU u y)=rootU u y:=by rw[hroot,rootU_root h1.fi.ok]
 have hsum:=sumR_same hroot N;generalize rootU u x=rx at *;generalize rootU u y=ry at *;refine EvC.seq ?_;refine EvC.a ?_;refine EvC.cd (fun hc=>?_) (fun hc=>?_)
 ·have hc:rx=ry:=by have:(rx:Int)=ry:=by simpa using hc
                    omega
  refine EvC.exit ?_;rw[hT]at hJ2;have hd:=hJ2.drop (show rootU u2 x=rootU u2 y by omega);have hTE:E.take T.length=T:=by
   have:=congrArg (List.take T.length) h3;rw[List.take_take,Nat.min_eq_left (by omega),hT,List.take_left]at this;exact this
  refine⟨joinK N,(u2,W,T,E),hgk,?_,⟨hd,by simp only;omega,hTE,h4,by simp only;omega,h6⟩,by simp only;omega⟩;have hlo':=hlo;have hhi':=hhi;rw[joinK]at hlo' hhi'⊢;simp only[go_sem,joinM,hhi',List.cons_append,List.nil_append,List.append_nil,renMem_oK_cons hn1,otab_ren 2 norefs_edgeC,ocell_ren hlo',ite_self,norefs_edges,if_true]<;>rfl
 have hc:rx≠ry:=by have:¬(rx:Int)=ry:=by simpa using hc
                   omega
 refine EvC.skip ?_;obtain⟨p,q,hp1,hq1,hpq,hqN,hpr,hqr,hxy⟩:∃p q:Nat,(if(rx:Int)≤ry then(rx:Int)else ry)=p∧(if(rx:Int)≤ry then(ry:Int)else rx)=q∧p<q∧q<N∧rootU u2 p=p∧rootU u2 q=q∧((rootU u2 x=p∧rootU u2 y=q)∨(rootU u2 x=q∧rootU u2 y=p)):=by
  by_cases h:rx<ry
  ·exact⟨rx,ry,by rw[if_pos (by omega)],by rw[if_pos (by omega)],h,hry,hrrx,hrry,.inl ⟨hrx2,hry2⟩⟩
  ·exact⟨ry,rx,by rw[if_neg (by omega)],by rw[if_neg (by omega)],by omega,hrx,hrry,hrrx,.inr ⟨hrx2,hry2⟩⟩
 rw[hT]at hJ2;apply EvC.seq;apply EvC.rs
 ·simp only[go_sem,hp1,hq1]<;>rfl
 ·simp
 refine XR.gcTo ⟨[(3,.rf 3000000 0),(7,.rf 3000001 0),(8,.fn 90 [.rf 3000000 0,.rf 3000001 0]),(42,.fn 90 [.rf 3000000 0,.rf 3000001 0]),(45,.sc (.int .i64 p)),(48,.sc (.int .i64 q))],[],joinM N I u2 W E.length T.length E,3000003⟩ [3,7,8,42,45,48] (joinK N) hgk ?_ ?_
 ·have hlo':=hlo;have hhi':=hhi;rw[joinK]at hlo' hhi'⊢;simp only[go_sem,joinM,hhi',List.cons_append,List.nil_append,List.append_nil,renMem_oK_cons hn1,otab_ren 2 norefs_edgeC,ocell_ren hlo',ite_self,norefs_edges,if_true]<;>rfl
 have hTE:E.take T.length=T:=by
  have:=congrArg (List.take T.length) h3;rw[List.take_take,Nat.min_eq_left (by omega),hT,List.take_left]at this;exact this
 apply XR.callI rfl rfl (by simp only[go_sem]<;>rfl) (by simp only[go_sem]<;>rfl) (by simp only[go_sem]<;>rfl);refine unite69_body (by omega) ⟨by omega,by omega⟩ hu2len W (show p<N by omega) hqN (by omega) T E B hBb hTE h4 (by omega) (by omega) h6 ?_ ?_
 ·intro hcl E' k1 k2 k3 k4;apply XR.done
  ·simp only[go_sem]<;>rfl
  ·simp
  refine EvC.cf ?_;have hJ3:=hJ2.unite v hI (by omega) hpq hpr hqr hxy hcl;have hpp:pU u2 p=p:=by have:=pU_root hJ2.fi.ok p;rwa[hpr]at this
  have hqq:pU u2 q=q:=by have:=pU_root hJ2.fi.ok q;rwa[hqr]at this
  obtain⟨_,hrs⟩:=rootU_set hJ2.fi.ok (by omega) hpq hpp hqq;have hless:=(sumR_less (up:=u2) (up':=u2.set q p) (q:=q) (fun k=>by
   rw[hrs];split
   ·omega
   ·exact Nat.le_refl _) (by rw[hrs,hqr,if_pos rfl];exact hpq) N).2 hqN
  have hpl:=pushN_len W p q I;have hTl2:(T++pushN W p q I).length=T.length+(pushN W p q I).length:=List.length_append;refine EvC.skip ⟨joinK N,(u2.set q p,mrgW W p q I,T++pushN W p q I,E'),hgk,?_,⟨hJ3,by simp only;omega,k1,k2,k3,k4⟩,by simp only;omega⟩;have hlo':=hlo;have hhi':=hhi;rw[joinK]at hlo' hhi'⊢;simp only[go_sem,joinM,hhi',List.cons_append,List.nil_append,List.append_nil,renMem_oK_cons hn1,otab_ren 2 norefs_edgeC,ocell_ren hlo',ite_self,norefs_edges,if_true]<;>rfl
 ·intro hcl W' k E' k1;apply XR.done
  ·simp only[go_sem]<;>rfl
  ·simp
  refine EvC.ct ?_;refine EvC.a ?_;have hlo3:∀k,k<N→rlook (osegK [(1000200,1000200),(1000201,1000201),(1000202,1000202)] N []) (2000000+k)=some (2000000+k):=fun k hk=>rlook_osegK_lo hk hn1 (A:=[(1000200,1000200),(1000201,1000201),(1000202,1000202)]) rfl;refine EvC.gcE (st2:=⟨[(6,.sc (.bool false))],[],foldM N I u2 W',3000000⟩) [6] (osegK [(1000200,1000200),(1000201,1000201),(1000202,1000202)] N []) 3000000 (osegK_ok (A:=[(1000200,1000200),(1000201,1000201),(1000202,1000202)]) rfl rfl rfl hn1 (by omega)) ?_ ?_
  ·unfold foldM joinM;simp only[go_sem,rlook_osegK_hi hn1,List.cons_append,List.nil_append,List.append_nil,renMem_oK_cons hn1,otab_ren 2 norefs_edgeC,ocell_ren hlo3,ite_self,if_true]<;>rfl
  refine EvC.ret ⟨.inl rfl,_,(by simp only[go_sem]<;>rfl),?_⟩;exact hRf (hJ2.bad hI (by omega) hpq hpr hqr hxy hcl) u2 W' hu2len
def rootsL(up:List Nat)(N:Nat):List Nat:=(List.range N).map (rootU up)
theorem rootsL_len(up:List Nat)(N:Nat):(rootsL up N).length=N:=by simp[rootsL]
theorem rootsL_get{up:List Nat}{N n:Nat}(h:n<N):pU (rootsL up N) n=rootU up n:=by
 unfold pU rootsL;rw[List.getElem?_map,List.getElem?_range h];rfl
theorem pU_out{up:List Nat}{n:Nat}(h:up.length≤n):pU up n=n:=by unfold pU;rw[List.getElem?_eq_none h];rfl
structure Can (c:List Nat):Prop where
 le:UpOk c
 fix:∀n,pU c (pU c n)=pU c n
theorem Can.root{c:List Nat}(h:Can c)(n:Nat):rootU c n=pU c n:=by
 rw[rootU_eq h.le];split
 ·rename_i hn;exact hn.symm
 ·exact rootU_fix h.le (h.fix n)
theorem rootsL_can{up:List Nat}(h:UpOk up){N:Nat}(hl:up.length=N):Can (rootsL up N):=by
 have key:∀n,pU (rootsL up N) n=rootU up n:=fun n=>by
  by_cases hn:n<N
  ·exact rootsL_get hn
  ·rw[pU_out (by rw[rootsL_len];omega),rootU_fix h (pU_out (by omega))]
 exact⟨fun n=>by rw[key];exact rootU_le h n,fun n=>by rw[key,key,rootU_root h]⟩
theorem rootsL_pU{up:List Nat}(h:UpOk up){N:Nat}(hl:up.length=N)(n:Nat):pU (rootsL up N) n=rootU up n:=by
 by_cases hn:n<N
 ·exact rootsL_get hn
 ·rw[pU_out (by rw[rootsL_len];omega),rootU_fix h (pU_out (by omega))]
theorem roots_same{u v:List Nat}(hu:UpOk u)(hv:UpOk v)(h:∀x y,rootU u x=rootU u y↔rootU v x=rootU v y)(n:Nat):rootU u n=rootU v n:=by
 have h1:rootU v n≤rootU u n:=by
  rw[←(h (rootU u n) n).1 (rootU_root hu n)];exact rootU_le hv _
 have h2:rootU u n≤rootU v n:=by
  rw[←(h (rootU v n) n).2 (rootU_root hv n)];exact rootU_le hu _
 omega
theorem rootsL_eq{u v:List Nat}{N:Nat}(h:∀n,rootU u n=rootU v n):rootsL u N=rootsL v N:=List.map_congr_left fun n _=>h n
theorem rootsL_fix{c:List Nat}(h:Can c){N:Nat}(hl:c.length=N):rootsL c N=c:=by
 refine List.ext_getElem (by rw[rootsL_len,hl]) fun i h1 h2=>?_;have e:(rootsL c N)[i]=rootU c i:=by simp[rootsL]
 rw[e,h.root,pU,List.getElem?_eq_getElem h2];rfl
def anyClash(W:Nat→Nat→Int×Int)(p q I:Nat):Bool:=(List.range I).any fun i=>clashE (W p i) (W q i)
def joinA(I:Nat):Nat→List Nat→(Nat→Nat→Int×Int)→List (Int×Int)→Option (List Nat×(Nat→Nat→Int×Int))
 | 0,_,_,_=>none
 | _+1,up,W,[]=>some (up,W)
 | f+1,up,W,xy::T=>
   if rootU up xy.1.toNat=rootU up xy.2.toNat then joinA I f up W T
   else if anyClash W (min (rootU up xy.1.toNat) (rootU up xy.2.toNat)) (max (rootU up xy.1.toNat) (rootU up xy.2.toNat)) I=true then none
   else joinA I f (up.set (max (rootU up xy.1.toNat) (rootU up xy.2.toNat)) (min (rootU up xy.1.toNat) (rootU up xy.2.toNat)))
    (mrgW W (min (rootU up xy.1.toNat) (rootU up xy.2.toNat)) (max (rootU up xy.1.toNat) (rootU up xy.2.toNat)) I) ((pushN W (min (rootU up xy.1.toNat) (rootU up xy.2.toNat)) (max (rootU up xy.1.toNat) (rootU up xy.2.toNat)) I).reverse++T)
theorem joinA_spec{t:Mach}(v:TV t){I:Nat}(hI:t.ins=(I:Int)){R:Nat→Nat→Prop}:∀(f:Nat) (up:List Nat) (W:Nat→Nat→Int×Int) (T:List (Int×Int)),17*sumR up t.rows.length+T.length<f→JInv t R up W T.reverse→
  match joinA I f up W T with
  | some (up',W')=>FI t up' W' (fun _ _=>False)∧(∀x y,rootU up' x=rootU up' y↔Cong t R x y)∧¬Clash t R
  | none=>Clash t R
 | 0,_,_,_,h,_=>by omega
 | f+1,up,W,[],_,hJ=>by rw[joinA];exact hJ.done
 | f+1,up,W,xy::T,hf,hJ=>by
   rw[joinA];have hin:=v.ins;have hm:=hJ.mem xy (by simp);obtain⟨x,y,hxy⟩:∃x y:Nat,xy=((x:Int),(y:Int)):=⟨xy.1.toNat,xy.2.toNat,by rw[Int.toNat_of_nonneg hm.1,Int.toNat_of_nonneg hm.2.1]⟩;subst hxy;rw[List.reverse_cons]at hJ;simp only[Int.toNat_natCast,List.length_cons]at hm hf⊢;have hx:=rootU_le hJ.fi.ok x;have hy:=rootU_le hJ.fi.ok y;have hrrx:=rootU_root hJ.fi.ok x;have hrry:=rootU_root hJ.fi.ok y;by_cases he:rootU up x=rootU up y
   ·rw[if_pos he];exact joinA_spec v hI f up W T (by omega) (hJ.drop he)
   rw[if_neg he];obtain⟨p,q,hp1,hq1,hpq,hqN,hpr,hqr,hxy⟩:∃p q:Nat,min (rootU up x) (rootU up y)=p∧max (rootU up x) (rootU up y)=q∧p<q∧q<t.rows.length∧rootU up p=p∧rootU up q=q∧((rootU up x=p∧rootU up y=q)∨(rootU up x=q∧rootU up y=p)):=by
    by_cases h:rootU up x<rootU up y
    ·exact⟨_,_,by omega,by omega,h,by omega,hrrx,hrry,.inl ⟨rfl,rfl⟩⟩
    ·exact⟨rootU up y,rootU up x,by omega,by omega,by omega,by omega,hrry,hrrx,.inr ⟨rfl,rfl⟩⟩
   rw[hp1,hq1];cases hcl:anyClash W p q I with
   | true=>
     rw[if_pos rfl];unfold anyClash at hcl;rw[List.any_eq_true]at hcl;obtain⟨i,hi,hc⟩:=hcl;exact hJ.bad hI hqN hpq hpr hqr hxy ⟨i,List.mem_range.1 hi,hc⟩
   | false=>
     rw[if_neg (by simp)];unfold anyClash at hcl;rw[List.any_eq_false]at hcl;have hcl':∀i,i<I→clashE (W p i) (W q i)=false:=fun i hi=>by simpa using hcl i (List.mem_range.2 hi)
     have hJ3:=hJ.unite v hI hqN hpq hpr hqr hxy hcl';have hpp:pU up p=p:=by have:=pU_root hJ.fi.ok p;rwa[hpr]at this
     have hqq:pU up q=q:=by have:=pU_root hJ.fi.ok q;rwa[hqr]at this
     obtain⟨_,hrs⟩:=rootU_set hJ.fi.ok (by rw[hJ.fi.len];exact hqN) hpq hpp hqq;have hless:=(sumR_less (up:=up) (up':=up.set q p) (q:=q) (fun k=>by
      rw[hrs];split
      ·omega
      ·exact Nat.le_refl _) (by rw[hrs,hqr,if_pos rfl];exact hpq) t.rows.length).2 hqN
     have hpl:=pushN_len W p q I;exact joinA_spec v hI f _ _ _ (by rw[List.length_append,List.length_reverse];omega) (by rw[List.reverse_append,List.reverse_reverse];exact hJ3)
structure IsF (t:Mach) (c:List Nat):Prop where
 can:Can c
 len:c.length=t.rows.length
 clo:∀x y i:Nat,pU c x=pU c y→(i:Int)<t.ins→clashE (eT t x i) (eT t y i)=false∧(bothE (eT t x i) (eT t y i)=true→pU c (eT t x i).1.toNat=pU c (eT t y i).1.toNat)
def wOf(t:Mach)(c:List Nat)(p i:Nat):Int×Int:=match(List.range c.length).find? fun m=>decide (pU c m=p)&&knownE (eT t m i)with
 | some m=>eT t m i
 | none=>(-1,-1)
theorem FI.ofF{t:Mach}{c:List Nat}(h:IsF t c):FI t c (wOf t c) fun _ _=>False:=by
 refine⟨h.can.le,h.len,fun m i hm hi hk=>?_,fun p i hp hpr hi hk=>?_⟩
 ·rw[h.can.root];unfold wOf;cases hfnd:(List.range c.length).find? fun m'=>decide (pU c m'=pU c m)&&knownE (eT t m' i)with
  | none=>
    rw[List.find?_eq_none]at hfnd;exact absurd (by simp[hk]) (hfnd m (List.mem_range.2 (by rw[h.len];exact hm)))
  | some m'=>
    have h1:=List.find?_some hfnd;simp only[Bool.and_eq_true,decide_eq_true_eq]at h1;simp only;obtain⟨h2,h3⟩:=h.clo m m' i h1.1.symm hi;exact⟨h1.2,h2,fun hb=>.base (.inl (by rw[h.can.root,h.can.root];exact h3 hb))⟩
 ·unfold wOf at hk⊢;cases hfnd:(List.range c.length).find? fun m'=>decide (pU c m'=p)&&knownE (eT t m' i)with
  | none=>rw[hfnd]at hk;cases hk
  | some m'=>
    have h1:=List.find?_some hfnd;have h2:=List.mem_range.1 (List.mem_of_find?_eq_some hfnd);simp only[Bool.and_eq_true,decide_eq_true_eq]at h1;exact⟨m',by rw[←h.len];exact h2,by rw[h.can.root];exact h1.1,rfl⟩
theorem FI.isF{t:Mach}{up:List Nat}{W:Nat→Nat→Int×Int}(h:FI t up W fun _ _=>False):IsF t (rootsL up t.rows.length):=by
 refine⟨rootsL_can h.ok h.len,rootsL_len _ _,fun x y i hxy hi=>?_⟩;rw[rootsL_pU h.ok h.len,rootsL_pU h.ok h.len]at hxy;refine⟨h.noclash hxy hi,fun hb=>?_⟩;rw[rootsL_pU h.ok h.len,rootsL_pU h.ok h.len];exact h.cong (R:=fun a b=>rootU up a=rootU up b) (fun _ _ h=>h) (.step (.base hxy) hi hb)
def pairR(c:List Nat)(a b:Nat):Nat→Nat→Prop:=fun x y=>pU c x=pU c y∨(x=a∧y=b)
theorem joinR_eq{up c:List Nat}(h:∀n,rootU up n=pU c n)(a b:Nat):joinR up a b=pairR c a b:=by
 funext x y;unfold joinR pairR;rw[h,h]
def foldC(t:Mach)(c:List Nat)(a b:Nat):Option (List Nat):=
 (joinA t.ins.toNat (17*sumR c t.rows.length+2) c (wOf t c) [((a:Int),(b:Int))]).map fun r=>rootsL r.1 t.rows.length
theorem foldC_spec{t:Mach}(v:TV t){c:List Nat}(hc:IsF t c){a b:Nat}(ha:a<t.rows.length)(hb:b<t.rows.length):
  match foldC t c a b with
  | some d=>IsF t d∧(∀x y,pU d x=pU d y↔Cong t (pairR c a b) x y)∧¬Clash t (pairR c a b)
  | none=>Clash t (pairR c a b):=by
 have hin:=v.ins;have hI:t.ins=((t.ins.toNat:Nat):Int):=(Int.toNat_of_nonneg (by omega)).symm;have hR:=joinR_eq (up:=c) (c:=c) hc.can.root a b;have h:=joinA_spec v hI (R:=pairR c a b) (17*sumR c t.rows.length+2) c (wOf t c) [((a:Int),(b:Int))] (by simp only[List.length_singleton];omega) (by
  have:=JInv.start (FI.ofF hc) ha hb;rw[hR]at this;exact this)
 unfold foldC;cases hj:joinA t.ins.toNat (17*sumR c t.rows.length+2) c (wOf t c) [((a:Int),(b:Int))]with
 | none=>rw[hj]at h;exact h
 | some r=>
   obtain⟨up',W'⟩:=r;rw[hj]at h;simp only[Option.map_some]at h⊢;obtain⟨h1,h2,h3⟩:=h;exact⟨h1.isF,fun x y=>by rw[rootsL_pU h1.ok h1.len,rootsL_pU h1.ok h1.len];exact h2 x y,h3⟩
theorem foldC_some{t:Mach}(v:TV t){c d:List Nat}(hc:IsF t c){a b:Nat}(ha:a<t.rows.length)(hb:b<t.rows.length)(hd:Can d)(hl:d.length=t.rows.length)(h:∀x y,pU d x=pU d y↔Cong t (pairR c a b) x y)(hn:¬Clash t (pairR c a b)):foldC t c a b=some d:=by
 have hs:=foldC_spec v hc ha hb;cases hf:foldC t c a b with
 | none=>rw[hf]at hs;exact absurd hs hn
 | some e=>
   rw[hf]at hs;obtain⟨h1,h2,_⟩:=hs;have he:∀n,rootU e n=rootU d n:=roots_same h1.can.le hd.le fun x y=>by
    rw[h1.can.root,h1.can.root,hd.root,hd.root,h2,h]
   rw[←rootsL_fix h1.can h1.len,←rootsL_fix hd hl,rootsL_eq he]
theorem foldC_none{t:Mach}(v:TV t){c:List Nat}(hc:IsF t c){a b:Nat}(ha:a<t.rows.length)(hb:b<t.rows.length)(hn:Clash t (pairR c a b)):foldC t c a b=none:=by
 have hs:=foldC_spec v hc ha hb;cases hf:foldC t c a b with
 | none=>rfl
 | some e=>rw[hf]at hs;exact absurd hn hs.2.2
structure RF (t:Mach) (c0:List Nat) (a b:Nat) (c:List Nat):Prop where
 can:Can c
 len:c.length=t.rows.length
 old:∀x y,pairR c0 a b x y→pU c x=pU c y
 sub:∀x y,pU c x=pU c y→Cong t (pairR c0 a b) x y
theorem IsF.cong{t:Mach}{c:List Nat}(h:IsF t c){R:Nat→Nat→Prop}(hR:∀x y,R x y→pU c x=pU c y){x y:Nat}(hc:Cong t R x y):pU c x=pU c y:=by
 induction hc with
 | base h=>exact hR _ _ h
 | refl x=>rfl
 | symm _ ih=>exact ih.symm
 | trans _ _ ih1 ih2=>exact ih1.trans ih2
 | step _ hi hb ih=>exact(h.clo _ _ _ ih hi).2 hb
theorem row_get{t:Mach}(v:TV t){n i:Nat}(hn:n<t.rows.length)(hi:(i:Int)<t.ins):∃A:Row,t.rows[n]?=some A∧(A.2.length:Int)=t.ins∧A.2[i]?=some (eT t n i):=by
 refine⟨t.rows[n],List.getElem?_eq_getElem hn,(v.row n _ (List.getElem?_eq_getElem hn)).1,?_⟩;have hl:=(v.row n _ (List.getElem?_eq_getElem hn)).1;rw[eT,List.getElem?_eq_getElem hn];simp only[Option.map_some,Option.getD_some];rw[List.getElem?_eq_getElem (by omega)];rfl
theorem pU_range(n k:Nat):pU (List.range n) k=k:=by
 unfold pU;by_cases h:k<n
 ·rw[List.getElem?_range h];rfl
 ·rw[List.getElem?_eq_none (by simp;omega)];rfl
theorem rootsL_range(n:Nat):rootsL (List.range n) n=List.range n:=by
 have:(List.range n).map (rootU (List.range n))=(List.range n).map id:=List.map_congr_left fun k _=>rootU_range n k;rw[rootsL,this,List.map_id]
theorem isF_alone(t:Mach):IsF t (List.range t.rows.length):=by
 have:=(FI.alone t).isF
 rwa[rootsL_range]at this
theorem FI.fold_some{t:Mach}(v:TV t){up c:List Nat}{W:Nat→Nat→Int×Int}(h:FI t up W fun _ _=>False)(hc:IsF t c){a b:Nat}(ha:a<t.rows.length)(hb:b<t.rows.length)(hr:∀x y,rootU up x=rootU up y↔Cong t (pairR c a b) x y)(hn:¬Clash t (pairR c a b)):foldC t c a b=some (rootsL up t.rows.length):=
 foldC_some v hc ha hb (rootsL_can h.ok h.len) (rootsL_len _ _) (fun x y=>by rw[rootsL_pU h.ok h.len,rootsL_pU h.ok h.len];exact hr x y) hn
theorem PureIs.nilT{P:Program}{f:FuncId}{args xs:List AV}{c:Cp}(h:PureIs P f args (.tu (.sl true [] c::xs))):PureIs P f args (.tu (.sl true [] .zer::xs)):=
 ⟨h.1,fun F w vals hF hi=>(h.2 F w vals hF hi).mono fun e w' ⟨v,F',k1,k2,k3⟩=>⟨v,F',k1,by
  cases k2 with
  | tu vs cs hl hh=>
    refine .tu vs _ hl fun i h1 h2=>?_;cases i with
    | zero=>exact(hh 0 h1 (by simp)).nil_zer
    | succ i=>exact hh (i+1) h1 (by simpa using h2),k3⟩⟩
def foldRes(t:Mach)(a b:Int):AV:=
 if nodesE t [a,b]≠0 then .tu [.sl true [] .zer,.sc (.bool false),.sc (.int .i64 (nodesE t [a,b]))]
 else match foldC t (List.range t.rows.length) a.toNat b.toNat with
  | some c=>.tu [.sl false (c.map natC) .full,.sc (.bool true),.sc (.int .i64 0)]
  | none=>.tu [.sl true [] .zer,.sc (.bool false),.sc (.int .i64 0)]
theorem nodesE_ok{t:Mach}{l:List Int}(h:nodesE t l=0):TV t∧∀x∈l,0≤x∧x<t.rows.length:=by
 unfold nodesE at h;split at h
 ·rename_i h1;exact absurd h h1
 ·rename_i h1;split at h
  ·rename_i h2;refine⟨TV.of (by simpa using h1),fun x hx=>?_⟩;rw[List.all_eq_true]at h2;exact of_decide_eq_true (h2 x hx)
  ·cases h
def RowsF(t:Mach):Prop:=∀r∈t.rows,r.2≠[]→r.1=false
theorem TV.rowsF{t:Mach}(v:TV t)(h:RowsF t):∀r∈t.rows,r.1=false:=fun r hr=>by
 obtain⟨i,hi,rfl⟩:=List.mem_iff_getElem.1 hr;have:=(v.row i _ (List.getElem?_eq_getElem hi)).1;have hin:=v.ins;exact h _ hr fun e=>by rw[e]at this;simp at this;omega
def rootPart(up:List Nat)(N i:Nat):List Nat:=(List.range i).map (rootU up)++List.replicate (N-i) 0
theorem rootPart_len{up:List Nat}{N i:Nat}(h:i≤N):(rootPart up N i).length=N:=by simp[rootPart];omega
theorem rootPart_zero(up:List Nat)(N:Nat):(rootPart up N 0).map natC=List.replicate N [.sc (.int .i64 0)]:=by simp[rootPart,natC]
theorem rootPart_all(up:List Nat)(N:Nat):rootPart up N N=rootsL up N:=by simp[rootPart,rootsL]
theorem rootPart_set{up:List Nat}{N i:Nat}(h:i<N):((rootPart up N i).map natC).set i [.sc (.int .i64 (rootU up i:Nat))]=(rootPart up N (i+1)).map natC:=by
 obtain⟨d,hd⟩:∃d,N-i=d+1:=⟨N-i-1,by omega⟩;have hd':N-(i+1)=d:=by omega
 rw[rootPart,rootPart,hd,hd',List.replicate_succ,List.map_append,List.set_append_right _ _ (by simp),List.length_map,List.length_map,List.length_range,Nat.sub_self,List.map_cons,List.set_cons_zero,List.range_succ,List.map_append,List.map_append,List.map_append];simp[natC]
theorem rootPart_get{up:List Nat}{N i:Nat}(h:i<N):(rootPart up N i)[i]?=some 0:=by
 rw[rootPart,List.getElem?_append_right (by simp),List.length_map,List.length_range,Nat.sub_self,List.getElem?_replicate,if_pos (by omega)]
def foldRes'(t:Mach)(a b:Int):AV:=
 if nodesE t [a,b]≠0 then .tu [.sl true [] .unk,.sc (.bool false),.sc (.int .i64 (nodesE t [a,b]))]
 else match foldC t (List.range t.rows.length) a.toNat b.toNat with
  | some c=>.tu [.sl false (c.map natC) .full,.sc (.bool true),.sc (.int .i64 0)]
  | none=>.tu [.sl true [] .unk,.sc (.bool false),.sc (.int .i64 0)]
set_option maxHeartbeats 8000000 in
theorem fold16_is'(t:Mach)(hr:∀r∈t.rows,r.2.length<1000000)(hf:RowsF t)(a b:Int):PureIs prog 42 [.ag t.cells,.sc (.int .i64 a),.sc (.int .i64 b)] (foldRes' t a b):=by
 have hN:=nodes37_is t hr false [a,b] .full (by simp);rw[show([a,b].map intC)=[[.sc (.int .i64 a)],[.sc (.int .i64 b)]]from rfl]at hN;unfold foldRes';generalize hne:nodesE t [a,b]=e at hN;refine PureIs.of1 4 [6,7,8,9,10,11,12,19,27,33,34,35,21,31,23,24,25] func42 ntmps42 results42 fun _=>?_;refine EvC.a ?_ (by simp only[go_sem,Mach.cells]<;>rfl);refine EvC.z 0 ?_;rw[Mach.cells]at hN;refine EvC.seq ?_;refine EvC.k1 ?_ (c1:=.ca hN);refine EvC.a ?_;by_cases he:e=0;rotate_left
 ·rw[if_pos he];refine EvC.ct ?_ (by simp only[go_sem,decide_eq_false he]<;>rfl);refine EvC.a ?_;refine EvC.rz ?_;simp only[go_sem]
 rw[if_neg Bool.false_ne_true,if_neg (fun h=>h he)];subst he;obtain⟨v,hab⟩:=nodesE_ok hne;have ha:=hab a (by simp);have hb:=hab b (by simp);obtain⟨a',rfl⟩:∃n:Nat,a=(n:Int):=⟨a.toNat,by omega⟩;obtain⟨b',rfl⟩:∃n:Nat,b=(n:Int):=⟨b.toNat,by omega⟩;rw[Int.toNat_natCast,Int.toNat_natCast];have haN:a'<t.rows.length:=by omega
 have hbN:b'<t.rows.length:=by omega
 have hin:=v.ins;have hrw:=v.rows;have hI:t.ins=((t.ins.toNat:Nat):Int):=(Int.toNat_of_nonneg (by omega)).symm;have hs:=fun up W (h:FI t up W fun _ _=>False)=>h.fold_some v (isF_alone t) haN hbN;have hn:=foldC_none v (isF_alone t) haN hbN;have hjR:=joinR_eq (up:=List.range t.rows.length) (c:=List.range t.rows.length) (fun n=>by rw[rootU_range,pU_range]) a' b';have hal:=fun R=>alone42_body v (v.rowsF hf) hI (R:=R);have hjo:=fun R=>join43_body v hI (FI.alone t) haN hbN (R:=R);rw[hjR]at hjo;generalize foldC t (List.range t.rows.length) a' b'=res at hs hn⊢;obtain⟨N,hNd⟩:∃N,N=t.rows.length:=⟨_,rfl⟩;rw[←hNd]at hs hn hal hjo hrw;have hn1:N≤1000000:=by omega
 refine EvC.cs ?_;apply EvC.seq;apply EvC.rs
 ·simp only[go_sem]<;>rfl
 ·simp
 refine XR.gcTo ⟨[(1,.sc (.int .i64 a')),(2,.sc (.int .i64 b')),(3,.ia t.cells),(21,.ag t.cells)],[],[],1000100⟩ [1,2,3,21] [] rfl (by simp only[go_sem,Mach.cells]<;>rfl) ?_;apply XR.callI rfl rfl (by simp only[go_sem]<;>rfl) (by simp only[go_sem]<;>rfl) (by simp only[go_sem]<;>rfl);refine hal _ ?_;apply XR.done
 ·simp only[go_sem]<;>rfl
 ·simp
 refine EvC.seq ?_;have hlo3:∀k,k<N→rlook (osegK [(1000200,1000200),(1000201,1000201),(1000202,1000202)] N []) (2000000+k)=some (2000000+k):=fun k hk=>rlook_osegK_lo hk hn1 (A:=[(1000200,1000200),(1000201,1000201),(1000202,1000202)]) rfl;have hgk:=osegK_ok (base:=0) (nx:=3000000) (A:=[(1000200,1000200),(1000201,1000201),(1000202,1000202)]) (n:=N) rfl rfl rfl hn1 (by omega);apply EvC.seq;apply EvC.rs
 ·simp only[go_sem]<;>rfl
 ·simp
 refine XR.gcTo ⟨[(1,.sc (.int .i64 a')),(2,.sc (.int .i64 b')),(3,.ia t.cells),(10,.rf 1000200 0),(23,.rf 1000200 0),(24,.sc (.int .i64 a')),(25,.sc (.int .i64 b'))],[],foldM N t.ins.toNat (List.range N) (eT t),3000000⟩ [1,2,3,10,23,24,25] (osegK [(1000200,1000200),(1000201,1000201),(1000202,1000202)] N []) hgk ?_ ?_
 ·have hff:=foldM_ren (I:=t.ins.toNat) hn1 (List.range N) (eT t);simp only[go_sem,hff,Mach.cells,rlook_osegK_hi hn1,List.append_nil]<;>rfl
 apply XR.callI rfl rfl (by simp only[go_sem]<;>rfl) (by simp only[go_sem]<;>rfl) (by simp only[go_sem]<;>rfl);refine hjo _ ?_ ?_;rotate_left
 ·intro hcl up' W' _;rw[hn hcl];apply XR.done
  ·simp only[go_sem]<;>rfl
  ·simp
  refine EvC.ct ?_;refine EvC.a ?_;refine EvC.rz ?_;simp only[go_sem]
 intro hcl up W hF hroot;rw[hs up W hF hroot hcl];apply XR.done
 ·simp only[go_sem]<;>rfl
 ·simp
 refine EvC.cs ?_;clear hs hn hjo hal;have htk0:(List.take N (List.replicate N [AV.sc (.int .i64 0)])).length=N:=by simp
 unfold foldM;refine EvC.a ?_ (by simp only[go_sem,Mach.cells,List.length_map,←hNd]<;>rfl) (by simp[room_eq];omega);refine EvC.seq ?_;refine EvC.a ?_ (by simp only[go_sem,List.length_map,List.length_replicate,htk0]<;>rfl);refine EvC.block ?_;refine EvC.loopS (σ:=Nat×List Nat) (fun g=>⟨[(10,.rf 1000200 0),(11,.tv 3000000 N 0 N (.val N)),(33,.sc (.int .i64 N)),(34,.sc (.int .i64 g.1))],[],
  (1000200,.cells [.tv 1000201 N 0 N .unk,.junk])::(1000201,.arr 1 (g.2.map natC) false)::(3000000,.arr 1 ((rootPart up N g.1).map natC) false)::[],3000001⟩) (fun g=>N-g.1) (fun g=>g.1≤N∧UpOk g.2∧g.2.length=N∧∀k,rootU g.2 k=rootU up k) [10,11,33,34] 3000001 ?_ ?_
 ·refine⟨[(1000200,1000200),(1000201,1000201),(3000004,3000000)],(0,up),rfl,?_,Nat.zero_le _,hF.ok,by rw[hF.len,←hNd],fun _=>rfl⟩;have hz1:(List.replicate N [AV.sc (.int .i64 0)]).all AV.norefs=true:=by simp[List.all_eq_true,AV.norefs,AV.noref]
  simp only[go_sem,rootPart_zero,hz1,if_true,Int.natCast_zero]<;>rfl
 rintro⟨i,u⟩ ⟨h1,h2,h3,h4⟩;simp only at h1 h2 h3 h4⊢;have hiin:(i:Int).toNat=i:=Int.toNat_natCast i;have hul:(u.map natC).length=N:=by rw[List.length_map,h3]
 have hpl:((rootPart up N i).map natC).length=N:=by rw[List.length_map,rootPart_len h1]
 refine EvC.a ?_;refine EvC.seq ?_;refine EvC.cd (fun hc=>?_) (fun hc=>?_);rotate_left
 ·
  obtain rfl:i=N:=by have:¬i<N:=by simpa using hc
                     omega
  refine EvC.exit ?_;rw[rootPart_all];have hrl:=rootsL_len up i;refine EvC.frz 3000000 (by simp only[go_sem,hrl]<;>rfl) ?_;refine EvC.a ?_ (by simp only[go_sem,hrl]<;>rfl);refine EvC.rz ?_;simp only[go_sem]
 have hi:i<N:=by simpa using hc
 clear hc;refine EvC.skip ?_;refine EvC.seq ?_;refine EvC.block ?_;obtain⟨q1,q2,q3,q4⟩:=halved_ok h2 (n:=i) (by omega);have w1:=least44_is h2 (by omega) (n:=i) (by omega);rw[h3,h4]at w1;have hg0:=rootPart_get (up:=up) hi;have hset:=rootPart_set (up:=up) hi;obtain⟨u1,hu1⟩:∃u1,u1=halved u i:=⟨_,rfl⟩;rw[←hu1]at q2 q3 q4 w1;have hul1:(u1.map natC).length=N:=by rw[List.length_map,q3,h3]
 refine EvC.a ?_;apply EvC.tr
 ·apply Tr.run
  ·simp only[go_sem]<;>rfl
  ·simp
  apply Tr.cons
  ·exact .callW (i:=1000200) (u:=1000201) rfl rfl (by simp only[go_sem]<;>rfl) (by simp only[go_sem]<;>rfl) (by simp only[go_sem]<;>rfl) (by simp only[go_sem]<;>rfl) (by simp only[go_sem]<;>rfl) (by simp only[go_sem]<;>rfl) hul.symm (by omega) (by rw[hul1,hul]) (norefs_natC _) (norefs_natC _) rfl rfl (by simp only[go_sem]<;>rfl) w1
  apply Tr.done
  ·simp only[go_sem,hpl,hiin,hg0,natC,hset]<;>rfl
  ·simp;try omega
 refine EvC.bi ?_;exact⟨[(1000200,1000200),(1000201,1000201),(3000000,3000000)],(i+1,u1),rfl,(by simp only[go_sem,Int.natCast_add,Int.natCast_one]<;>rfl),⟨hi,q2,by simp only;omega,fun k=>by simp only;rw[q4,h4]⟩,by simp only;omega⟩
theorem fold16_is(t:Mach)(hr:∀r∈t.rows,r.2.length<1000000)(hf:RowsF t)(a b:Int):PureIs prog 42 [.ag t.cells,.sc (.int .i64 a),.sc (.int .i64 b)] (foldRes t a b):=by
 have h:=fold16_is' t hr hf a b;unfold foldRes' at h;unfold foldRes;split at h
 ·rename_i he;rw[if_pos he];exact h.nilT
 ·rename_i he;rw[if_neg he];split at h
  ·rename_i c hc;exact h
  ·rename_i hc;exact h.nilT
@[go_sem] theorem key3:isKey prog 3=keyTest false [.int .i64]:=isKey_of (by kernel_rfl) (by kernel_rfl)
def entsI:Nat→List Int→List (Value×AV)
 | _,[]=>[]
 | i,c::l=>(.int .i64 c,.sc (.int .i64 i))::entsI (i+1) l
@[go_sem] theorem norefs_entsI:∀(l:List Int) (i:Nat),((entsI i l).all fun p=>p.2.noref)=true
 | [],_=>rfl
 | c::l,i=>by simp only[entsI,List.all_cons,norefs_entsI l,AV.noref,Bool.and_self]
@[go_sem] theorem entsI_len:∀(l:List Int) (i:Nat),(entsI i l).length=l.length
 | [],_=>rfl
 | c::l,i=>by simp only[entsI,List.length_cons,entsI_len l]
theorem eqVal_int(a b:Int):eqVal (.int .i64 a) (.int .i64 b)=decide (a=b):=by
 simp[eqVal,Value.cells,eqCells,eqCell]
theorem elook_entsI(x:Int):∀(l:List Int) (i:Nat),elook (entsI i l) (.int .i64 x)=if x∈l then some (.sc (.int .i64 (i+l.idxOf x:Nat)))else none
 | [],_=>rfl
 | d::l,i=>by
   simp only[entsI,elook,eqVal_int,List.mem_cons,List.idxOf_cons];by_cases h:x=d
   ·subst h;simp
   ·have h':(d==x)=false:=by simpa using fun e=>h e.symm
    rw[if_neg (by simpa using h),elook_entsI x l (i+1),h'];simp only[h,false_or,cond_false];by_cases hc:x∈l
    ·rw[if_pos hc,if_pos hc,show i+1+l.idxOf x=i+(l.idxOf x+1) by omega]
    ·rw[if_neg hc,if_neg hc]
theorem eset_entsI(x:Int):∀(l:List Int) (i:Nat),x∉l→eset (entsI i l) (.int .i64 x) (.sc (.int .i64 (i+l.length:Nat)))=entsI i (l++[x])
 | [],_,_=>rfl
 | d::l,i,h=>by
   simp only[List.mem_cons,not_or]at h;simp only[entsI,eset,eqVal_int,List.cons_append];rw[if_neg (by simpa using h.1)];congr 1;have:=eset_entsI x l (i+1) h.2;rw[show i+1+l.length=i+(d::l).length by simp;omega]at this;exact this
theorem entsI_get:∀(l:List Int) (i j:Nat),(entsI i l)[j]?=(l[j]?).map fun c=>(.int .i64 c,.sc (.int .i64 (i+j:Nat)))
 | [],_,_=>by simp[entsI]
 | c::l,i,0=>by simp[entsI]
 | c::l,i,j+1=>by
   simp only[entsI,List.getElem?_cons_succ,entsI_get l (i+1) j];congr 1;funext c;rw[show i+1+j=i+(j+1) by omega]
def frM(N:Nat)(up:List Nat)(V:List (List AV)):Mem:=[(1000010,.cells [.tv 1000011 N 0 N .unk,.sl false V .unk]),(1000011,.arr 1 (up.map natC) false)]
def redE(up red:List Nat):List Int:=red.map fun r=>((rootU up r:Nat):Int)
theorem redE_same{u v:List Nat}(h:∀k,rootU u k=rootU v k)(red:List Nat):redE u red=redE v red:=List.map_congr_left fun r _=>by rw[h]
set_option maxHeartbeats 4000000 in
theorem states48_body{N:Nat}(hN:1≤N∧N≤70000){up:List Nat}(hu:UpOk up)(hul:up.length=N)(V:List (List AV))(nl:Bool)(red:List Nat)(c:Cp)(hred:∀r∈red,r<N)(hrl:red.length<1000000)(hnd:(redE up red).Nodup){R:AV→Mem→Nat→Prop}
  (hR:∀up',UpOk up'→up'.length=N→(∀k,rootU up' k=rootU up k)→R (.mp 1000150) (frM N up' V++[(1000150,.map 3 (entsI 0 (redE up red)))]) 1000151):
  BodyIs prog 35 [.rf 1000010 0,.sl nl (red.map natC) c] (frM N up V) 1000150 R:=by
 refine BodyIs.of (nv:=2) (hid:=[4,5,6,7,11,12,13,14]) func35 rfl (by kernel_rfl) (by simp[ntmps35]) fun h0=>?_;rw[ntmps35,results35];unfold frM;refine EvC.a ?_;refine EvC.a ?_ (by simp only[go_sem,List.length_map]<;>rfl);refine EvC.seq ?_;refine EvC.a ?_ (by simp only[go_sem,List.length_map]<;>rfl);refine EvC.block ?_;refine EvC.loopS (σ:=Nat×List Nat) (fun g=>⟨[(0,.rf 1000010 0),(5,.mp 1000150),(11,.sl nl (red.map natC) c),(12,.sc (.int .i64 red.length)),(13,.sc (.int .i64 g.1))],[],[(1000010,.cells [.tv 1000011 N 0 N .unk,.sl false V .unk]),(1000011,.arr 1 (g.2.map natC) false),(1000150,.map 3 (entsI 0 (redE up (red.take g.1))))],1000151⟩) (fun g=>red.length-g.1)
  (fun g=>g.1≤red.length∧UpOk g.2∧g.2.length=N∧∀k,rootU g.2 k=rootU up k) [0,5,11,12,13] 1000151 ?_ ?_
 ·exact⟨[(1000010,1000010),(1000011,1000011),(1000153,1000150)],(0,up),rfl,(by simp only[go_sem,List.take_zero,redE,List.map_nil,entsI,Int.natCast_zero]<;>rfl),Nat.zero_le _,hu,hul,fun _=>rfl⟩
 rintro⟨s,u⟩ ⟨h1,h2,h3,h4⟩;simp only at h1 h2 h3 h4⊢;have hul1:(u.map natC).length=N:=by rw[List.length_map,h3]
 have hsin:(s:Int).toNat=s:=Int.toNat_natCast s;refine EvC.a ?_;refine EvC.seq ?_;refine EvC.cd (fun hc=>?_) (fun hc=>?_);rotate_left
 ·
  obtain rfl:s=red.length:=by have:¬s<red.length:=by simpa using hc
                              omega
  refine EvC.exit ?_;rw[List.take_length];refine EvC.a ?_;refine EvC.gcE (st2:=⟨[(4,.mp 1000150)],[],frM N u V++[(1000150,.map 3 (entsI 0 (redE up red)))],1000151⟩) [4] [(1000010,1000010),(1000011,1000011),(1000150,1000150)] 1000151 rfl (by simp only[go_sem,frM,List.cons_append,List.nil_append]<;>rfl) ?_;refine EvC.ret ⟨.inl rfl,_,(by simp only[go_sem]<;>rfl),?_⟩;exact hR u h2 h3 h4
 have hs:s<red.length:=by simpa using hc
 clear hc;refine EvC.skip ?_;refine EvC.seq ?_;refine EvC.block ?_;have hx:red[s]?=some (red[s]'hs):=List.getElem?_eq_getElem hs;have hxN:=hred _ (List.getElem_mem hs);have hnext:red.take (s+1)=red.take s++[red[s]'hs]:=List.take_succ_eq_append_getElem hs;have hnd2:(redE up (red.take (s+1))).Nodup:=by
  have:(redE up (red.take (s+1)))=(redE up red).take (s+1):=by simp[redE,List.map_take]
  rw[this];exact hnd.sublist (List.take_sublist _ _)
 generalize red[s]'hs=r at hx hxN hnext;have hE:redE up (red.take (s+1))=redE up (red.take s)++[((rootU up r:Nat):Int)]:=by rw[hnext,redE,List.map_append];rfl
 have hEl:(redE up (red.take s)).length=s:=by simp[redE];omega
 have hnot:((rootU up r:Nat):Int)∉redE up (red.take s):=fun hm=>by
  rw[hE]at hnd2;exact(List.nodup_append.1 hnd2).2.2 _ hm _ (by simp) rfl
 have hset:=eset_entsI _ _ 0 hnot;rw[hEl,Nat.zero_add,←hE]at hset;obtain⟨q1,q2,q3,q4⟩:=halved_ok h2 (n:=r) (by omega);have w1:=least44_is h2 (by omega) (n:=r) (by omega);rw[h3,h4]at w1;obtain⟨u1,hu1⟩:∃u1,u1=halved u r:=⟨_,rfl⟩;rw[←hu1]at q2 q3 q4 w1;have hul2:(u1.map natC).length=N:=by rw[List.length_map,q3,h3]
 refine EvC.a ?_ (by simp only[go_sem,hx,natC,hsin,List.length_map]<;>rfl) (by simp;try omega);apply EvC.tr
 ·apply Tr.run
  ·simp only[go_sem]<;>rfl
  ·simp
  apply Tr.cons
  ·exact .callW (i:=1000010) (u:=1000011) rfl rfl (by simp only[go_sem]<;>rfl) (by simp only[go_sem]<;>rfl) (by simp only[go_sem]<;>rfl) (by simp only[go_sem]<;>rfl) (by simp only[go_sem]<;>rfl) (by simp only[go_sem]<;>rfl) hul1.symm (by omega) (by rw[hul2,hul1]) (norefs_natC _) (norefs_natC _) rfl rfl (by simp only[go_sem]<;>rfl) w1
  apply Tr.done
  ·simp only[go_sem,hset]<;>rfl
  ·simp
 refine EvC.bi ?_;exact⟨[(1000010,1000010),(1000011,1000011),(1000150,1000150)],(s+1,u1),rfl,(by simp only[go_sem,Int.natCast_add,Int.natCast_one]<;>rfl),⟨hs,q2,by simp only;omega,fun k=>by simp only;rw[q4,h4]⟩,by simp only;omega⟩
def rowsV(W:Nat→Nat→Int×Int)(N I:Nat):List (List AV):=(List.range N).map fun s=>[.sl false (gcells edgeC (W s) I) .unk]
theorem rowsV_len(W:Nat→Nat→Int×Int)(N I:Nat):(rowsV W N I).length=N:=by simp[rowsV]
theorem rowsV_get{W:Nat→Nat→Int×Int}{N I n:Nat}(h:n<N):(rowsV W N I)[n]?=some [.sl false (gcells edgeC (W n) I) .unk]:=by rw[rowsV,List.getElem?_map,List.getElem?_range h];rfl
def NxtI(up red:List Nat)(W:Nat→Nat→Int×Int)(p i k:Nat):Prop:=∃j,j<i∧(W p j).1≠ -1∧k=rootU up (W p j).1.toNat∧∀r∈red,rootU up r≠k
def MinOf(S:Nat→Prop)(o:Int):Prop:=(o=-1∧∀k,¬S k)∨∃k:Nat,o=k∧S k∧∀k',S k'→k≤k'
theorem MinOf.congr{S S':Nat→Prop}{o:Int}(h:MinOf S o)(e:∀k,S k↔S' k):MinOf S' o:=by
 rcases h with⟨h1,h2⟩|⟨k,h1,h2,h3⟩
 ·exact .inl ⟨h1,fun k hk=>h2 k ((e k).2 hk)⟩
 ·exact .inr ⟨k,h1,(e k).1 h2,fun k' hk=>h3 k' ((e k').2 hk)⟩
theorem MinOf.add{S:Nat→Prop}{o:Int}(h:MinOf S o)(m:Nat):MinOf (fun k=>S k∨k=m) (if o<0∨(m:Int)<o then m else o):=by
 rcases h with⟨h1,h2⟩|⟨k,h1,h2,h3⟩
 ·rw[if_pos (by omega)];exact .inr ⟨m,rfl,.inr rfl,fun k' hk=>by
   rcases hk with hk|hk
   ·exact absurd hk (h2 k')
   ·omega⟩
 ·by_cases hm:(m:Int)<o
  ·rw[if_pos (.inr hm)];exact .inr ⟨m,rfl,.inr rfl,fun k' hk=>by
    rcases hk with hk|hk
    ·have:=h3 k' hk;omega
    ·omega⟩
  ·rw[if_neg (by omega)];exact .inr ⟨k,h1,.inl h2,fun k' hk=>by
    rcases hk with hk|hk
    ·exact h3 k' hk
    ·omega⟩
theorem MinOf.uniq{S:Nat→Prop}{o o':Int}(h:MinOf S o)(h':MinOf S o'):o=o':=by
 rcases h with⟨h1,h2⟩|⟨k,h1,h2,h3⟩<;>rcases h' with⟨k1,k2⟩|⟨k',k1,k2,k3⟩
 ·omega
 ·exact absurd k2 (h2 _)
 ·exact absurd h2 (k2 _)
 ·have:=h3 _ k2;have:=k3 _ h2;omega
set_option maxHeartbeats 8000000 in
theorem next47_body{N I:Nat}(hN:1≤N∧N≤70000)(hI:I≤16){up:List Nat}(hu:UpOk up)(hul:up.length=N)(W:Nat→Nat→Int×Int)(hW:∀p i,p<N→rootU up p=p→i<I→(W p i).1=-1∨(0≤(W p i).1∧(W p i).1<N))(red:List Nat)(hred:∀r∈red,r<N){R:AV→Mem→Nat→Prop}
  (hR:∀up' o,UpOk up'→up'.length=N→(∀k,rootU up' k=rootU up k)→MinOf (fun k=>∃r∈red,NxtI up red W (rootU up r) I k) o→R (.sc (.int .i64 o)) (frM N up' (rowsV W N I)) 1000151):
  BodyIs prog 34 [.rf 1000010 0,.mp 1000150] (frM N up (rowsV W N I)++[(1000150,.map 3 (entsI 0 (redE up red)))]) 1000151 R:=by
 refine BodyIs.of (nv:=2) (hid:=[4,5,6,8,9,10,11,13,24,25,26,27,32,43,51]) func34 rfl (by kernel_rfl) (by simp[ntmps34]) fun h0=>?_;rw[ntmps34,results34];unfold frM;refine EvC.a ?_;refine EvC.a ?_;refine EvC.seq ?_;refine EvC.rangeMap (σ:=List Nat×Int) (id:=1000150) (kt:=3) (t2:=0) (t3:=0) (es:=entsI 0 (redE up red)) (nxn:=1000151)
  (fun r g=>⟨[(0,.rf 1000010 0),(1,.mp 1000150),(5,.sc (.int .i64 g.2)),(13,.sc (.pointer (some ⟨r,0,none⟩)))],[],[(1000010,.cells [.tv 1000011 N 0 N .unk,.sl false (rowsV W N I) .unk]),(1000011,.arr 1 (g.1.map natC) false),(1000150,.map 3 (entsI 0 (redE up red)))],1000151⟩)
  (fun g dn=>UpOk g.1∧g.1.length=N∧(∀k,rootU g.1 k=rootU up k)∧MinOf (fun k=>∃j∈dn,∃r,red[j]?=some r∧NxtI up red W (rootU up r) I k) g.2) [0,1,5,13] rfl (by simp only[go_sem]<;>rfl) rfl rfl (by simp only[go_sem]<;>rfl) (by simp only[go_sem]<;>rfl) (by decide) (by simp only[go_sem]<;>rfl) (by decide) (by decide) ?_ ?_ ?_ ?_
 ·intro r;refine⟨[(1000010,1000010),(1000011,1000011),(1000150,1000150)],(up,-1),rfl,(by simp only[go_sem]<;>rfl),hu,hul,fun _=>rfl,.inl ⟨rfl,fun k ⟨j,hj,_⟩=>by cases hj⟩⟩
 ·intro r g dn _;exact⟨rfl,rfl,rfl,rfl⟩
 ·rintro r ⟨u,o⟩ dn j hj ⟨h1,h2,h3,h4⟩ hjd;simp only at h1 h2 h3 h4⊢;have hjl:j<red.length:=by have h:=hj;rw[entsI_len]at h;simpa[redE]using h
  have hxj:red[j]?=some (red[j]'hjl):=List.getElem?_eq_getElem hjl;have hxN:=hred _ (List.getElem_mem hjl);have hxm:=List.getElem_mem hjl;have hes:(entsI 0 (redE up red))[j]=(.int .i64 (rootU up (red[j]'hjl):Nat),.sc (.int .i64 (j:Nat))):=by
   have h5:=entsI_get (redE up red) 0 j;have h7:(redE up red)[j]?=some ((rootU up (red[j]'hjl):Nat):Int):=by simp[redE,hxj]
   rw[List.getElem?_eq_getElem hj,h7]at h5;have h6:=Option.some.inj h5;rw[show 0+j=j by omega]at h6;exact h6
  rw[hes];generalize red[j]'hjl=x at hxj hxN hxm;have hpN:rootU up x<N:=by have:=rootU_le hu x;omega
  have hpp:=rootU_root hu x;obtain⟨p,hp⟩:∃p,p=rootU up x:=⟨_,rfl⟩;rw[←hp]at hpN hpp⊢;have hpin:(p:Int).toNat=p:=Int.toNat_natCast p;have hvl:=rowsV_len W N I;have hvp:=rowsV_get (W:=W) (I:=I) hpN;apply XR.done
  ·simp only[go_sem]<;>rfl
  ·simp
  refine EvC.a ?_ (by simp only[go_sem,hvp,hvl,hpin,gcells_len]<;>rfl) (by simp;try omega);refine EvC.block ?_;refine EvC.loopS (σ:=Nat×List Nat×Int) (fun g=>⟨[(0,.rf 1000010 0),(1,.mp 1000150),(5,.sc (.int .i64 g.2.2)),(13,.sc (.pointer (some ⟨r,0,none⟩))),(24,.sl false (gcells edgeC (W p) I) .unk),(25,.sc (.int .i64 I)),(26,.sc (.int .i64 g.1))],[],[(1000010,.cells [.tv 1000011 N 0 N .unk,.sl false (rowsV W N I) .unk]),(1000011,.arr 1 (g.2.1.map natC) false),(1000150,.map 3 (entsI 0 (redE up red)))],1000151⟩) (fun g=>I-g.1)
   (fun g=>g.1≤I∧UpOk g.2.1∧g.2.1.length=N∧(∀k,rootU g.2.1 k=rootU up k)∧MinOf (fun k=>(∃j∈dn,∃r,red[j]?=some r∧NxtI up red W (rootU up r) I k)∨NxtI up red W p g.1 k) g.2.2) [0,1,5,13,24,25,26] 1000151 ?_ ?_
  ·exact⟨[(1000010,1000010),(1000011,1000011),(1000150,1000150)],(0,u,o),rfl,(by simp only[go_sem,Int.natCast_zero]<;>rfl),Nat.zero_le _,h1,h2,h3,h4.congr fun k=>⟨.inl,fun h=>h.elim id fun⟨j,hj,_⟩=>absurd hj (Nat.not_lt_zero _)⟩⟩
  clear h1 h2 h3 h4;rintro⟨i,u,o⟩ ⟨hi,h1,h2,h3,h4⟩;simp only at hi h1 h2 h3 h4⊢;have hiin:(i:Int).toNat=i:=Int.toNat_natCast i;refine EvC.a ?_;refine EvC.seq ?_;refine EvC.cd (fun hc=>?_) (fun hc=>?_);rotate_left
  ·
   obtain rfl:i=I:=by have:¬i<I:=by simpa using hc
                      omega
   refine EvC.exit ?_;refine⟨[(1000010,1000010),(1000011,1000011),(1000150,1000150)],(u,o),rfl,(by simp only[go_sem]<;>rfl),h1,h2,h3,h4.congr fun k=>?_⟩;constructor
   ·rintro(⟨j',h5,h6⟩|h5)
    ·exact⟨j',List.mem_cons_of_mem _ h5,h6⟩
    ·exact⟨j,List.mem_cons_self,x,hxj,by rw[←hp];exact h5⟩
   ·rintro⟨j',h5,r',h6,h7⟩;rcases List.mem_cons.1 h5 with rfl|h5
    ·rw[hxj]at h6;cases h6;exact .inr (by rw[hp];exact h7)
    ·exact .inl ⟨j',h5,r',h6,h7⟩
  have hiI:i<I:=by simpa using hc
  clear hc;refine EvC.skip ?_;refine EvC.seq ?_;refine EvC.block ?_;have hg:=gcells_get edgeC (W p) hiI;have hw:=hW p i hpN hpp hiI;have hnx:∀k,NxtI up red W p (i+1) k↔NxtI up red W p i k∨((W p i).1≠ -1∧k=rootU up (W p i).1.toNat∧∀r∈red,rootU up r≠k):=fun k=>by
   constructor
   ·rintro⟨j',k1,k2⟩;by_cases e:j'=i
    ·subst e;exact .inr k2
    ·exact .inl ⟨j',by omega,k2⟩
   ·rintro(⟨j',k1,k2⟩|k2)
    ·exact⟨j',by omega,k2⟩
    ·exact⟨i,by omega,k2⟩
  generalize W p i=e at hg hw hnx;obtain⟨e1,e2⟩:=e;simp only at hw hnx;refine EvC.a ?_ (by simp only[go_sem,hg,hiin,edgeC,gcells_len]<;>rfl) (by simp;try omega);refine EvC.z 1000154 ?_;refine EvC.seq ?_;refine EvC.a ?_;by_cases he:e1=-1
  ·refine EvC.ct ?_ (by simp only[go_sem,decide_eq_true he]<;>rfl);refine EvC.exit ?_;refine EvC.bi ?_;exact⟨[(1000010,1000010),(1000011,1000011),(1000150,1000150)],(i+1,u,o),rfl,(by simp only[go_sem,Int.natCast_add,Int.natCast_one]<;>rfl),⟨hiI,h1,h2,h3,h4.congr fun k=>by
    simp only;rw[hnx];constructor
    ·rintro(h|h)
     ·exact .inl h
     ·exact .inr (.inl h)
    ·rintro(h|h|h)
     ·exact .inl h
     ·exact .inr h
     ·exact absurd he h.1⟩,by simp only;omega⟩
  refine EvC.cs ?_ (by simp only[go_sem,decide_eq_false he]<;>rfl);obtain⟨q,hq⟩:∃q:Nat,e1=(q:Int):=⟨e1.toNat,by omega⟩;subst hq;have hqN:q<N:=by omega
  have hul1:(u.map natC).length=N:=by rw[List.length_map,h2]
  obtain⟨q1,q2,q3,q4⟩:=halved_ok h1 (n:=q) (by omega);have w1:=least44_is h1 (by omega) (n:=q) (by omega);rw[h2,h3]at w1;obtain⟨u1,hu1⟩:∃u1,u1=halved u q:=⟨_,rfl⟩;rw[←hu1]at q2 q3 q4 w1;have hul2:(u1.map natC).length=N:=by rw[List.length_map,q3,h2]
  have h3':∀k,rootU u1 k=rootU up k:=fun k=>by rw[q4,h3]
  have h2':u1.length=N:=by rw[q3,h2]
  have hmN:=rootU_le hu q;rw[Int.toNat_natCast]at hnx;obtain⟨m,hm⟩:∃m,m=rootU up q:=⟨_,rfl⟩;rw[←hm]at w1 hmN hnx;apply EvC.seq;apply EvC.tr
  ·apply Tr.run
   ·simp only[go_sem]<;>rfl
   ·simp
   apply Tr.cons
   ·exact .callW (i:=1000010) (u:=1000011) rfl rfl (by simp only[go_sem]<;>rfl) (by simp only[go_sem]<;>rfl) (by simp only[go_sem]<;>rfl) (by simp only[go_sem]<;>rfl) (by simp only[go_sem]<;>rfl) (by simp only[go_sem]<;>rfl) hul1.symm (by omega) (by rw[hul2,hul1]) (norefs_natC _) (norefs_natC _) rfl rfl (by simp only[go_sem]<;>rfl) w1
   apply Tr.done
   ·simp only[go_sem]<;>rfl
   ·simp
  have hor:(if decide (o<0)=true then true else decide ((m:Int)<o))=decide (o<0∨(m:Int)<o):=by
   by_cases h:o<0<;>simp[h]
  refine EvC.g ?_;by_cases hlt:o<0∨(m:Int)<o;rotate_left
  ·refine EvC.cs ?_ (by simp only[go_sem,hor,decide_eq_false hlt]<;>rfl);refine EvC.bi ?_;refine⟨[(1000010,1000010),(1000011,1000011),(1000150,1000150)],(i+1,u1,o),rfl,(by simp only[go_sem,Int.natCast_add,Int.natCast_one]<;>rfl),⟨hiI,q2,h2',h3',?_⟩,by simp only;omega⟩;by_cases hred2:∀r∈red,rootU up r≠m
   ·have:=h4.add m;rw[if_neg hlt]at this;exact this.congr fun k=>by
     simp only;rw[hnx,or_assoc];exact or_congr Iff.rfl (or_congr Iff.rfl ⟨fun h=>⟨he,h,by rw[h];exact hred2⟩,fun h=>h.2.1⟩)
   ·exact h4.congr fun k=>by
     simp only;rw[hnx];constructor
     ·rintro(h|h)
      ·exact .inl h
      ·exact .inr (.inl h)
     ·rintro(h|h|h)
      ·exact .inl h
      ·exact .inr h
      ·exact absurd (fun r hr=>by rw[←h.2.1];exact h.2.2 r hr) hred2
  refine EvC.ct ?_ (by simp only[go_sem,hor,decide_eq_true hlt]<;>rfl);have hlook:=elook_entsI (m:Int) (redE up red) 0;have hin:((m:Int)∈redE up red)↔∃r∈red,rootU up r=m:=by
   unfold redE;rw[List.mem_map];exact⟨fun⟨r,h1,h2⟩=>⟨r,h1,by omega⟩,fun⟨r,h1,h2⟩=>⟨r,h1,by omega⟩⟩
  by_cases hmem:(m:Int)∈redE up red
  ·rw[if_pos hmem]at hlook;refine EvC.a ?_ (by simp only[go_sem,hlook]<;>rfl);refine EvC.a ?_;refine EvC.cs ?_;refine EvC.bi ?_;refine⟨[(1000010,1000010),(1000011,1000011),(1000150,1000150)],(i+1,u1,o),rfl,(by simp only[go_sem,Int.natCast_add,Int.natCast_one]<;>rfl),⟨hiI,q2,h2',h3',?_⟩,by simp only;omega⟩;obtain⟨r',hr1,hr2⟩:=hin.1 hmem;exact h4.congr fun k=>by
    simp only;rw[hnx];constructor
    ·rintro(h|h)
     ·exact .inl h
     ·exact .inr (.inl h)
    ·rintro(h|h|h)
     ·exact .inl h
     ·exact .inr h
     ·exact absurd (by rw[h.2.1];exact hr2) (h.2.2 r' hr1)
  ·rw[if_neg hmem]at hlook;refine EvC.a ?_ (by simp only[go_sem,hlook]<;>rfl);refine EvC.a ?_;refine EvC.ct ?_;refine EvC.b ?_;refine EvC.bi ?_;refine⟨[(1000010,1000010),(1000011,1000011),(1000150,1000150)],(i+1,u1,(m:Int)),rfl,(by simp only[go_sem,Int.natCast_add,Int.natCast_one]<;>rfl),⟨hiI,q2,h2',h3',?_⟩,by simp only;omega⟩;have hred2:∀r∈red,rootU up r≠m:=fun r hr h=>hmem (hin.2 ⟨r,hr,h⟩);have:=h4.add m;rw[if_pos hlt]at this;exact this.congr fun k=>by
    simp only;rw[hnx,or_assoc];exact or_congr Iff.rfl (or_congr Iff.rfl ⟨fun h=>⟨he,h,by rw[h];exact hred2⟩,fun h=>h.2.1⟩)
 ·rintro r ⟨u,o⟩ dn ⟨h1,h2,h3,h4⟩ hall;simp only at h1 h2 h3 h4⊢;refine EvC.a ?_;refine EvC.gcE (st2:=⟨[(4,.sc (.int .i64 o))],[],frM N u (rowsV W N I),1000151⟩) [4] [(1000010,1000010),(1000011,1000011)] 1000151 rfl (by simp only[go_sem,frM]<;>rfl) ?_;refine EvC.ret ⟨.inl rfl,_,(by simp only[go_sem]<;>rfl),?_⟩;refine hR u o h1 h2 h3 (h4.congr fun k=>?_);constructor
  ·rintro⟨j,_,r,h5,h6⟩;exact⟨r,List.mem_of_getElem? h5,h6⟩
  ·rintro⟨r,h5,h6⟩;obtain⟨j,hj,rfl⟩:=List.mem_iff_getElem.1 h5;exact⟨j,hall j (by rw[entsI_len];simpa[redE]using hj),_,List.getElem?_eq_getElem hj,h6⟩
theorem clone84_new(l:List Nat)(c:Cp)(hl:l.length<1000000)(h0:l.length≠0):PureNew prog 25 [.sl false (l.map natC) c] 1 (l.map natC):=by
 refine PureNew.of (nv:=1) (hid:=[2,4]) func25 rfl (by kernel_rfl) (by simp[ntmps25]) fun _=>?_;rw[ntmps25,results25];refine EvC.a ?_;refine EvC.seq ?_;refine EvC.a ?_;refine EvC.cs ?_;have hr1:room l.length 8=true:=by simp only[room_eq,decide_eq_true_eq];omega
 have hr3:∀a:Nat,a∈l→(natC a).length=1:=fun _ _=>rfl;refine EvC.a ?_ (by simp only[go_sem,List.length_map]<;>rfl) (by simp[hr1];try exact hr3);refine EvC.ret ⟨.inl rfl,_,5,(by simp only[go_sem,List.length_map]<;>rfl),.inl ?_,?_,by simpa using h0,norefs_natC l⟩
 ·simp only[List.length_map]
 ·rfl
theorem isSc_natC(l:List Nat):((l.map natC).all fun c=>c.all isScV)=true:=by
 rw[List.all_eq_true];intro c hc;obtain⟨x,_,rfl⟩:=List.mem_map.1 hc;rfl
def rowL(W:Nat→Nat→Int×Int)(s I:Nat):List (Int×Int):=(List.range I).map (W s)
theorem rowL_cells(W:Nat→Nat→Int×Int)(s I:Nat):(rowL W s I).map edgeC=gcells edgeC (W s) I:=by rw[rowL,List.map_map];rfl
theorem rowL_len(W:Nat→Nat→Int×Int)(s I:Nat):(rowL W s I).length=I:=by simp[rowL]
set_option maxHeartbeats 4000000 in
theorem copied70_body{N I:Nat}(hN:1≤N∧N≤70000)(hI:1≤I∧I≤16){up:List Nat}(hul:up.length=N)(W:Nat→Nat→Int×Int){R:AV→Mem→Nat→Prop}
  (hR:R (.rf 1000200 0) (foldM N I up W++frM N up (rowsV W N I)) 3000000):BodyIs prog 69 [.rf 1000010 0] (frM N up (rowsV W N I)) 1000100 R:=by
 have hul1:(up.map natC).length=N:=by rw[List.length_map,hul]
 have hcu:=clone84_new up .unk (by omega) (by omega);have hvl:=rowsV_len W N I;refine BodyIs.of (nv:=1) (hid:=[2,3,4,5,22,23,24,25,10,16]) func69 rfl (by kernel_rfl) (by simp[ntmps69]) fun h0=>?_;rw[ntmps69,results69];unfold frM;refine EvC.a ?_;apply EvC.seq;apply EvC.drwA mixed
 ·apply Tr.run
  ·simp only[go_sem]<;>rfl
  ·simp
  apply Tr.cons
  ·exact .callND (xs:=[.sl false (up.map natC) .unk]) 2 rfl rfl (by simp only[go_sem]<;>rfl) (by simp only[go_sem]<;>rfl) (by simp only[go_sem,hul1]<;>rfl) (by simp only[go_sem,hul1]<;>rfl) (by simp only[go_sem]<;>rfl) (isSc_natC _) hcu
  apply Tr.done
  ·simp only[go_sem,hvl,List.length_replicate]<;>rfl
  ·simp[room_eq,hul];omega
 ·kernel_rfl
 refine EvC.seq ?_;refine EvC.a ?_ (by simp only[go_sem,hvl]<;>rfl);refine EvC.block ?_;refine EvC.loopS (σ:=Nat) (fun s=>⟨[(3,.rf 1000200 0),(22,.sl false (rowsV W N I) .unk),(23,.sc (.int .i64 N)),(24,.sc (.int .i64 s))],[],
  (1000010,.cells [.tv 1000011 N 0 N .unk,.sl false (rowsV W N I) .unk])::(1000011,.arr 1 (up.map natC) false)::(1000200,.cells [.tl 1000201 N false,.tv 1000202 N 0 N (.val N)])::(1000201,.arr 1 (up.map natC) false)::(1000202,.arr 1 (opart I N s) false)::otab 2 edgeC W s I,3000000⟩) (fun s=>N-s) (fun s=>s≤N) [3,22,23,24] 3000000 ?_ ?_
 ·have hz2:(List.replicate N [AV.sl true [] .zer]).all AV.norefs=true:=by simp[List.all_eq_true,AV.norefs,AV.noref]
  exact⟨[(1000010,1000010),(1000011,1000011),(1000113,1000200),(1000105,1000201),(1000111,1000202)],0,rfl,(by simp only[go_sem,hul,hz2,opart_zero,otab_zero,Int.natCast_zero,if_true]<;>rfl),Nat.zero_le _⟩
 intro s hs;have htl:=opart_len (m:=I) hs;have hn1:s≤1000000:=by omega
 refine EvC.a ?_;refine EvC.seq ?_;refine EvC.cd (fun hc=>?_) (fun hc=>?_);rotate_left
 ·
  obtain rfl:s=N:=by have:¬s<N:=by simpa using hc
                     omega
  refine EvC.exit ?_;rw[opart_all];have hlo:∀k,k<s→rlook (osegK [(1000200,1000200),(1000201,1000201),(1000202,1000202)] s [(1000010,1000010),(1000011,1000011)]) (2000000+k)=some (2000000+k):=fun k hk=>rlook_osegK_lo hk hn1 (A:=[(1000200,1000200),(1000201,1000201),(1000202,1000202)]) rfl;refine EvC.a ?_;refine EvC.unkC ?_;have hs00:s≠0:=by omega
  refine EvC.gcE (st2:=⟨[(2,.rf 1000200 0)],[],foldM s I up W++frM s up (rowsV W s I),3000000⟩) [2] (osegK [(1000200,1000200),(1000201,1000201),(1000202,1000202)] s [(1000010,1000010),(1000011,1000011)]) 3000000 (osegK_okB (A:=[(1000200,1000200),(1000201,1000201),(1000202,1000202)]) (B:=[(1000010,1000010),(1000011,1000011)]) rfl rfl rfl rfl rfl rfl rfl hn1 (by omega)) ?_ ?_
  ·unfold foldM frM;simp only[go_sem,hs00,hul1,hul,memMap_otab,ne_eq,not_false_eq_true,if_true,rlook_osegK_hi hn1,List.cons_append,List.nil_append,List.append_nil,renMem_oK_cons hn1,otab_ren 2 norefs_edgeC,ocell_ren hlo,ite_self]<;>rfl
  refine EvC.ret ⟨.inl rfl,_,(by simp only[go_sem]<;>rfl),?_⟩;exact hR
 have hsn:s<N:=by simpa using hc
 clear hc;refine EvC.skip ?_;refine EvC.seq ?_;refine EvC.block ?_;have hsin:(s:Int).toNat=s:=Int.toNat_natCast s;have hcl:=clone68_new (rowL W s I) .unk (by rw[rowL_len];omega) (by rw[rowL_len];omega);rw[rowL_cells]at hcl;have hvs:=rowsV_get (W:=W) (I:=I) hsn;have hgl:=gcells_len edgeC (W s) I;refine EvC.a ?_ (by simp only[go_sem,hvs,hvl,hsin]<;>rfl) (by simp;try omega);have hti:=opart_get (m:=I) hsn;apply EvC.drwA mixed
 ·apply Tr.run
  ·simp only[go_sem]<;>rfl
  ·simp
  apply Tr.cons
  ·exact .callN rfl rfl (by simp only[go_sem]<;>rfl) (by simp only[go_sem]<;>rfl) (by simp only[go_sem]<;>rfl) (by simp only[go_sem]<;>rfl) (by simp only[go_sem]<;>rfl) hcl
  apply Tr.done
  ·simp only[go_sem,htl,hsin,hti,hgl,mlook_mset]<;>rfl
  ·simp[htl];try omega
 ·kernel_rfl
 refine EvC.bi ?_;refine⟨osegK [(1000010,1000010),(1000011,1000011),(1000200,1000200),(1000201,1000201),(1000202,1000202)] s [(3000012,2000000+s)],s+1,osegK_ok1 (A:=[(1000010,1000010),(1000011,1000011),(1000200,1000200),(1000201,1000201),(1000202,1000202)]) rfl rfl rfl rfl rfl (by decide) (by decide) (by omega) (by omega),?_,by omega,by omega⟩;have hlo:∀k,k<s→rlook (osegK [(1000010,1000010),(1000011,1000011),(1000200,1000200),(1000201,1000201),(1000202,1000202)] s [(3000012,2000000+s)]) (2000000+k)=some (2000000+k):=fun k hk=>rlook_osegK_lo hk hn1 (A:=[(1000010,1000010),(1000011,1000011),(1000200,1000200),(1000201,1000201),(1000202,1000202)]) rfl;have hhi:rlook (osegK [(1000010,1000010),(1000011,1000011),(1000200,1000200),(1000201,1000201),(1000202,1000202)] s [(3000012,2000000+s)]) 3000012=some (2000000+s):=rlook_osegK_hi hn1 _ _ _ rfl;have hpr:=opart_ren (m:=I) hsn hhi hlo;have hpn:=opart_norefs (m:=I) (k:=3000012) hsn;simp only[go_sem,rlook_osegK_hi hn1,List.cons_append,List.nil_append,renMem_oK_cons hn1,renMem_oK_mset hn1,mlook_mset,gcells_norefs norefs_edgeC,otab_ren 2 norefs_edgeC,otab_snoc,hpr,hpn,Int.natCast_add,Int.natCast_one]<;>rfl
def absorbC(t:Mach)(c red:List Nat)(n:Nat):Option (List Nat):=red.findSome? fun r=>foldC t c r n
theorem absorb_none{t:Mach}{c:List Nat}{n:Nat}{red:List Nat}(h:∀r∈red,foldC t c r n=none):absorbC t c red n=none:=by
 unfold absorbC;rw[List.findSome?_eq_none_iff];exact h
theorem absorb_some{t:Mach}{c d:List Nat}{n r:Nat}:∀{red:List Nat} {s:Nat},red[s]?=some r→(∀r'∈red.take s,foldC t c r' n=none)→foldC t c r n=some d→absorbC t c red n=some d
 | [],s,h,_,_=>by simp at h
 | x::red,0,h,_,hs=>by
   simp at h;subst h;unfold absorbC;rw[List.findSome?_cons,hs]
 | x::red,s+1,h,hn,hs=>by
   have hx:=hn x (by simp);unfold absorbC;rw[List.findSome?_cons,hx];exact absorb_some (red:=red) (s:=s) (by simpa using h) (fun r' hr=>hn r' (by simp[hr])) hs
theorem foldM_framed{N I:Nat}(hN:N≤1000000)(up up2:List Nat)(W:Nat→Nat→Int×Int)(V:List (List AV))(b:Bool):Framed (frM N up2 V) (.sc (.bool b)) (foldM N I up W) 3000000:=by
 refine⟨osegK [(1000200,1000200),(1000201,1000201),(1000202,1000202)] N [],osegK_ok (A:=[(1000200,1000200),(1000201,1000201),(1000202,1000202)]) rfl rfl rfl hN (by omega),foldM_ren hN up W,rfl,?_⟩;rw[List.all_eq_true];intro p hp;rw[osegK,List.append_nil]at hp;rcases List.mem_append.1 hp with hp|hp
 ·simp only[List.mem_cons,List.mem_nil_iff,or_false]at hp;rcases hp with rfl|rfl|rfl<;>rfl
 ·obtain⟨i,hi,rfl⟩:=mem_oK hp;have:mlook (frM N up2 V) (2000000+i)=none:=by
   simp only[frM,mlook];rw[if_neg (by omega),if_neg (by omega)]
  simp[this]
theorem foldfr_ren{N I:Nat}(hN:N≤1000000)(up up2:List Nat)(W:Nat→Nat→Int×Int)(V:List (List AV)):renMem (foldM N I up W++frM N up2 V) (osegK [(1000200,1000200),(1000201,1000201),(1000202,1000202)] N [(1000010,1000010),(1000011,1000011)]) (osegK [(1000200,1000200),(1000201,1000201),(1000202,1000202)] N [(1000010,1000010),(1000011,1000011)])=foldM N I up W++frM N up2 V:=by
 have hlo:∀k,k<N→rlook (osegK [(1000200,1000200),(1000201,1000201),(1000202,1000202)] N [(1000010,1000010),(1000011,1000011)]) (2000000+k)=some (2000000+k):=fun k hk=>rlook_osegK_lo hk hN (A:=[(1000200,1000200),(1000201,1000201),(1000202,1000202)]) rfl;have hX:=fun X=>otab_renX 2 norefs_edgeC W N I (osegK [(1000200,1000200),(1000201,1000201),(1000202,1000202)] N [(1000010,1000010),(1000011,1000011)]) X;have hL:=fun X=>otab_lookX 2 edgeC W (m:=I) hN X;unfold foldM frM;simp only[go_sem,rlook_osegK_hi hN,List.cons_append,List.nil_append,List.append_nil,renMem_oK_cons hN,hX,hL,ocell_ren hlo,ite_self,if_true]
def frM2(N:Nat)(up:List Nat)(V:List (List AV)):Mem:=[(1000010,.cells [.tv 1000201 N 0 N .unk,.sl false V .unk]),(1000201,.arr 1 (up.map natC) false)]
set_option maxHeartbeats 8000000 in
theorem absorb50_body{t:Mach}(v:TV t){I:Nat}(hI:t.ins=(I:Int)){up:List Nat}{W:Nat→Nat→Int×Int}(hF:FI t up W fun _ _=>False)(nl:Bool)(red:List Nat)(c:Cp)(hred:∀r∈red,r<t.rows.length)(hrl:red.length<1000000){n:Nat}(hn:n<t.rows.length){R:AV→Mem→Nat→Prop}
  (hRt:∀up' W',FI t up' W' (fun _ _=>False)→absorbC t (rootsL up t.rows.length) red n=some (rootsL up' t.rows.length)→R (.sc (.bool true)) (frM2 t.rows.length up' (rowsV W' t.rows.length I)) 1000300)
  (hRf:absorbC t (rootsL up t.rows.length) red n=none→R (.sc (.bool false)) (frM t.rows.length up (rowsV W t.rows.length I)) 1000100):
  BodyIs prog 37 [.rf 1000010 0,.sl nl (red.map natC) c,.sc (.int .i64 n)] (frM t.rows.length up (rowsV W t.rows.length I)) 1000100 R:=by
 have hrw:=v.rows;have hin:=v.ins;have hfis:=hF.isF;have hjR:=fun a b=>joinR_eq (up:=up) (c:=rootsL up t.rows.length) (fun n=>(rootsL_pU hF.ok hF.len n).symm) a b;have hul:=hF.len;obtain⟨N,hN⟩:∃N,N=t.rows.length:=⟨_,rfl⟩;have hjo:=fun a (ha:a<t.rows.length) R=>join43_body v hI hF (a:=a) (b:=n) (R:=R) ha hn;have hs:=fun a (ha:a<t.rows.length) up' W' (h:FI t up' W' fun _ _=>False)=>h.fold_some v hfis ha hn;have hno:=fun a (ha:a<t.rows.length)=>foldC_none v hfis ha hn;rw[←hN]at hrw hRt hRf hred hul hjR hjo hs hno⊢;have hn1:N≤1000000:=by omega
 refine BodyIs.of (nv:=3) (hid:=[6,8,9,10,11,12,13,21,16,18,19,20]) func37 rfl (by kernel_rfl) (by simp[ntmps37]) fun h0=>?_;rw[ntmps37,results37];unfold frM;refine EvC.a ?_;refine EvC.seq ?_;refine EvC.a ?_ (by simp only[go_sem,List.length_map]<;>rfl);refine EvC.block ?_;refine EvC.loopS (σ:=Nat) (fun s=>⟨[(0,.rf 1000010 0),(2,.sc (.int .i64 n)),(10,.sl nl (red.map natC) c),(11,.sc (.int .i64 red.length)),(12,.sc (.int .i64 s))],[],frM N up (rowsV W N I),1000100⟩) (fun s=>red.length-s)
  (fun s=>s≤red.length∧∀r∈red.take s,foldC t (rootsL up N) r n=none) [0,2,10,11,12] 1000100 ?_ ?_
 ·exact⟨[(1000010,1000010),(1000011,1000011)],0,rfl,(by simp only[go_sem,frM,Int.natCast_zero]<;>rfl),Nat.zero_le _,fun r h=>by cases h⟩
 rintro s ⟨h1,h2⟩;have hsin:(s:Int).toNat=s:=Int.toNat_natCast s;refine EvC.a ?_;refine EvC.seq ?_;refine EvC.cd (fun hc=>?_) (fun hc=>?_);rotate_left
 ·
  obtain rfl:s=red.length:=by have:¬s<red.length:=by simpa using hc
                              omega
  rw[List.take_length]at h2;refine EvC.exit ?_;refine EvC.a ?_;refine EvC.gcE (st2:=⟨[(6,.sc (.bool false))],[],frM N up (rowsV W N I),1000100⟩) [6] [(1000010,1000010),(1000011,1000011)] 1000100 rfl (by simp only[go_sem,frM]<;>rfl) ?_;refine EvC.ret ⟨.inl rfl,_,(by simp only[go_sem]<;>rfl),?_⟩;exact hRf (absorb_none h2)
 have hsl:s<red.length:=by simpa using hc
 clear hc;refine EvC.skip ?_;refine EvC.seq ?_;refine EvC.block ?_;have hx:red[s]?=some (red[s]'hsl):=List.getElem?_eq_getElem hsl;have hxN:=hred _ (List.getElem_mem hsl);have htk:red.take (s+1)=red.take s++[red[s]'hsl]:=List.take_succ_eq_append_getElem hsl;generalize red[s]'hsl=r at hx hxN htk;refine EvC.a ?_ (by simp only[go_sem,hx,natC,hsin,List.length_map]<;>rfl) (by simp;try omega);apply EvC.seq;apply EvC.rs
 ·simp only[go_sem]<;>rfl
 ·simp
 refine XR.gcTo ⟨[(0,.rf 1000010 0),(2,.sc (.int .i64 n)),(8,.sc (.int .i64 r)),(10,.sl nl (red.map natC) c),(11,.sc (.int .i64 red.length)),(12,.sc (.int .i64 s)),(16,.rf 1000010 0)],[],frM N up (rowsV W N I),1000100⟩ [0,2,8,10,11,12,16] [(1000010,1000010),(1000011,1000011)] rfl (by simp only[go_sem,frM]<;>rfl) ?_;apply XR.callI rfl rfl (by simp only[go_sem]<;>rfl) (by simp only[go_sem]<;>rfl) (by simp only[go_sem]<;>rfl);refine copied70_body ⟨by omega,by omega⟩ ⟨by omega,by omega⟩ hul W ?_;apply XR.done
 ·simp only[go_sem]<;>rfl
 ·simp
 apply EvC.seq;apply EvC.rs
 ·simp only[go_sem]<;>rfl
 ·simp
 have hgk:=osegK_okB (base:=1000100) (nx:=3000000) (n:=N) (A:=[(1000200,1000200),(1000201,1000201),(1000202,1000202)]) (B:=[(1000010,1000010),(1000011,1000011)]) rfl rfl rfl rfl rfl rfl rfl hn1 (by omega);have hff:=foldfr_ren (I:=I) hn1 up up W (rowsV W N I);refine XR.gcTo ⟨[(0,.rf 1000010 0),(2,.sc (.int .i64 n)),(8,.sc (.int .i64 r)),(9,.rf 1000200 0),(10,.sl nl (red.map natC) c),(11,.sc (.int .i64 red.length)),(12,.sc (.int .i64 s)),(18,.rf 1000200 0),(19,.sc (.int .i64 r)),(20,.sc (.int .i64 n))],[],foldM N I up W++frM N up (rowsV W N I),3000000⟩ [0,2,8,9,10,11,12,18,19,20] (osegK [(1000200,1000200),(1000201,1000201),(1000202,1000202)] N [(1000010,1000010),(1000011,1000011)]) hgk ?_ ?_
 ·simp only[go_sem,hff,rlook_osegK_hi hn1,List.cons_append,List.nil_append]<;>rfl
 have hmx:((frM N up (rowsV W N I)).all fun p=>(mlook (foldM N I up W) p.1).isNone)=true:=by
  have hL:=fun k hk=>otab_none 2 edgeC W (n:=N) (m:=I) hn1 k hk;simp[frM,foldM,mlook];exact⟨hL 1000010 rfl,hL 1000011 rfl⟩
 refine XR.callF (foldM N I up W) (frM N up (rowsV W N I)) rfl rfl (by simp only[go_sem]<;>rfl) (by simp only[go_sem]<;>rfl) (by simp only[go_sem]<;>rfl) (by simp only[go_sem]<;>rfl) hmx ?_;refine hjo r hxN _ ?_ ?_
 ·intro hcl up' W' hF' hroot;refine⟨Nat.le_refl _,foldM_framed hn1 up' up W' _ true,?_⟩;apply XR.done
  ·simp only[go_sem]<;>rfl
  ·simp
  have hLX:=fun X k hk=>otab_lookX 2 edgeC W' (n:=N) (m:=I) hn1 X k hk;have hMX:=fun X o k hk=>otab_msetX 2 edgeC W' (n:=N) (m:=I) hn1 X o k hk;refine EvC.ct ?_;unfold foldM frM;rw[hjR]at hcl hroot;have hul':up'.length=N:=by rw[hF'.len,hN]
  have hoc:=ocell_len I N;refine EvC.a ?_ (by simp only[go_sem,List.cons_append,List.nil_append,hLX,hMX]<;>rfl) (by simp[hul',hoc]);refine EvC.a ?_;refine EvC.ofzAll N (fun i hi=>⟨2,gcells edgeC (W' i) I,false,by simp only[mlook,o_ne (show i<1000000 by omega),if_false,otab_getX 2 edgeC W' _ hi,go_sem],gcells_norefs norefs_edgeC _ _⟩) ?_;have hfz:=fun X=>otab_fzX 2 edgeC W' N I X;obtain⟨MM,hMM⟩:∃MM:Mem,MM=(1000200,.cells [.tv 1000201 N 0 N .unk,.tv 1000202 N 0 N .unk])::(1000201,.arr 1 (up'.map natC) false)::(1000202,.arr 1 (ocell I N) false)::(otabF 2 edgeC W' N I++[(1000010,.cells [.tv 1000201 N 0 N .unk,.tv 1000202 N 0 N .unk]),(1000011,.arr 1 (up.map natC) false)]):=⟨_,rfl⟩;have hsn:(ocell I N).map (fun c=>c.map (AV.deep (snap MM)))=rowsV W' N I:=ocell_snap (e:=2) (row:=fun s=>gcells edgeC (W' s) I) (fun s hs=>by
   rw[hMM];simp only[mlook,o_ne (show s<1000000 by omega),if_false,mlook_append,otabF_look 2 edgeC W' hs,go_sem]) (fun s _=>gcells_len _ _ _)
  rw[hMM]at hsn;have hvl:=rowsV_len W' N I;have hvn:(rowsV W' N I).all AV.norefs=true:=by simp[rowsV,List.all_eq_true,AV.norefs,AV.noref]
  have hLF:∀X k,notO k=true→mlook (otabF 2 edgeC W' N I++X) k=mlook X k:=fun X k hk=>by
   rw[mlook_append,show mlook (otabF 2 edgeC W' N I) k=none from by
    rw[otabF,mlook_msegA];split
    ·rw[List.getElem?_eq_none];unfold notO at hk;simp at hk;simp;omega
    ·rfl]
  refine EvC.snapA 1000202 (by simp only[go_sem,ofzAll_cons hn1,hfz,hsn]<;>rfl) ?_;have hmF:∀f,memMap f (otabF 2 edgeC W' N I)=otabF 2 edgeC W' N I:=fun f=>by rw[otabF,memMap_msegA,List.map_map];rfl
  refine EvC.frzD 1000202 (by simp only[go_sem,hvn,hvl,memMap_append,hmF]<;>rfl) ?_;refine EvC.gcE (st2:=⟨[(6,.sc (.bool true))],[],frM2 N up' (rowsV W' N I),1000300⟩) [6] [(1000010,1000010),(1000201,1000201)] 1000300 rfl (by simp only[go_sem,hLF,frM2]<;>rfl) ?_;refine EvC.ret ⟨.inl rfl,_,(by simp only[go_sem]<;>rfl),?_⟩;exact hRt up' W' hF' (absorb_some hx h2 (hs r hxN up' W' hF' hroot hcl))
 ·intro hcl up' W' hup';refine⟨Nat.le_refl _,foldM_framed hn1 up' up W' _ false,?_⟩;apply XR.done
  ·simp only[go_sem]<;>rfl
  ·simp
  have hLX:=fun X k hk=>otab_lookX 2 edgeC W' (n:=N) (m:=I) hn1 X k hk;refine EvC.cs ?_;rw[hjR]at hcl;refine EvC.bi ?_;refine⟨[(1000010,1000010),(1000011,1000011)],s+1,rfl,(by simp only[go_sem,foldM,frM,List.cons_append,List.nil_append,hLX,Int.natCast_add,Int.natCast_one]<;>rfl),⟨hsl,fun r' hr'=>?_⟩,by omega⟩;rw[htk]at hr';rcases List.mem_append.1 hr' with hr'|hr'
  ·exact h2 r' hr'
  ·rw[List.mem_singleton.1 hr'];exact hno r hxN hcl
end Go.Avl
