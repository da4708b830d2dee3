/-
  The evaluator, second make (definitions): freezing, drawn regions, ranges over iterators, calls.
  Lemmas.
  The evaluator: calls from any memory; the operations of a plain region.
  The evaluator: freezing is sound.
  Regions that draw their order, for operations with several effects: if each two operations that touch one thing wait for each other, every order ends as the text's order does.
  A call over a part of the memory.
  The evaluator: drawn regions.
  A call in a drawn region that reads objects of the caller, and leaves them as they are.
  slices.Sort of ints, from the shelf (the laying was printed by the shelf's tool).
  The evaluator: what a function captured is frozen; ranges whose rounds leave objects of their own.
  The evaluator: iterators.
-/
import Derived.Test.YtnolphljopdomaaGreatDoorProg
import Derived.Shelf.Sort.Plain
import Derived.LoopNIn
import Derived.Test.YtnolphljopdomaaGreatDoorPart6
set_option linter.unusedSimpArgs false
set_option linter.unusedVariables false
set_option linter.unnecessarySimpa false
set_option linter.deprecated false
namespace Go.Avl
open Go
inductive X (α : Type) where
 | ok (a : α)
 | er (n : Nat) (o : Option Oper)
abbrev ML := T (Option RObj)
def memB (i : Nat) : List Nat → Bool
 | [] => false
 | j :: l => Nat.beq i j || memB i l
noncomputable def T.map {α : Type} (f : α → α) (t : T α) : T α := T.rec (motive := fun _ => T α) .nil (fun _ v _ l r => .nd l (f v) r) t
noncomputable def tmsOf : List AV → Nat → T AV → T AV
 | [], _, t => t
 | x :: xs, i, t => tmsOf xs (Nat.succ i) (T.put t x i)
noncomputable def es0 (xs : List AV) (m : ML) (nx : Nat) : ES := ⟨tmsOf xs 0 (T.mk .junk 8), m, nx⟩
def gslotT (ops : List Oper) (j : Nat) : Option Nat := match ops[j]? with
 | some o => o.dst
 | none => none
def gbT : Bool → Bool → Bool
 | true, g => g
 | false, g => !g
def gvalT (want : Bool) : AV → Option Bool
 | .sc (.bool g) => some (gbT want g)
 | .sc (.int _ _) => some false
 | .sc (.tuple _) => some false
 | _ => none
noncomputable def resT1 (P : Program) (s : ES) : ResultVar → Option AV
 | .tmp t => match T.get .junk s.tm t with
   | .junk => none
   | v => some v
 | .cell a t => match tinfo P t with
   | some ti => match T.get .junk s.tm a with
     | .rf i off => match T.get none s.mem i with
       | some (.cells cs) => bif Nat.ble (off + ti.size) cs.length && (ti.agg || Nat.beq ti.size 1) then some (mkv ti.agg ((cs.drop off).take ti.size)) else none
       | _ => none
     | _ => none
   | none => none
noncomputable def resTs (P : Program) (s : ES) : List ResultVar → Option (List AV)
 | [] => some []
 | x :: xs => match resT1 P s x with
   | some v => match resTs P s xs with
     | some vs => some (v :: vs)
     | none => none
   | none => none
abbrev CallF := Nat → List AV → ML → Nat → X (AV × ML × Nat)
def dokT (sz : Nat) : Option Nat → Bool
 | none => true
 | some k => Nat.blt k sz
def frzL {α β : Type} (f : ML → α → Option (β × ML)) : ML → List α → Option (List β × ML)
 | m, [] => some ([], m)
 | m, x :: l => match f m x with
   | some (y, m1) => match frzL f m1 l with
     | some (l', m2) => some (y :: l', m2)
     | none => none
   | none => none
noncomputable def frzO (f : ML → List AV → Option (List AV × ML)) (m : ML) (i n : Nat) : Option (List (List AV) × ML) := match T.get none m i with
 | some (.arr esz es fz) => bif Nat.beq n es.length then (bif fz then some (es, m) else match frzL f m es with
  | some (es', m1) => match T.get none m1 i with
    | some (.arr esz' es2 _) => bif Nat.beq esz' esz && Nat.beq es2.length es.length then some (es', T.put m1 (some (.arr esz es' true)) i) else none
    | _ => none
  | none => none) else none
 | _ => none
noncomputable def frzV : Nat → ML → AV → Option (AV × ML)
 | 0, _, _ => none
 | n + 1, m, v => match v with
   | .sc x => some (.sc x, m)
   | .sl b es c => some (.sl b es c, m)
   | .ia cs => some (.ia cs, m)
   | .ag cs => match frzL (frzV n) m cs with
     | some (l, m') => some (.ag l, m')
     | none => none
   | .tu cs => match frzL (frzV n) m cs with
     | some (l, m') => some (.tu l, m')
     | none => none
   | .fn f cs => match frzL (frzV n) m cs with
     | some (l, m') => some (.fn f l, m')
     | none => none
   | .ifc t x => match frzV n m x with
     | some (y, m') => some (.ifc t y, m')
     | none => none
   | .tl i len nl => match frzO (frzL (frzV n)) m i len with
     | some (es, m') => some (.sl nl es .unk, m')
     | none => none
   | .tv i k off len cap => match frzO (frzL (frzV n)) m i k with
     | some (es, m') => some (.sl false (tvEs es k off len) (tvCap len cap), m')
     | none => none
   | _ => none
noncomputable def capO (k : ES → Option (List AV × ES)) (v : AV) (s : ES) : Option (List AV × ES) := match frzV 20 s.mem v with
 | some (y, m') => match k ⟨s.tm, m', s.nx⟩ with
   | some (cs', s') => some (y :: cs', s')
   | none => none
 | none => none
noncomputable def frzCaps : List AV → ES → Option (List AV × ES)
 | [], s => some ([], s)
 | c :: cs, s => match c with
   | .rf i off => match T.get .none s.mem i with
     | some (.cells xs) => match frzL (frzV 20) s.mem xs with
       | some (xs', m1) => match T.get .none m1 i with
         | some (.cells xs2) => bif Nat.beq xs2.length xs.length then match frzCaps cs ⟨T.map (AV.deep (toIa i xs')) s.tm, T.put m1 none i, s.nx⟩ with
           | some (cs', s') => some (.ia (xs'.drop off) :: cs', s')
           | none => none else none
         | _ => none
       | none => none
     | _ => none
   | v => capO (frzCaps cs) v s
def objIds : RObj → List Nat
 | .cells cs => AV.idss cs
 | .arr _ es fz => bif fz then [] else es.flatMap AV.idss
 | .map _ es => es.flatMap fun p => p.2.ids
noncomputable def reachM (m : ML) : Nat → List Nat → List Nat → Option (List Nat)
 | 0, _, _ => none
 | n + 1, [], done => some done
 | n + 1, i :: todo, done => bif memB i done then reachM m n todo done else match T.get none m i with
   | none => reachM m n todo done
   | some o => reachM m n (objIds o ++ todo) (i :: done)
noncomputable def restr (m : ML) : List Nat → ML → ML
 | [], t => t
 | i :: l, t => restr m l (T.put t (T.get none m i) i)
noncomputable def closedB (m : ML) (all : List Nat) : List Nat → Bool
 | [] => true
 | i :: l => (match T.get none m i with
   | some o => (objIds o).all fun j => memB j all
   | none => false) && closedB m all l
noncomputable def ltB (m : ML) (n : Nat) : List Nat → Bool
 | [] => true
 | i :: l => (Nat.blt i n && match T.get none m i with
   | some o => (objIds o).all fun j => Nat.blt j n
   | none => false) && ltB m n l
noncomputable def fxOf (m : ML) : List Nat → List (Nat × RObj)
 | [] => []
 | i :: l => match T.get none m i with
   | some o => (i, o) :: fxOf m l
   | none => fxOf m l
noncomputable def putFx : List (Nat × RObj) → ML → ML
 | [], m => m
 | (i, o) :: l, m => putFx l (T.put m (some o) i)
structure Iu where
 o : Oper
 val : AV
 fx : List (Nat × RObj)
 rd : List Nat
 lo : Nat
 hi : Nat
def wlU (t : Iu) : List Nat := (match t.o.dst with | some k => [2 * k] | none => []) ++ t.fx.map fun p => 2 * p.1 + 1
noncomputable def opR (tm : T AV) (sl : List Nat) : Operand → Option AV
 | .tmp t => bif memB (2 * t) sl then opT tm (.tmp t) else none
 | x => opT tm x
noncomputable def LR (m : ML) (ids : List Nat) (i : Nat) : Option RObj := bif memB i ids then T.get none m i else none
noncomputable def idsT (tm : T AV) (a : Bool) : List Operand → List Nat
 | [] => []
 | x :: xs => (match opT tm x with
   | some v => bif a then v.idsA else v.ids
   | none => []) ++ idsT tm a xs
noncomputable def ruOf (id : Nat) : R → Option (AV × List (Nat × RObj))
 | .val v => some (v, [])
 | .new v o => some (v, [(id, o)])
 | .upd v i o => some (v, [(i, o)])
 | .key _ _ _ => none
noncomputable def drGo (P : Program) (call : CallF) (gs : List Nat) (o : Oper) (st : ES) : X (Iu × ES) := match o.op with
 | .call ⟨.value callee, args, _⟩ => match opT st.tm callee, evs (opT st.tm) args.toList with
   | some (.fn f cs), some vs => match reachM st.mem 2000 (AV.idss (vs ++ cs)) [] with
     | some ids => match call f (vs ++ cs) (restr st.mem ids (T.mk none 16)) st.nx with
       | .ok (r, m1, nx1) => match reachM m1 2000 (r.ids ++ ids) [] with
         | some ids1 => bif r.ids.all (fun j => memB j ids1) && (closedB m1 ids1 ids1 && (ids1.all (fun j => memB j ids || (Nat.ble st.nx j && Nat.blt j nx1)) && (ids.all (fun j => memB j ids1) && (Nat.ble st.nx nx1 && ((AV.idss (vs ++ cs)).all (fun j => Nat.blt j st.nx) && ltB st.mem st.nx ids)))))
           then .ok (⟨o, r, fxOf m1 ids1, gs ++ (opSlots o.op.operands.toList ++ odds ids), st.nx, nx1⟩, (⟨st.tm, putFx (fxOf m1 ids1) st.mem, nx1⟩ : ES).put o.dst r) else .er 30 (some o)
         | none => .er 31 (some o)
       | .er n x => .er n x
     | none => .er 32 (some o)
   | _, _ => .er 1 (some o)
 | _ => match xopT P (opR st.tm (opSlots o.op.operands.toList)) (LR st.mem (bif memless o.op then [] else idsT st.tm (adrOp o.op) o.op.operands.toList)) st.nx o with
   | some r => match ruOf st.nx r with
     | some (v, fx) => .ok (⟨o, v, fx, gs ++ (opSlots o.op.operands.toList ++ odds (bif memless o.op then [] else idsT st.tm (adrOp o.op) o.op.operands.toList)), st.nx, Nat.add st.nx 1⟩, st.eff o.dst r)
     | none => .er 33 (some o)
   | none => .er 2 (some o)
noncomputable def drOps (P : Program) (call : CallF) (sz : Nat) (all : List Oper) : List Oper → ES → X (List Iu × ES)
 | [], st => .ok ([], st)
 | o :: rest, st => bif dokT sz o.dst then match (match o.guard with
   | none => drGo P call [] o st
   | some (j, want) => match gslotT all j with
     | none => .er 3 (some o)
     | some k => match gvalT want (T.get .junk st.tm k) with
       | some true => drGo P call [2 * k] o st
       | some false => .ok (⟨o, .sc undef, [], [2 * k], st.nx, st.nx⟩, st.put o.dst (.sc undef))
       | none => .er 4 (some o)) with
   | .ok (t, st') => match drOps P call sz all rest st' with
     | .ok (l, st2) => .ok (t :: l, st2)
     | .er n x => .er n x
   | .er n x => .er n x
   else .er 11 (some o)
def ancU (l : List Iu) : Nat → Nat → Nat → Bool
 | 0, _, _ => false
 | k + 1, i, m => match l[i]? with
   | none => false
   | some t => memB m (depsOf t.o) || (depsOf t.o).any fun e => Nat.blt m e && ancU l k e m
def confOneU (all : List Iu) (i : Nat) (t : Iu) : Nat → List Iu → Bool
 | _, [] => true
 | m, u :: l => (Nat.beq i m || !((t.rd ++ wlU t).any fun x => memB x (wlU u)) || (bif Nat.blt i m then ancU all 30 m i else ancU all 30 i m)) && confOneU all i t (Nat.succ m) l
def confU (all : List Iu) : Nat → List Iu → Bool
 | _, [] => true
 | i, t :: l => ((depsOf t.o).all fun e => Nat.blt e i) && confOneU all i t 0 all && confU all (Nat.succ i) l
noncomputable def callB (call : CallF) (f : Nat) (vs cs : List AV) (m : ML) (nx : Nat) : X (AV × ML × Nat) := bif Nat.blt f 1000000 then call f (vs ++ cs) m nx else bif cs.isEmpty then .er 84 none else call (Nat.sub f 1000000) (cs ++ vs) m nx
noncomputable def evGo (P : Program) (call : CallF) (k : ES → X ES) (o : Oper) (st : ES) : X ES :=
 match o.op with
 | .call ⟨.value callee, args, _⟩ => match opT st.tm callee, evs (opT st.tm) args.toList with
   | some (.fn f cs), some vs => match callB call f vs cs st.mem st.nx with
     | .ok (r, M', nx') => k ((⟨st.tm, M', nx'⟩ : ES).put o.dst r)
     | .er n x => .er n x
   | _, _ => .er 1 (some o)
 | _ => match xopT P (opT st.tm) (fun i => T.get none st.mem i) st.nx o with
   | some r => k (st.eff o.dst r)
   | none => .er 2 (some o)
noncomputable def evOps (P : Program) (call : CallF) (sz : Nat) (all : List Oper) : List Oper → ES → X ES
 | [], st => .ok st
 | o :: rest, st => bif dokT sz o.dst then match o.guard with
   | none => evGo P call (evOps P call sz all rest) o st
   | some (j, want) => match gslotT all j with
     | none => .er 3 (some o)
     | some k => match gvalT want (T.get .junk st.tm k) with
       | some true => evGo P call (evOps P call sz all rest) o st
       | some false => evOps P call sz all rest (st.put o.dst (.sc undef))
       | none => .er 4 (some o)
   else .er 11 (some o)
structure YS where
 s : ES
 y : List Nat
 acc : List (List AV)
def delN (i : Option Nat) (l : List Nat) : List Nat := match i with
 | none => l
 | some i => l.filter fun j => !Nat.beq i j
noncomputable def evOpsY (P : Program) (call : CallF) (sz : Nat) (all : List Oper) : List Oper → YS → X (YS × List ES)
 | [], t => .ok (t, [])
 | o :: rest, t => match (match o.op with
   | .move (.tmp k) => memB k t.y
   | _ => false) with
   | true => match o.guard, o.dst with
     | none, some d => bif Nat.blt d sz then evOpsY P call sz all rest ⟨(⟨t.s.tm, t.s.mem, Nat.add t.s.nx 1⟩ : ES).put (some d) .junk, d :: t.y, t.acc⟩ else .er 40 (some o)
     | _, _ => .er 40 (some o)
   | false => match (match o.op with
     | .call ⟨.value (.tmp k), args, _⟩ => bif memB k t.y then some args else none
     | _ => none) with
     | some args => match o.guard, evs (opT t.s.tm) args.toList with
       | none, some vs => bif dokT sz o.dst then match frzL (frzV 20) t.s.mem vs with
         | some (vs', m') => match evOps P call sz all rest ((⟨t.s.tm, m', Nat.add t.s.nx 1⟩ : ES).put o.dst (.sc (.bool false))) with
           | .ok sf => match evOpsY P call sz all rest ⟨(⟨t.s.tm, m', Nat.add t.s.nx 1⟩ : ES).put o.dst (.sc (.bool true)), delN o.dst t.y, t.acc ++ [vs']⟩ with
             | .ok (t', fs) => .ok (t', sf :: fs)
             | .er n x => .er n x
           | .er n x => .er n x
         | none => .er 41 (some o) else .er 41 (some o)
       | _, _ => .er 42 (some o)
     | none => match evOps P call sz all [o] t.s with
       | .ok s' => evOpsY P call sz all rest ⟨s', delN o.dst t.y, t.acc⟩
       | .er n x => .er n x
noncomputable def evFs (k : ES → X (Exit × ES)) : List (Exit × ES) → X (List (Exit × ES))
 | [] => .ok []
 | (e, s) :: l => match evFs k l with
   | .ok l' => match e with
     | .normal => match k s with
       | .ok r => .ok (r :: l')
       | .er n x => .er n x
     | e => .ok ((e, s) :: l')
   | .er n x => .er n x
def blkE (id : Nat) : Exit → Exit
 | .exit id' => bif Nat.beq id' id then .normal else .exit id'
 | e => e
structure YR where
 e : Exit
 t : YS
 fs : List (Exit × ES)
noncomputable def evY (P : Program) (call : CallF) (k : Nat → Code → ES → X (Exit × ES)) : Nat → Nat → Code → YS → X YR
 | 0, _, _, _ => .er 9 none
 | n + 1, sz, c, t => match c with
   | .skip => .ok ⟨.normal, t, []⟩
   | .exit id => .ok ⟨.exit id, t, []⟩
   | .ret => .ok ⟨.ret, t, []⟩
   | .seq x y => match evY P call k n sz x t with
     | .ok r => match evFs (k sz y) r.fs with
       | .ok fs => match r.e with
         | .normal => match evY P call k n sz y r.t with
           | .ok r2 => .ok ⟨r2.e, r2.t, fs ++ r2.fs⟩
           | .er n x => .er n x
         | e => .ok ⟨e, r.t, fs⟩
       | .er n x => .er n x
     | .er n x => .er n x
   | .cond o x y => match opT t.s.tm o with
     | some (.sc (.bool true)) => evY P call k n sz x t
     | some (.sc (.bool false)) => evY P call k n sz y t
     | _ => .er 5 none
   | .block id c => match evY P call k n sz c t with
     | .ok r => .ok ⟨blkE id r.e, r.t, r.fs.map fun p => (blkE id p.1, p.2)⟩
     | .er n x => .er n x
   | .loop c => match evY P call k n sz c t with
     | .ok r => match evFs (k sz (.loop c)) r.fs with
       | .ok fs => match r.e with
         | .normal => match evY P call k n sz (.loop c) r.t with
           | .ok r2 => .ok ⟨r2.e, r2.t, fs ++ r2.fs⟩
           | .er n x => .er n x
         | e => .ok ⟨e, r.t, fs⟩
       | .er n x => .er n x
     | .er n x => .er n x
   | .region id ops false => match evOpsY P call sz ops.toList ops.toList t with
     | .ok (t', fs) => .ok ⟨.normal, t', fs.map fun s => (.normal, s)⟩
     | .er n x => .er n x
   | .region id ops true => match drOps P call sz ops.toList ops.toList t.s with
     | .ok (its, s') => bif confU its 0 its then .ok ⟨.normal, ⟨s', ops.toList.foldl (fun y o => delN o.dst y) t.y, t.acc⟩, []⟩ else .er 60 none
     | .er n x => .er n x
   | _ => .er 7 none
def endT : Exit → Bool
 | .ret => true
 | .normal => true
 | _ => false
noncomputable def evSeq (P : Program) (call : CallF) (k : Nat → Code → ES → X (Exit × ES)) (n f : Nat) (caps : List AV) : X (List (List AV)) := bif AV.norefs caps then match P.funcs[f]? with
 | some fn => match fn.body with
   | some b => bif Nat.ble (caps.length + 1) fn.ntmps && (Nat.beq fn.results.size 0 && Nat.blt f 1000000) then match evY P call k n fn.ntmps b ⟨es0 (.junk :: caps) (T.mk none 16) 0, [0], []⟩ with
     | .ok r => bif endT r.e && r.fs.all fun p => endT p.1 then .ok r.t.acc else .er 44 none
     | .er n x => .er n x else .er 45 none
   | none => .er (10000 + f) none
 | none => .er 8 none else .er 46 none
noncomputable def bindT : List Nat → List AV → T AV → T AV
 | p :: ps, v :: vs, t => bindT ps vs (T.put t v p)
 | _, _, t => t
noncomputable def evRng (k : Nat → Code → ES → X (Exit × ES)) (sz : Nat) (ps : List Nat) (assign body : Code) (tm : T AV) : List (List AV) → ML → Nat → X (Exit × ES)
 | [], m, nx => .ok (.normal, ⟨tm, m, nx⟩)
 | x :: xs, m, nx => bif Nat.beq x.length ps.length then match k sz assign ⟨bindT ps x tm, m, nx⟩ with
   | .ok (.normal, s1) => match k sz body s1 with
     | .ok (e, s2) => match e with
       | .normal => evRng k sz ps assign body tm xs s2.mem s2.nx
       | .ret => .ok (.ret, ⟨tm, s2.mem, s2.nx⟩)
       | .exit id => .ok (.exit id, ⟨tm, s2.mem, s2.nx⟩)
       | _ => .er 50 none
     | .er n x => .er n x
   | .ok _ => .er 51 none
   | .er n x => .er n x
   else .er 52 none
structure Tab where
 isH : Nat → Bool
 H : Nat → List AV → Option AV
noncomputable def evCall (P : Program) (B : Tab) (k : Nat → Nat → Code → ES → X (Exit × ES)) : CallF := fun f xs mem nx => bif B.isH f then (match frzL (frzV 20) mem xs with
 | some (ys, m') => match B.H f ys with
   | some r => .ok (r, m', Nat.add nx 1)
   | none => .er (20000 + f) none
 | none => .er 12 none)
 else match P.funcs[f]? with
  | some fn => match fn.body with
    | some b => bif Nat.ble xs.length fn.ntmps && Nat.blt f 1000000 then match k nx fn.ntmps b (es0 xs mem nx) with
      | .ok (e, st') => bif endT e then match resTs P st' fn.results.toList with
        | some rs => .ok (mkRes rs, st'.mem, st'.nx)
        | none => .er 6 none
        else .er 15 none
      | .er n x => .er n x
      else .er 16 none
    | none => .er (10000 + f) none
  | none => .er 8 none
noncomputable def evC (P : Program) (B : Tab) : Nat → Bool → Nat → Nat → Code → ES → X (Exit × ES)
 | 0, _, _, _, _, _ => .er 9 none
 | n + 1, rg, b, sz, c, st => match c with
   | .skip => .ok (.normal, st)
   | .seq x y => match evC P B n rg b sz x st with
     | .ok (.normal, st') => evC P B n rg b sz y st'
     | r => r
   | .cond o x y => match opT st.tm o with
     | some (.sc (.bool true)) => evC P B n rg b sz x st
     | some (.sc (.bool false)) => evC P B n rg b sz y st
     | _ => .er 5 none
   | .block id c => match evC P B n rg b sz c st with
     | .ok (.exit id', st') => bif Nat.beq id' id then .ok (.normal, st') else .ok (.exit id', st')
     | r => r
   | .loop c => match evC P B n rg b sz c st with
     | .ok (.normal, st') => evC P B n rg b sz (.loop c) st'
     | r => r
   | .exit id => .ok (.exit id, st)
   | .ret => .ok (.ret, st)
   | .scope c => match evC P B n rg b sz c st with
     | .ok (.goto _, _) => .er 14 none
     | r => r
   | .label _ => .ok (.normal, st)
   | .region _ ops false => match evOps P (evCall P B (evC P B n true)) sz ops.toList ops.toList st with
     | .ok st' => .ok (.normal, st')
     | .er n x => .er n x
   | .region _ ops true => match drOps P (evCall P B (evC P B n true)) sz ops.toList ops.toList st with
     | .ok (its, st') => bif confU its 0 its then .ok (.normal, st') else .er 60 none
     | .er n x => .er n x
   | .rangeFunc g ps assign body => bif rg && (ps.all (fun p => Nat.blt p sz) && Nat.ble b st.nx) then match g with
     | .tmp k => match T.get .junk st.tm k with
       | .fn gf caps => match frzCaps caps st with
         | some (caps', st1) => bif Nat.blt k sz then match evSeq P (evCall P B (evC P B n true)) (evC P B n false 0) n gf caps' with
           | .ok xs => bif xs.all (fun x => Nat.beq x.length ps.size) then evRng (evC P B n true st1.nx) sz ps.toList assign body (T.put st1.tm (.fn gf caps') k) xs st1.mem st1.nx else .er 75 none
           | .er n x => .er n x
           else .er 73 none
         | none => .er 70 none
       | _ => .er 71 none
     | _ => .er 74 none
     else .er 72 none
   | _ => .er 7 none
noncomputable def evF (P : Program) (B : Tab) (n d f : Nat) (xs : List AV) : X (AV × ML × Nat) := evCall P B (evC P B n true) f xs (T.mk none d) 0
open Go Go.Proofs.Tryz
set_option maxRecDepth 10000
def MOk (m : ML) (M : Mem) : Prop := ∀ i, T.get none m i = none ∨ mlook M i = T.get none m i
def RVs (G : Nat → Option Value) (F : Nat → Nat → Prop) (M : Mem) (w : World) (vs : List Value) (xs : List AV) : Prop := vs.length = xs.length ∧ ∀ i (h1 : i < vs.length) (h2 : i < xs.length), RV G F M w vs[i] xs[i]
def CallTo (P : Program) (f : FuncId) (xs : List AV) (M : Mem) (nx : Nat) (r : AV) (M' : Mem) (nx' : Nat) : Prop :=
 callable P f ∧ ∀ G F w vals, SimM P G F M nx w → (∀ j, nx ≤ j → G j = none) → RVs G F M w vals xs →
  CallsIn Fence.wide 0 P f vals.toArray w fun e w2 => ∃ u G' F', e = .returned u ∧ RV G' F' M' w2 u r ∧ SimM P G' F' M' nx' w2 ∧ (∀ j, nx' ≤ j → G' j = none) ∧ Step All G F M w G' F' M' w2
def CallOk (P : Program) (call : CallF) : Prop := ∀ f xs m nx r m' nx' M, MOk m M → call f xs m nx = .ok (r, m', nx') → ∃ M', MOk m' M' ∧ CallTo P f xs M nx r M' nx'
section
variable {P : Program} {fr : Fr} {ro : Option Nat} {ds : DS} {st st' : St} {Q Q' : Exit → St → Prop} {G G' : Nat → Option Value} {F F' : Nat → Nat → Prop} {a : Act} {w w' : World} {x y c : Code}
 {M M' : Mem} {ops : Array Oper} {l rest : List Oper} {o : Oper} {r : AV} {nx nx' : Nat} {f : FuncId} {xs : List AV}
theorem CallTo.body {fn : Func} {nv : Nat} {hid : List Nat} (hf : P.funcs[f]? = some fn) (hb : fn.body = some c) (hnm : (fn.name == "runtime.NumGoroutine") = false) (hsz : xs.length ≤ fn.ntmps)
  (hbody : ∀ h0 : Nat, EvC P ⟨nx, nv, hid, fn.ntmps⟩ none ⟨h0, none, false⟩ c ⟨vars0 0 xs, [], M, nx⟩ fun e st' => (e = .ret ∨ e = .normal) ∧ ∃ rs, resAllR P ⟨nx, nv, hid, fn.ntmps⟩ st' fn.results.toList = some rs ∧ mkRes rs = r ∧ st'.mem = M' ∧ st'.nx = nx') (hlt : f < 1000000 := by first | assumption | decide) : CallTo P f xs M nx r M' nx' := by
 refine ⟨callable_of hf hnm (by rw [hb]; rfl), fun G F w vals hm hfr hi => ?_⟩
 have s0 : SimA P ⟨nx, nv, hid, fn.ntmps⟩ ⟨w.heap.size, none, false⟩ G F ⟨vars0 0 xs, [], M, nx⟩ { tmps := vals.toArray ++ Array.replicate (fn.ntmps - vals.toArray.size) undef, defers := [] } w := by
  refine ⟨⟨hm, fun k => ?_, by have := hi.1; simp; omega⟩, hfr, Marks.none _ _ _ (Nat.le_refl _)⟩
  have key : ∀ x, (x = .junk ∨ ∃ h : k < xs.length, x = xs[k]) → RV G F M w ((vals.toArray ++ Array.replicate (fn.ntmps - vals.toArray.size) undef).getD k undef) x := by
   rintro x (rfl | ⟨hk, rfl⟩)
   ·exact .imm (.junk _)
   ·have hl := hi.1
    have : (vals.toArray ++ Array.replicate (fn.ntmps - vals.toArray.size) undef).getD k undef = vals[k]'(by omega) := by
     rw [Array.getD_eq_getD_getElem?, Array.getElem?_append_left (by simp; omega)]
     simp [List.getElem?_eq_getElem (show k < vals.length by omega)]
    rw [this]
    exact hi.2 k (by omega) hk
  refine key _ ?_
  unfold St.get
  split
  ·rcases alook_vars0 xs 0 k with h | ⟨h1, h2, h3⟩
   ·exact .inl h
   ·exact .inr ⟨by simpa using h1, by simpa using h3⟩
  ·exact .inl rfl
 refine callsIn_of_wp_marks (F := Fence.wide) hf hb trivial (wpIn_mono (hbody _ _ _ _ _ _ _ _ _ .refl s0) ?_)
 rintro e a' w' ⟨G', F', st', s', S', he, rs, hrs, rfl, rfl, rfl⟩
 have SA := S'.all hfr
 have hfin : ∀ (Ds : List Nat) (w2 : World), Ds.Nodup → (∀ D ∈ Ds, w.heap.size ≤ D ∧ w2.heap[D]? = some (.deferred (some []))) → SimA P ⟨nx, nv, hid, fn.ntmps⟩ ⟨w.heap.size, none, false⟩ G' F' st' { a' with defers := [] } w2 → Step All G F M w G' F' st'.mem w2 →
   LeavesInM Fence.wide 0 P fn a'.tmps (fun e w2 => ∃ u G' F', e = .returned u ∧ RV G' F' st'.mem w2 u (mkRes rs) ∧ SimM P G' F' st'.mem st'.nx w2 ∧ (∀ j, st'.nx ≤ j → G' j = none) ∧ Step All G F M w G' F' st'.mem w2) (Ds.map dmark) .returning w2 := by
  intro Ds
  induction Ds with
  | nil =>
    intro w2 _ _ s2 S2
    obtain ⟨u, hu, hru⟩ := resultsR_ok s2 hrs
    exact ⟨u, hu, u, G', F', rfl, hru, s2.sim.mem, s'.fresh, S2⟩
  | cons D Ds ih =>
    intro w2 hnd hD s2 S2
    obtain ⟨h1, h2⟩ := hD D List.mem_cons_self
    have hnd := List.nodup_cons.1 hnd
    have hk : ∀ (b : Nat) (o : Obj), w2.heap[b]? = some o → isData o = true → (w2.putObj D (.deferred none)).heap[b]? = some o := fun b o hb ho => by
     rw [World.putObj_heap_other (by rintro rfl; rw [h2] at hb; cases hb; cases ho)]; exact hb
    refine ⟨(by intro h; cases h), .inl ⟨D, _, rfl, run_takeDeferred h2, ih _ hnd.2 (fun D' hD' => ?_) ⟨⟨s2.sim.mem.keepData hk (by rw [World.putObj_size]; exact Nat.le_refl _), fun k => (s2.sim.slots k).keepData hk, s2.sim.size⟩, s2.fresh, Marks.none _ _ _ (by rw [World.putObj_size]; exact S2.size)⟩ ?_⟩⟩
    ·refine ⟨(hD D' (List.mem_cons_of_mem _ hD')).1, ?_⟩
     rw [World.putObj_heap_other (by rintro rfl; exact hnd.1 hD')]; exact (hD D' (List.mem_cons_of_mem _ hD')).2
    ·exact S2.putAbove h1 h2 rfl rfl
 obtain ⟨⟨Ds, hDs, hnd, hD⟩, _⟩ := s'.defers
 have hDs : a'.defers = Ds.map dmark := hDs
 have := hfin Ds w' hnd hD ⟨⟨s'.sim.mem, s'.sim.slots, s'.sim.size⟩, s'.fresh, Marks.none _ _ _ SA.size⟩ SA
 rw [← hDs] at this
 rcases he with rfl | rfl
 ·exact this
 ·exact this
theorem RVs.args {args : Array Operand} {cs : List AV} {vs : List Value} {ρ : Operand → Value} (hρ : ∀ x, RV G F M w (ρ x) (opnd fr st x)) (hl : vs.length = cs.length) (hcs : ∀ i (h1 : i < vs.length) (h2 : i < cs.length), RV G F M w vs[i] cs[i]) :
  RVs G F M w (args.toList.map ρ ++ vs) (bodyArgs fr st args ++ cs) := by
 refine ⟨by simp [bodyArgs, hl], fun i h1 h2 => ?_⟩
 by_cases hlt : i < args.toList.length
 ·rw [List.getElem_append_left (by simpa using hlt), List.getElem_append_left (by simpa [bodyArgs] using hlt)]
  simp only [bodyArgs, List.getElem_map]
  exact (hρ _).unopt
 ·rw [List.getElem_append_right (by simpa using hlt), List.getElem_append_right (by simpa [bodyArgs] using hlt)]
  simp only [List.length_map, bodyArgs]
  exact hcs _ _ _
theorem run_callee {cs : List AV} {callee : Operand} {args : Array Operand} {tys : Array TypeId} {ρ : Operand → Value} (hop : o.op = .call ⟨.value callee, args, tys⟩) (hca : callable P f) (hv : RV G F M w (ρ callee) (.fn f cs)) :
  ∃ vs : List Value, vs.length = cs.length ∧ (∀ i (h1 : i < vs.length) (h2 : i < cs.length), RV G F M w vs[i] cs[i]) ∧ (execOp ρ o).run P w = .ok (.enter f ((args.toList.map ρ ++ vs).toArray)) w := by
 obtain ⟨vs, hev, hl, hcs⟩ := hv.inv_fn0 hca.1
 refine ⟨vs, hl, hcs, ?_⟩
 obtain ⟨dst, op, ty, pos, after, guard⟩ := o
 simp only at hop
 subst hop
 simp only [execOp, resolve, hev, Deferred.ofValue, Sem.run_bind, Sem.run_pure, Result.andThen_ok, invoke]
 rw [hca.2]
 congr 2
 apply Array.ext'
 simp
theorem SimA.callT {cs : List AV} {callee : Operand} {args : Array Operand} {tys : Array TypeId} {K : Act → World → Prop} {Q1 : Exit → Act → World → Prop}
  (s : SimA P fr ds G F st a w) (hop : o.op = .call ⟨.value callee, args, tys⟩) (hd : ∀ k, o.dst = some k → k < fr.sz) (hcal : od fr st true callee = .fn f cs)
  (hc : CallTo P f (bodyArgs fr st args ++ cs) st.mem st.nx r M' nx')
  (h : ∀ G' F' a' w', SimA P fr ds G' F' ((⟨st.vars, st.tmps, M', nx'⟩ : St).put fr o.dst r) a' w' → Step All G F st.mem w G' F' M' w' → K a' w') : o.wpIn (fc ro) 0 P a w K Q1 := by
 refine ⟨fun _ _ => trivial, ?_⟩
 rw [Oper.semAt_eq _ _ _ (by rw [hop]; intro c h; cases h)]
 have hv := (s.eval callee).unopt
 have hv : RV G F st.mem w (a.eval callee) (.fn f cs) := by unfold od at hcal; rwa [hcal] at hv
 obtain ⟨vs, hl, hcs, hrun⟩ := run_callee hop hc.1 hv
 rw [hrun]
 refine ⟨fun h => by simp [fc, Fence.wide] at h, callsIn_fc ((hc.2 G F w _ s.sim.mem s.fresh (RVs.args s.eval hl hcs)).mono ?_)⟩
 rintro e w2 ⟨u, G', F', rfl, hru, hm, hfr, S2⟩
 exact h G' F' _ w2 (s.step_put (st1 := ⟨st.vars, st.tmps, M', nx'⟩) S2 hm rfl rfl hfr hd hru) S2
theorem RVs.append {vs us : List Value} {xs ys : List AV} (h : RVs G F M w vs xs) (k : RVs G F M w us ys) : RVs G F M w (vs ++ us) (xs ++ ys) := by
 refine ⟨by simp [h.1, k.1], fun i h1 h2 => ?_⟩
 by_cases hlt : i < vs.length
 ·rw [List.getElem_append_left hlt, List.getElem_append_left (by rw [← h.1]; exact hlt)]
  exact h.2 i _ _
 ·have e := h.1
  rw [List.getElem_append_right (by omega), List.getElem_append_right (by omega)]
  simp only [e]
  exact k.2 _ _ _
theorem run_calleeB {cs : List AV} {callee : Operand} {args : Array Operand} {tys : Array TypeId} {ρ : Operand → Value} (hop : o.op = .call ⟨.value callee, args, tys⟩) (hca : callable P f) (hv : RV G F M w (ρ callee) (.fn (f + 1000000) cs)) (hne : cs ≠ []) :
  ∃ vs : List Value, RVs G F M w vs cs ∧ (execOp ρ o).run P w = .ok (.enter f ((vs ++ args.toList.map ρ).toArray)) w := by
 obtain ⟨vs, hev, hl, hcs⟩ := hv.inv_fn
 rw [fnV_ge (by rintro rfl; cases cs with
  | nil => exact hne rfl
  | cons c cs => cases hl)] at hev
 refine ⟨vs, ⟨hl, hcs⟩, ?_⟩
 obtain ⟨dst, op, ty, pos, after, guard⟩ := o
 simp only at hop
 subst hop
 simp only [execOp, resolve, hev, Deferred.ofValue, Sem.run_bind, Sem.run_pure, Result.andThen_ok, invoke]
 rw [hca.2]
 congr 2
 apply Array.ext'
 simp
theorem SimA.callTB {cs : List AV} {callee : Operand} {args : Array Operand} {tys : Array TypeId} {K : Act → World → Prop} {Q1 : Exit → Act → World → Prop}
  (s : SimA P fr ds G F st a w) (hop : o.op = .call ⟨.value callee, args, tys⟩) (hd : ∀ k, o.dst = some k → k < fr.sz) (hcal : od fr st true callee = .fn (f + 1000000) cs) (hne : cs ≠ [])
  (hc : CallTo P f (cs ++ bodyArgs fr st args) st.mem st.nx r M' nx')
  (h : ∀ G' F' a' w', SimA P fr ds G' F' ((⟨st.vars, st.tmps, M', nx'⟩ : St).put fr o.dst r) a' w' → Step All G F st.mem w G' F' M' w' → K a' w') : o.wpIn (fc ro) 0 P a w K Q1 := by
 refine ⟨fun _ _ => trivial, ?_⟩
 rw [Oper.semAt_eq _ _ _ (by rw [hop]; intro c h; cases h)]
 have hv := (s.eval callee).unopt
 have hv : RV G F st.mem w (a.eval callee) (.fn (f + 1000000) cs) := by unfold od at hcal; rwa [hcal] at hv
 obtain ⟨vs, hcs, hrun⟩ := run_calleeB hop hc.1 hv hne
 rw [hrun]
 have hargs : RVs G F st.mem w (args.toList.map a.eval) (bodyArgs fr st args) := by
  have := RVs.args (cs := []) (vs := []) (args := args) s.eval rfl (fun i h1 _ => absurd h1 (Nat.not_lt_zero _))
  simpa using this
 refine ⟨fun h => by simp [fc, Fence.wide] at h, callsIn_fc ((hc.2 G F w _ s.sim.mem s.fresh (hcs.append hargs)).mono ?_)⟩
 rintro e w2 ⟨u, G', F', rfl, hru, hm, hfr, S2⟩
 exact h G' F' _ w2 (s.step_put (st1 := ⟨st.vars, st.tmps, M', nx'⟩) S2 hm rfl rfl hfr hd hru) S2
theorem gvalT_ok {want g : Bool} {v : Value} {x : AV} (h : RV G F M w v x) (hg : gvalT want x = some g) : (bov v == some want) = g := by
 unfold gvalT at hg
 split at hg
 ·cases hg; have h := h.inv_sc; subst h; rename_i b; cases b <;> cases want <;> rfl
 ·cases hg; have h := h.inv_sc; subst h; cases want <;> rfl
 ·cases hg; have h := h.inv_sc; subst h; cases want <;> rfl
 ·cases hg
theorem gslotT_ok {l : List Oper} {j k : Nat} (h : gslotT l j = some k) : gslot l.toArray j = some k := by
 unfold gslotT at h
 unfold gslot
 rw [List.getElem?_toArray]
 split at h
 ·rename_i o ho; rw [ho]; exact h
 ·cases h
theorem wanted_rv {j k : Nat} {want g : Bool} (hr : RV G F M w (a.tmps.getD k undef) (st.get fr k)) (hg : o.guard = some (j, want)) (hj : gslot ops j = some k) (hk : gvalT want (st.get fr k) = some g) : Region.wanted o (yielded ops a.tmps) = g := by
 have := gvalT_ok hr hk
 simp only [Region.wanted, hg, yielded]
 unfold gslot at hj
 rw [hj, ← this]
 simp only [Option.bind_some, Array.getD_eq_getD_getElem?]
 cases h : a.tmps[k]? with
 | none => simp [undef, bov]
 | some v => cases v <;> simp [bov]
theorem wanted_okT {j k : Nat} {want g : Bool} (s : SimA P fr ds G F st a w) (hg : o.guard = some (j, want)) (hj : gslot ops j = some k) (hk : gvalT want (st.get fr k) = some g) : Region.wanted o (yielded ops a.tmps) = g := wanted_rv (s.sim.slots k) hg hj hk
theorem OpTo.wp {st1 : St} {K : Act → World → Prop} {Q1 : Exit → Act → World → Prop} (h : OpTo P fr ds G F st a w o st1) (hnd : ∀ c, o.op ≠ .defer c)
  (hk : ∀ G' F' a' w', SimA P fr ds G' F' st1 a' w' → Step All G F st.mem w G' F' st1.mem w' → K a' w') : o.wpIn (fc ro) 0 P a w K Q1 := by
 obtain ⟨u, w', G', F', hrun, s', S'⟩ := h
 refine ⟨fun _ _ => trivial, ?_⟩
 rw [Oper.semAt_eq _ _ _ hnd]
 rcases hrun with hrun | ⟨hrun, rfl⟩ <;> rw [hrun]
 ·exact hk _ _ _ _ s' S'
 ·exact hk _ _ _ _ s' S'
theorem xopT_defer {ev : Operand → Option AV} {L : Nat → Option RObj} {id : Nat} {r : R} (h : xopT P ev L id o = some r) : ∀ c, o.op ≠ .defer c := by
 intro c hc
 obtain ⟨d, op, ty, pos, after, gu⟩ := o
 simp only at hc
 subst hc
 simp only [xopT] at h
 cases h
def GoOk (fr : Fr) (st : St) (ops : Array Oper) (o : Oper) : Prop := o.guard = none ∨ ∃ j want k, o.guard = some (j, want) ∧ gslot ops j = some k ∧ gvalT want (st.get fr k) = some true
theorem XR.goT (hg : GoOk fr st ops o) (h : ∀ G0 F0 M0 w0 G F a w, Step (· < fr.base) G0 F0 M0 w0 G F st.mem w → SimA P fr ds G F st a w →
  ∀ K : Act → World → Prop, (∀ a' w', wpListIn (fc ro) 0 P ops (Post P fr ds G0 F0 M0 w0 Q) rest a' w' → K a' w') → o.wpIn (fc ro) 0 P a w K (Post P fr ds G0 F0 M0 w0 Q)) : XR P fr ro ds ops (o :: rest) st Q := by
 intro G0 F0 M0 w0 G F a w S s
 rcases hg with hg | ⟨j, want, k, hg, hj, hk⟩
 ·exact wpListIn_plain hg fun K hK => h _ _ _ _ _ _ _ _ S s K hK
 ·have hw := wanted_okT s hg hj hk
  simp only [wpListIn, hw, if_true]
  exact h _ _ _ _ _ _ _ _ S s _ fun _ _ h => h
theorem XR.opT {base sz : Nat} {s : ES} {r : R} (hg : GoOk (allF base sz) st ops o) (A : Abs (allF base sz) s st) (hd : dok (allF base sz) o.dst = true) (h : xopT P (opT s.tm) (fun i => T.get none s.mem i) s.nx o = some r)
  (hq : XR P (allF base sz) ro ds ops rest (r.stp (allF base sz) st o.dst) Q) : XR P (allF base sz) ro ds ops (o :: rest) st Q :=
 XR.goT hg fun _ _ _ _ _ _ _ _ S sm K hK => (xopT_run A sm hd h).wp (xopT_defer h) fun _ _ _ _ s' S' => hK _ _ (hq _ _ _ _ _ _ _ _ (S.trans (S'.mono fun _ _ => trivial)) s')
theorem XR.skipT {j k : Nat} {want : Bool} (hg : o.guard = some (j, want)) (hj : gslot ops j = some k) (hk : gvalT want (st.get fr k) = some false) (hd : dok fr o.dst = true)
  (h : XR P fr ro ds ops rest (st.put fr o.dst (.sc undef)) Q) : XR P fr ro ds ops (o :: rest) st Q :=
 fun _ _ _ _ _ _ a w S s => by
  have hw := wanted_okT s hg hj hk
  simp only [wpListIn, hw, Bool.false_eq_true, if_false]
  exact ⟨fun _ _ => trivial, h _ _ _ _ _ _ _ _ (by rw [St.put_mem]; exact S) (s.step_put .refl s.sim.mem rfl rfl s.fresh (dok_spec hd) (.imm (.sc _)))⟩
theorem XR.callT (hg : GoOk fr st ops o) {cs : List AV} {callee : Operand} {args : Array Operand} {tys : Array TypeId} (hop : o.op = .call ⟨.value callee, args, tys⟩) (hd : dok fr o.dst = true)
  (hcal : od fr st true callee = .fn f cs) (hc : CallTo P f (bodyArgs fr st args ++ cs) st.mem st.nx r M' nx')
  (hq : XR P fr ro ds ops rest ((⟨st.vars, st.tmps, M', nx'⟩ : St).put fr o.dst r) Q) : XR P fr ro ds ops (o :: rest) st Q :=
 XR.goT hg fun _ _ _ _ _ _ _ _ S sm K hK => sm.callT hop (dok_spec hd) hcal hc fun _ _ _ _ s' S' => hK _ _ (hq _ _ _ _ _ _ _ _ (S.trans (by rw [St.put_mem]; exact S'.mono fun _ _ => trivial)) s')
theorem XR.callTB (hg : GoOk fr st ops o) {cs : List AV} {callee : Operand} {args : Array Operand} {tys : Array TypeId} (hop : o.op = .call ⟨.value callee, args, tys⟩) (hd : dok fr o.dst = true)
  (hcal : od fr st true callee = .fn (f + 1000000) cs) (hne : cs ≠ []) (hc : CallTo P f (cs ++ bodyArgs fr st args) st.mem st.nx r M' nx')
  (hq : XR P fr ro ds ops rest ((⟨st.vars, st.tmps, M', nx'⟩ : St).put fr o.dst r) Q) : XR P fr ro ds ops (o :: rest) st Q :=
 XR.goT hg fun _ _ _ _ _ _ _ _ S sm K hK => sm.callTB hop (dok_spec hd) hcal hne hc fun _ _ _ _ s' S' => hK _ _ (hq _ _ _ _ _ _ _ _ (S.trans (by rw [St.put_mem]; exact S'.mono fun _ _ => trivial)) s')
def XTo (P : Program) (fr : Fr) (ops : Array Oper) (l : List Oper) (st st' : St) : Prop := ∀ ro ds Q, Q .normal st' → XR P fr ro ds ops l st Q
end
section
variable {P : Program} {base sz : Nat} {call : CallF} {all : List Oper} {Q : Exit → St → Prop}
theorem dokT_ok {d : Option Nat} (h : dokT sz d = true) : dok (allF base sz) d = true := by
 cases hdst : d with
 | none => rfl
 | some d => rw [hdst] at h; simp only [dokT, blt_dec] at h; exact h
theorem Abs.gv {s : ES} {st : St} (A : Abs (allF base sz) s st) {want g : Bool} {k : Nat} (hv : gvalT want (T.get .junk s.tm k) = some g) : gvalT want (st.get (allF base sz) k) = some g := by
 rcases A.slot k with h | h
 ·rw [h] at hv; cases hv
 ·rw [h]; exact hv
def KeepS (fr : Fr) (l : List Oper) (st st' : St) : Prop := ∀ i, (∀ o ∈ l, o.dst ≠ some i) → st'.get fr i = st.get fr i
theorem KeepS.cons {fr : Fr} {o : Oper} {l : List Oper} {st st1 st' : St} (h1 : ∀ i, o.dst ≠ some i → st1.get fr i = st.get fr i) (h : KeepS fr l st1 st') : KeepS fr (o :: l) st st' :=
 fun i hi => (h i fun o ho => hi o (List.mem_cons_of_mem _ ho)).trans (h1 i (hi o List.mem_cons_self))
theorem put_keep {fr : Fr} {st : St} {M : Mem} {nx : Nat} {d : Option Nat} {v : AV} (i : Nat) (h : d ≠ some i) : ((⟨st.vars, st.tmps, M, nx⟩ : St).put fr d v).get fr i = st.get fr i := by
 cases d with
 | none => rfl
 | some d =>
   rw [St.get_put, if_neg fun e => h (by rw [e])]
   rfl
theorem evGo_ok (hc : CallOk P call) {k : ES → X ES} {rest : List Oper} {s' : ES} (hk : ∀ s st, Abs (allF base sz) s st → k s = .ok s' → ∃ st', Abs (allF base sz) s' st' ∧ KeepS (allF base sz) rest st st' ∧ XTo P (allF base sz) all.toArray rest st st')
  {o : Oper} {s : ES} {st : St} (A : Abs (allF base sz) s st) (hd : dok (allF base sz) o.dst = true) (hg : GoOk (allF base sz) st all.toArray o) (h : evGo P call k o s = .ok s') :
  ∃ st', Abs (allF base sz) s' st' ∧ KeepS (allF base sz) (o :: rest) st st' ∧ XTo P (allF base sz) all.toArray (o :: rest) st st' := by
 unfold evGo at h
 split at h
 ·rename_i callee args tys hop
  split at h
  ·rename_i f cs vs hcal hvs
   split at h
   ·rename_i r M' nx' hcall
    have hcal := A.ev.some hcal
    have hvs := evs_ok A.ev hvs
    unfold callB at hcall
    rw [blt_dec, bif_inv] at hcall
    split at hcall
    ·obtain ⟨M1, hM1, hb⟩ := hc _ _ _ _ _ _ _ st.mem A.mem hcall
     have A1 : Abs (allF base sz) (⟨s.tm, M', nx'⟩ : ES) ⟨st.vars, st.tmps, M1, nx'⟩ := ⟨A.tmps, A.slot, hM1, rfl⟩
     obtain ⟨st', A', hkp, hx⟩ := hk _ _ (A1.put hd r) h
     refine ⟨st', A', .cons (fun i hi => put_keep i hi) hkp, fun ro ds Q hq => ?_⟩
     rw [A.nx, ← hvs] at hb
     exact XR.callT hg hop hd hcal hb (hx ro ds Q hq)
    ·rename_i hge
     cases hce : cs.isEmpty
     rotate_left
     ·rw [hce] at hcall; cases hcall
     rw [hce] at hcall
     simp only [cond_false] at hcall
     have hne : cs ≠ [] := by rintro rfl; cases hce
     obtain ⟨M1, hM1, hb⟩ := hc _ _ _ _ _ _ _ st.mem A.mem hcall
     have A1 : Abs (allF base sz) (⟨s.tm, M', nx'⟩ : ES) ⟨st.vars, st.tmps, M1, nx'⟩ := ⟨A.tmps, A.slot, hM1, rfl⟩
     obtain ⟨st', A', hkp, hx⟩ := hk _ _ (A1.put hd r) h
     refine ⟨st', A', .cons (fun i hi => put_keep i hi) hkp, fun ro ds Q hq => ?_⟩
     rw [A.nx, ← hvs] at hb
     have e : f = Nat.sub f 1000000 + 1000000 := (Nat.sub_add_cancel (Nat.le_of_not_lt hge)).symm
     rw [e] at hcal
     exact XR.callTB hg hop hd hcal hne hb (hx ro ds Q hq)
   ·cases h
  ·cases h
 ·split at h
  ·rename_i r hr
   obtain ⟨st', A', hkp, hx⟩ := hk _ _ (A.eff hd r) h
   exact ⟨st', A', .cons (fun i hi => put_keep i hi) hkp, fun ro ds Q hq => XR.opT hg A hd hr (hx ro ds Q hq)⟩
  ·cases h
theorem evOps_ok (hc : CallOk P call) {s' : ES} : ∀ (l : List Oper) (s : ES) (st : St), Abs (allF base sz) s st → evOps P call sz all l s = .ok s' → ∃ st', Abs (allF base sz) s' st' ∧ KeepS (allF base sz) l st st' ∧ XTo P (allF base sz) all.toArray l st st'
 | [], s, st, A, h => by cases h; exact ⟨st, A, fun _ _ => rfl, fun _ _ _ hq => .nil hq⟩
 | o :: rest, s, st, A, h => by
   simp only [evOps] at h
   cases hd : dokT sz o.dst
   ·rw [hd] at h; cases h
   ·rw [hd] at h
    have hd : dok (allF base sz) o.dst = true := dokT_ok hd
    simp only [cond_true] at h
    have ih := fun s st A h => evOps_ok hc (s' := s') rest s st A h
    split at h
    ·rename_i hg; exact evGo_ok hc ih A hd (.inl hg) h
    ·rename_i j want hg
     split at h
     ·cases h
     ·rename_i k hk
      have hj := gslotT_ok hk
      split at h
      ·rename_i hv; exact evGo_ok hc ih A hd (.inr ⟨j, want, k, hg, hj, A.gv hv⟩) h
      ·rename_i hv
       obtain ⟨st', A', hkp, hx⟩ := ih _ _ (A.put hd (.sc undef)) h
       exact ⟨st', A', .cons (fun i hi => put_keep (st := st) (M := st.mem) (nx := st.nx) i hi) hkp, fun ro ds Q hq => XR.skipT hg hj (A.gv hv) hd (hx ro ds Q hq)⟩
      ·cases h
end
theorem MOk.put {m : ML} {M : Mem} (h : MOk m M) (i : Nat) (o : RObj) : MOk (T.put m (some o) i) (mset M i o) := fun j => by
 rcases T.get_put none (some o) m i j with k | k
 ·exact .inl k
 ·rw [k, mlook_mset]
  by_cases hj : j = i
  ·rw [if_pos hj, if_pos hj]; exact .inr rfl
  ·rw [if_neg hj, if_neg hj]; exact h j
theorem MOk.del {m : ML} {M : Mem} (h : MOk m M) (i : Nat) : MOk (T.put m none i) (mdel M i) := fun j => by
 rcases T.get_put none none m i j with k | k
 ·exact .inl k
 ·rw [k, mlook_mdel]
  by_cases hj : j = i
  ·rw [if_pos hj]; exact .inl rfl
  ·rw [if_neg hj, if_neg hj]; exact h j
theorem MOk.look {m : ML} {M : Mem} (h : MOk m M) {i : Nat} {o : RObj} (hi : T.get none m i = some o) : mlook M i = some o := by
 rcases h i with k | k
 ·rw [k] at hi; cases hi
 ·rw [k, hi]
section
variable {P : Program} {G : Nat → Option Value} {F F0 F' : Nat → Nat → Prop} {M M0 M' : Mem} {w : World} {nx : Nat}
theorem simM_reread {i esz esz2 : Nat} {es es2 es' : List (List AV)} {fz fz2 : Bool} (hm0 : SimM P G F0 M0 nx w) (ho : mlook M0 i = some (.arr esz es fz)) (hm : SimM P G F M nx w) (h2 : mlook M i = some (.arr esz2 es2 fz2)) (hez : esz2 = esz) (hl : es2.length = es.length)
  (hl' : es'.length = es.length) (hrow : ∀ k (h : k < es'.length) (h' : k < es.length), es'[k].length = es[k].length) (hr : ∀ k j (h : k < es.length) (h' : j < es[k].length) (h3 : k < es'.length) (h4 : j < es'[k].length) u, RV G F0 M0 w u es[k][j] → Imm F w u es'[k][j])
  (hn : es'.all AV.norefs = true) : SimM P G F (mset M i (.arr esz es' fz2)) nx w ∧ Step All G F M w G F (mset M i (.arr esz es' fz2)) w := by
 subst hez
 have S : Step All G F M w G F (mset M i (.arr esz2 es' fz2)) w :=
  { kept := .refl
    size := Nat.le_refl _
    out := fun _ _ _ => rfl
    F1 := fun _ _ h => h
    F2 := fun _ _ _ => rfl
    F3 := fun _ _ h => .inl h
    own := fun b ⟨id, o, v, h3, h4, h5⟩ => by
     rw [mlook_mset] at h3
     by_cases hi : id = i
     ·subst hi; exact .inr ⟨id, _, v, h2, h4, h5⟩
     ·rw [if_neg hi] at h3; exact .inr ⟨id, o, v, h3, h4, h5⟩
    some' := fun _ _ h => h
    same := fun _ _ _ h _ => h
    keep := fun id o' _ hG h3 => by
     obtain ⟨v, hv⟩ := Option.ne_none_iff_exists'.1 hG
     rw [mlook_mset] at h3
     by_cases hi : id = i
     ·subst hi
      rw [if_pos rfl] at h3; cases h3
      exact ⟨_, v, v, h2, hv, hv, ⟨rfl, .inl ⟨by omega, rfl⟩⟩⟩
     ·rw [if_neg hi] at h3
      exact ⟨o', v, v, h3, hv, hv, objKeep.refl v o'⟩ }
 have hsome : ∀ id, mlook (mset M i (.arr esz2 es' fz2)) id ≠ none → mlook M id ≠ none := fun id h => by
  rw [mlook_mset] at h; by_cases hi : id = i
  ·subst hi; rw [h2]; simp
  ·rwa [if_neg hi] at h
 refine ⟨simM_gen hm S (fun id o' h => ?_) (fun id id' v v' b h1 h2 => hm.inj id id' v v' b (hsome _ h1) (hsome _ h2)) hm.inF, S⟩
 rw [mlook_mset] at h
 by_cases hi : id = i
 ·subst hi
  rw [if_pos rfl] at h; cases h
  refine ⟨(hm.obj id _ h2).1, .inl ?_⟩
  rcases (hm.obj id _ h2).2 with ⟨h0, base, h1, hsp⟩ | ⟨b, ko, c, cc, e, h1, h3, h4, h5, h6, h7, h8, h9, h10⟩
  ·subst h0
   exact .inl ⟨List.length_eq_zero_iff.1 (by rw [hl', ← hl]; rfl), base, h1, hsp⟩
  ·rcases (hm0.obj id _ ho).2 with ⟨h0, base, k1, _⟩ | ⟨b', ko', c', cc', e', k1, k3, k4, k5, k6, k7, k8, k9, k10⟩
   ·rw [h1] at k1; exact absurd (slice_inj k1).2.2 h3
   ·rw [h1] at k1
    obtain ⟨q1, _, q2⟩ := slice_inj k1
    cases q1; subst q2
    rw [h4] at k4; cases k4
    refine .inr ⟨b, ko, c, cc, e, by rw [hl', ← hl]; exact h1, h3, h4, by rw [hl', ← hl]; exact h5, h6, fun k hk => by rw [hrow k hk (by omega)]; exact k7 k (by omega), fun k j hk hj => ?_, fun o hF => by rw [hl', ← hl]; exact h9 o hF, fun hz => ⟨all_norefs hn, fun o hlt => (h10 hz).2 o (by rw [hl, ← hl']; exact hlt)⟩⟩
    have hk' : k < es.length := by omega
    have hj' : j < es[k].length := by rw [← hrow k hk hk']; exact hj
    obtain ⟨v, q1, q2, q3⟩ := k8 k j hk' hj'
    exact ⟨v, q1, q2, .imm (hr k j hk' hj' hk hj v q3)⟩
 ·rw [if_neg hi] at h
  exact ⟨(hm.obj id _ h).1, .inr ⟨h, rfl, fun b v hG hb => ⟨rfl, fun _ h => h⟩⟩⟩
theorem simM_freeze {i esz esz2 : Nat} {es es2 es' : List (List AV)} {fz fz2 : Bool} (hm0 : SimM P G F0 M0 nx w) (ho : mlook M0 i = some (.arr esz es fz)) (hm : SimM P G F M nx w) (h2 : mlook M i = some (.arr esz2 es2 fz2)) (hez : esz2 = esz) (hl : es2.length = es.length)
  (hl' : es'.length = es.length) (hrow : ∀ k (h : k < es'.length) (h' : k < es.length), es'[k].length = es[k].length) (hr : ∀ k j (h : k < es.length) (h' : j < es[k].length) (h3 : k < es'.length) (h4 : j < es'[k].length) u, RV G F0 M0 w u es[k][j] → Imm F w u es'[k][j])
  (hn : es'.all AV.norefs = true) : ∃ F', SimM P G F' (mset M i (.arr esz es' true)) nx w ∧ Step All G F M w G F' (mset M i (.arr esz es' true)) w := by
 obtain ⟨hm1, S1⟩ := simM_reread hm0 ho hm h2 hez hl hl' hrow hr hn
 obtain ⟨F', hm2, S2⟩ := simM_frz hm1 (by rw [mlook_mset, if_pos rfl]) hn
 rw [mset_mset_same] at hm2 S2
 exact ⟨F', hm2, S1.trans S2⟩
end
abbrev Rel (α β : Type) := (Nat → Option Value) → World → (Nat → Nat → Prop) → Mem → (Nat → Nat → Prop) → α → β → Prop
def Rdg : Rel AV AV := fun G w F M F' x y => y.noref = true ∧ ∀ u, RV G F M w u x → Imm F' w u y
def RdgL {α β : Type} (R : Rel α β) : Rel (List α) (List β) := fun G w F M F' xs ys => ys.length = xs.length ∧ ∀ i (h1 : i < xs.length) (h2 : i < ys.length), R G w F M F' xs[i] ys[i]
def FOkF {α β : Type} (P : Program) (R : Rel α β) (f : ML → α → Option (β × ML)) : Prop :=
 ∀ m x y m' M, f m x = some (y, m') → MOk m M → ∃ M', MOk m' M' ∧ ∀ G F nx w, SimM P G F M nx w → ∃ F', SimM P G F' M' nx w ∧ Step All G F M w G F' M' w ∧ R G w F M F' x y
def Mono {α β : Type} (R : Rel α β) : Prop :=
 ∀ G w F0 M0 F M F' M' F2 M2 x y, Step All G F0 M0 w G F M w → R G w F M F' x y → Step All G F' M' w G F2 M2 w → R G w F0 M0 F2 x y
theorem Rdg.mono : Mono Rdg := fun _ _ _ _ _ _ _ _ _ _ _ _ S h T => ⟨h.1, fun u hu => (h.2 u (hu.step S fun _ _ => trivial)).mono T.F1 T.F2⟩
theorem RdgL.mono {α β : Type} {R : Rel α β} (h : Mono R) : Mono (RdgL R) := fun _ _ _ _ _ _ _ _ _ _ _ _ S k T => ⟨k.1, fun i h1 h2 => h _ _ _ _ _ _ _ _ _ _ _ _ S (k.2 i h1 h2) T⟩
section
variable {P : Program} {G : Nat → Option Value} {F F0 F' : Nat → Nat → Prop} {M M0 M' : Mem} {w : World} {nx : Nat}
theorem frzL_ok {α β : Type} {R : Rel α β} {f : ML → α → Option (β × ML)} (hR : Mono R) (hf : FOkF P R f) : FOkF P (RdgL R) (frzL f) := by
 intro m xs
 induction xs generalizing m with
 | nil =>
   intro y m' M h hM
   simp only [frzL] at h; cases h
   exact ⟨M, hM, fun G F nx w hm => ⟨F, hm, .refl, rfl, fun i h => absurd h (Nat.not_lt_zero _)⟩⟩
 | cons x xs ih =>
   intro y m' M h hM
   simp only [frzL] at h
   split at h
   ·rename_i y1 m1 h1
    split at h
    ·rename_i l' m2 h2
     cases h
     obtain ⟨M1, hM1, k1⟩ := hf _ _ _ _ _ h1 hM
     obtain ⟨M2, hM2, k2⟩ := ih _ _ _ _ h2 hM1
     refine ⟨M2, hM2, fun G F nx w hm => ?_⟩
     obtain ⟨F1, hm1, S1, r1⟩ := k1 G F nx w hm
     obtain ⟨F2, hm2, S2, r2⟩ := k2 G F1 nx w hm1
     refine ⟨F2, hm2, S1.trans S2, by simp [r2.1], fun i hi1 hi2 => ?_⟩
     cases i with
     | zero => exact hR _ _ _ _ _ _ _ _ _ _ _ _ .refl r1 S2
     | succ i => exact hR _ _ _ _ _ _ _ M2 _ M2 _ _ S1 (r2.2 i (by simpa using hi1) (by simpa using hi2)) .refl
    ·cases h
   ·cases h
theorem RdgL.norefs {F' : Nat → Nat → Prop} {xs ys : List AV} (h : RdgL Rdg G w F M F' xs ys) : AV.norefs ys = true := by
 have : ∀ l : List AV, (∀ i (h : i < l.length), l[i].noref = true) → AV.norefs l = true := fun l => by
  induction l with
  | nil => intro _; rfl
  | cons x l ih => intro h; simp only [AV.norefs, Bool.and_eq_true]; exact ⟨h 0 (by simp), ih fun i hi => h (i + 1) (by simpa using hi)⟩
 exact this ys fun i hi => (h.2 i (by rw [← h.1]; exact hi) hi).1
theorem frzO_ok {f : ML → List AV → Option (List AV × ML)} (hf : FOkF P (RdgL Rdg) f) {m m' : ML} {i n : Nat} {es' : List (List AV)} (h : frzO f m i n = some (es', m')) (hM : MOk m M) :
  ∃ M' esz, MOk m' M' ∧ mlook M' i = some (.arr esz es' true) ∧ ∀ G F nx w, SimM P G F M nx w → ∃ F', SimM P G F' M' nx w ∧ Step All G F M w G F' M' w ∧ n = es'.length := by
 unfold frzO at h
 split at h
 ·rename_i esz es fz ho
  rw [beq_dec, bif_inv] at h
  split at h
  ·rename_i hn
   cases fz with
   | true => cases h; exact ⟨M, esz, hM, hM.look ho, fun G F nx w hm => ⟨F, hm, .refl, hn⟩⟩
   | false =>
     simp only [cond_false] at h
     split at h
     ·rename_i es1 m1 h1
      obtain ⟨M1, hM1, k1⟩ := frzL_ok (RdgL.mono Rdg.mono) hf _ _ _ _ _ h1 hM
      split at h
      ·rename_i esz' es2 fz2 h2
       generalize hb : (Nat.beq esz' esz && Nat.beq es2.length es.length) = b at h
       cases b
       ·cases h
       ·cases h
        simp only [Bool.and_eq_true, beq_dec, decide_eq_true_eq] at hb
        refine ⟨_, esz, hM1.put _ _, by rw [mlook_mset, if_pos rfl], fun G F nx w hm => ?_⟩
        obtain ⟨F1, hm1, S1, r1⟩ := k1 G F nx w hm
        have hn' : es'.all AV.norefs = true := by
         rw [List.all_eq_true]
         intro y hy
         obtain ⟨k, hk, rfl⟩ := List.mem_iff_getElem.1 hy
         exact (r1.2 k (by rw [← r1.1]; exact hk) hk).norefs
        obtain ⟨F2, hm2, S2⟩ := simM_freeze (es' := es') hm (hM.look ho) hm1 (hM1.look h2) hb.1 hb.2 r1.1 (fun k h h' => (r1.2 k h' h).1) (fun k j h h' h3 h4 u hu => ((r1.2 k h h3).2 j h' h4).2 u hu) hn'
        exact ⟨F2, hm2, S1.trans S2, by rw [hn, r1.1]⟩
      ·cases h
     ·cases h
  ·cases h
 ·cases h
theorem frzV_ok : ∀ n, FOkF P Rdg (frzV n)
 | 0 => fun _ _ _ _ _ h => by cases h
 | n + 1 => fun m v y m' M h hM => by
   have ih := frzL_ok Rdg.mono (frzV_ok n)
   have triv : ∀ {x : AV}, x.noref = true → y = x → m' = m → v = x → ∃ M', MOk m' M' ∧ ∀ G F nx w, SimM P G F M nx w → ∃ F', SimM P G F' M' nx w ∧ Step All G F M w G F' M' w ∧ Rdg G w F M F' v y := fun h1 h2 h3 h4 => by
    subst h2; subst h3; subst h4; exact ⟨M, hM, fun G F nx w hm => ⟨F, hm, .refl, h1, fun u hu => hu.imm_of h1⟩⟩
   simp only [frzV] at h
   split at h
   ·cases h; exact triv rfl rfl rfl rfl
   ·cases h; exact triv rfl rfl rfl rfl
   ·cases h; exact triv rfl rfl rfl rfl
   ·split at h
    ·rename_i cs l m1 h1
     cases h
     obtain ⟨M1, hM1, k1⟩ := ih _ _ _ _ _ h1 hM
     refine ⟨M1, hM1, fun G F nx w hm => ?_⟩
     obtain ⟨F1, hm1, S1, r1⟩ := k1 G F nx w hm
     refine ⟨F1, hm1, S1, r1.norefs, fun u hu => ?_⟩
     obtain ⟨vs, rfl, hl, hvs⟩ := hu.inv_ag
     exact .ag vs _ (by rw [hl, r1.1]) fun i h1 h2 => (r1.2 i (by omega) h2).2 _ (hvs i h1 (by omega))
    ·cases h
   ·split at h
    ·rename_i cs l m1 h1
     cases h
     obtain ⟨M1, hM1, k1⟩ := ih _ _ _ _ _ h1 hM
     refine ⟨M1, hM1, fun G F nx w hm => ?_⟩
     obtain ⟨F1, hm1, S1, r1⟩ := k1 G F nx w hm
     refine ⟨F1, hm1, S1, r1.norefs, fun u hu => ?_⟩
     obtain ⟨vs, rfl, hl, hvs⟩ := hu.inv_tu
     exact .tu vs _ (by rw [hl, r1.1]) fun i h1 h2 => (r1.2 i (by omega) h2).2 _ (hvs i h1 (by omega))
    ·cases h
   ·split at h
    ·rename_i f cs l m1 h1
     cases h
     obtain ⟨M1, hM1, k1⟩ := ih _ _ _ _ _ h1 hM
     refine ⟨M1, hM1, fun G F nx w hm => ?_⟩
     obtain ⟨F1, hm1, S1, r1⟩ := k1 G F nx w hm
     refine ⟨F1, hm1, S1, r1.norefs, fun u hu => ?_⟩
     obtain ⟨vs, rfl, hl, hvs⟩ := hu.inv_fn
     exact .fn _ vs _ (by rw [hl, r1.1]) fun i h1 h2 => (r1.2 i (by omega) h2).2 _ (hvs i h1 (by omega))
    ·cases h
   ·split at h
    ·rename_i t x y1 m1 h1
     cases h
     obtain ⟨M1, hM1, k1⟩ := frzV_ok n _ _ _ _ _ h1 hM
     refine ⟨M1, hM1, fun G F nx w hm => ?_⟩
     obtain ⟨F1, hm1, S1, r1⟩ := k1 G F nx w hm
     refine ⟨F1, hm1, S1, r1.1, fun u hu => ?_⟩
     obtain ⟨u', rfl, hu'⟩ := hu.inv_ifc
     exact .ifc _ _ _ (r1.2 _ hu')
    ·cases h
   ·split at h
    ·rename_i i len nl es m1 h1
     cases h
     obtain ⟨M1, esz, hM1, hlk, k1⟩ := frzO_ok ih h1 hM
     refine ⟨M1, hM1, fun G F nx w hm => ?_⟩
     obtain ⟨F1, hm1, S1, hn⟩ := k1 G F nx w hm
     refine ⟨F1, hm1, S1, rfl, fun u hu => ?_⟩
     have := (hu.step S1 fun _ _ => trivial).snap hm1
     simp only [Avl.snap, hlk, if_pos hn] at this
     exact this.imm_of rfl
    ·cases h
   ·split at h
    ·rename_i i k off len cap es m1 h1
     cases h
     obtain ⟨M1, esz, hM1, hlk, k1⟩ := frzO_ok ih h1 hM
     refine ⟨M1, hM1, fun G F nx w hm => ?_⟩
     obtain ⟨F1, hm1, S1, hn⟩ := k1 G F nx w hm
     refine ⟨F1, hm1, S1, rfl, fun u hu => ?_⟩
     have := (hu.step S1 fun _ _ => trivial).snap hm1
     simp only [Avl.snap, hlk, if_pos hn] at this
     exact this.imm_of rfl
    ·cases h
   ·cases h
theorem frzArgs_ok {n : Nat} {m m' : ML} {xs ys : List AV} (h : frzL (frzV n) m xs = some (ys, m')) (hM : MOk m M) :
  ∃ M', MOk m' M' ∧ ∀ G F nx w, SimM P G F M nx w → ∃ F', SimM P G F' M' nx w ∧ Step All G F M w G F' M' w ∧ AV.norefs ys = true ∧ ∀ us, RVs G F M w us xs → Imms F' w us ys := by
 obtain ⟨M1, hM1, k1⟩ := frzL_ok Rdg.mono (frzV_ok (P := P) n) _ _ _ _ _ h hM
 refine ⟨M1, hM1, fun G F nx w hm => ?_⟩
 obtain ⟨F1, hm1, S1, r1⟩ := k1 G F nx w hm
 exact ⟨F1, hm1, S1, r1.norefs, fun us hus => ⟨by rw [hus.1, r1.1], fun i h1 h2 => (r1.2 i (by rw [← r1.1]; exact h2) h2).2 _ (hus.2 i h1 (by rw [← r1.1]; exact h2))⟩⟩
theorem CallTo.pure {n f : Nat} {m m' : ML} {xs ys : List AV} {r : AV} {nx : Nat} (hp : PureIs P f ys r) (h : frzL (frzV n) m xs = some (ys, m')) (hM : MOk m M) : ∃ M', MOk m' M' ∧ CallTo P f xs M nx r M' (nx + 1) := by
 obtain ⟨M1, hM1, k1⟩ := frzArgs_ok (P := P) h hM
 refine ⟨M1, hM1, hp.1, fun G F w vals hm hfr hv => ?_⟩
 obtain ⟨F1, hm1, S1, hn, hi⟩ := k1 G F nx w hm
 refine (hp.2 F1 w vals hm1.fok (hi _ hv)).mono ?_
 rintro e w2 ⟨v, F2, rfl, hv2, g⟩
 obtain ⟨hm2, S2⟩ := simM_grown hm1 g
 exact ⟨v, G, F2, rfl, .imm hv2, hm2.more (Nat.le_succ _), fun j hj => hfr j (Nat.le_of_succ_le hj), S1.trans S2⟩
end
def fxMem : List (Nat × RObj) → Mem → Mem
 | [], M => M
 | (i, o) :: l, M => fxMem l (mset M i o)
def fxLook : List (Nat × RObj) → Nat → Option RObj
 | [], _ => none
 | (j, o) :: l, i => match fxLook l i with
   | some o' => some o'
   | none => if i = j then some o else none
theorem mlook_fx : ∀ (l : List (Nat × RObj)) (M : Mem) (i : Nat), mlook (fxMem l M) i = match fxLook l i with
  | some o => some o
  | none => mlook M i
 | [], _, _ => rfl
 | (j, o) :: l, M, i => by
   simp only [fxMem, fxLook]
   rw [mlook_fx l]
   cases h : fxLook l i with
   | some o' => rfl
   | none =>
     simp only [mlook_mset]
     by_cases hi : i = j
     ·rw [if_pos hi, if_pos hi]
     ·rw [if_neg hi, if_neg hi]
theorem fxLook_mem : ∀ {l : List (Nat × RObj)} {i : Nat}, (fxLook l i).isSome = true → ∃ p ∈ l, p.1 = i
 | (j, o) :: l, i, h => by
   simp only [fxLook] at h
   cases hl : fxLook l i with
   | some o' =>
     obtain ⟨p, h1, h2⟩ := fxLook_mem (l := l) (i := i) (by rw [hl]; rfl)
     exact ⟨p, List.mem_cons_of_mem _ h1, h2⟩
   | none =>
     rw [hl] at h
     by_cases hi : i = j
     ·exact ⟨_, List.mem_cons_self, hi.symm⟩
     ·simp only [if_neg hi] at h; cases h
def runU (fr : Fr) (t : Iu) (st : St) : St := (⟨st.vars, st.tmps, fxMem t.fx st.mem, t.hi⟩ : St).put fr t.o.dst t.val
def wrtU (t : Iu) (x : Nat) : Option (AV ⊕ Option RObj) :=
 if x % 2 = 0 then (if t.o.dst = some (x / 2) then some (.inl t.val) else none)
 else match fxLook t.fx (x / 2) with
  | some o => some (.inr (some o))
  | none => none
def foldU (fr : Fr) (S : Nat → Bool) : Nat → List Iu → St → St
 | _, [], st => st
 | i, t :: l, st => foldU fr S (i + 1) l (if S i = true then runU fr t st else st)
def lastU (S : Nat → Bool) : Nat → List Iu → Nat → AV ⊕ Option RObj → AV ⊕ Option RObj
 | _, [], _, c => c
 | i, t :: l, x, c => lastU S (i + 1) l x (if S i = true then (wrtU t x).getD c else c)
section
variable {P : Program} {fr : Fr} {ro : Option Nat} {ds : DS} {st st' : St} {Q : Exit → St → Prop} {G G' : Nat → Option Value} {F F' : Nat → Nat → Prop} {a : Act} {w w' : World}
 {M M' : Mem} {ops : Array Oper} {o : Oper} {id N : Nat} {S S' : Nat → Bool} {d : Option Nat} {t : Iu} {x y : Nat} {l : List Iu}
theorem look_runU (x : Nat) : look fr (runU fr t st) x = (wrtU t x).getD (look fr st x) := by
 unfold look wrtU runU
 split
 ·cases hd : t.o.dst with
  | none => simp [St.put, St.get]
  | some k =>
    rw [St.get_put]
    by_cases h : x / 2 = k
    ·rw [if_pos h, if_pos (by rw [h])]; rfl
    ·rw [if_neg h, if_neg (by simpa using fun e => h e.symm)]; rfl
 ·rw [St.put_mem, mlook_fx]
  cases fxLook t.fx (x / 2) <;> rfl
theorem wrtU_wl : (wrtU t x).isSome = true → x ∈ wlU t := by
 unfold wrtU wlU
 split
 ·rename_i h
  split
  ·rename_i hd; rw [hd]; intro _; simp; omega
  ·simp
 ·rename_i h
  intro hs
  have : (fxLook t.fx (x / 2)).isSome = true := by
   cases hf : fxLook t.fx (x / 2) with
   | none => rw [hf] at hs; cases hs
   | some o => rfl
  obtain ⟨p, h1, h2⟩ := fxLook_mem this
  exact List.mem_append_right _ (List.mem_map.2 ⟨p, h1, by omega⟩)
theorem look_foldU (x : Nat) : ∀ (l : List Iu) (i : Nat) (st : St), look fr (foldU fr S i l st) x = lastU S i l x (look fr st x)
 | [], _, _ => rfl
 | t :: l, i, st => by
   simp only [foldU, lastU]
   rw [look_foldU x l]
   split
   ·rw [look_runU]
   ·rfl
theorem lastU_agree : ∀ (l : List Iu) (i : Nat) (c : AV ⊕ Option RObj), (∀ m t, l[m]? = some t → (wrtU t x).isSome = true → S (i + m) = S' (i + m)) → lastU S i l x c = lastU S' i l x c
 | [], _, _, _ => rfl
 | t :: l, i, c, h => by
   simp only [lastU]
   have e : (if S i = true then (wrtU t x).getD c else c) = if S' i = true then (wrtU t x).getD c else c := by
    cases hw : wrtU t x with
    | none => simp
    | some v =>
      have h0 := h 0 t rfl (by rw [hw]; rfl)
      rw [Nat.add_zero] at h0
      rw [h0]
   rw [e]
   exact lastU_agree l (i + 1) _ fun m t' hm hw => by
    have := h (m + 1) t' hm hw
    rwa [show i + 1 + m = i + (m + 1) by omega]
theorem lastU_keep (v : AV ⊕ Option RObj) : ∀ (l : List Iu) (i : Nat), (∀ m t, l[m]? = some t → S (i + m) = true → wrtU t x = none) → lastU S i l x v = v
 | [], _, _ => rfl
 | t :: l, i, h => by
   simp only [lastU]
   have e : (if S i = true then (wrtU t x).getD v else v) = v := by
    split
    ·rename_i hs; rw [h 0 t rfl hs]; rfl
    ·rfl
   rw [e]
   exact lastU_keep v l (i + 1) fun m t' hm hw => h (m + 1) t' hm (by rwa [show i + (m + 1) = i + 1 + m by omega])
theorem lastU_is (v : AV ⊕ Option RObj) (t0 : Iu) (hv : wrtU t0 x = some v) : ∀ (l : List Iu) (i m0 : Nat) (c : AV ⊕ Option RObj), l[m0]? = some t0 → S (i + m0) = true →
  (∀ m t, m0 < m → l[m]? = some t → S (i + m) = true → wrtU t x = none) → lastU S i l x c = v := by
 intro l
 induction l with
 | nil => intro i m0 c ht; simp at ht
 | cons t l ih =>
   intro i m0 c ht hs h
   simp only [lastU]
   cases m0 with
   | zero =>
     have e : t = t0 := by simpa using ht
     subst e
     rw [Nat.add_zero] at hs
     rw [if_pos hs, hv]
     refine lastU_keep v l (i + 1) fun m t' hm hw => h (m + 1) t' (by omega) (by simpa using hm) ?_
     rw [show i + (m + 1) = i + 1 + m by omega]; exact hw
   | succ m0 =>
     refine ih (i + 1) m0 _ (by simpa using ht) (by rw [show i + 1 + m0 = i + (m0 + 1) by omega]; exact hs) fun m t' hlt hm hw => h (m + 1) t' (by omega) (by simpa using hm) ?_
     rw [show i + (m + 1) = i + 1 + m by omega]; exact hw
theorem foldU_add {i : Nat} {t : Iu} (hi : l[i]? = some t) (hS : S i = false) (hc : ∀ m u, l[m]? = some u → i < m → S m = true → ∀ x, (wrtU t x).isSome = true → wrtU u x = none) (x : Nat) :
  look fr (foldU fr (addS S i) 0 l st) x = look fr (runU fr t (foldU fr S 0 l st)) x := by
 rw [look_foldU, look_runU, look_foldU]
 cases hw : wrtU t x with
 | none =>
   exact lastU_agree l 0 _ fun m u hm hu => by
    simp only [Nat.zero_add, addS]
    by_cases h : m = i
    ·subst h
     rw [hi] at hm; cases hm
     rw [hw] at hu; cases hu
    ·simp [h]
 | some v =>
   refine lastU_is v t hw l 0 i _ hi (by simp [addS]) fun m u hlt hm hs => ?_
   refine hc m u hm hlt ?_ x (by rw [hw]; rfl)
   simp only [addS, Nat.zero_add, Bool.or_eq_true, decide_eq_true_eq] at hs
   rcases hs with hs | hs
   ·exact hs
   ·omega
def OpIsU (P : Program) (fr : Fr) (ro : Option Nat) (ds : DS) (ops : Array Oper) (st : St) (t : Iu) : Prop :=
 ∀ (st' : St) G F a w N (K : Act → World → Prop) (Q1 : Exit → Act → World → Prop), SimD P fr ds G F st' N a w → t.hi ≤ N → (∀ j, t.lo ≤ j → j < t.hi → G j = none) → (∀ x ∈ t.rd, look fr st' x = look fr st x) →
   (∀ G' F' a' w', SimD P fr ds G' F' (runU fr t st') N a' w' → Step All G F st'.mem w G' F' (runU fr t st').mem w' → (∀ j, ¬ (t.lo ≤ j ∧ j < t.hi) → G j = none → G' j = none) → K a' w') →
   if Region.wanted t.o (yielded ops a.tmps) = true then t.o.wpIn (fc ro) 0 P a w K Q1 else (∀ f, t.o.about P w a.eval = some f → (fc ro).fn f) ∧ K (a.put t.o.dst undef) w
inductive TrU (P : Program) (fr : Fr) (ro : Option Nat) (ds : DS) (ops : Array Oper) : List Oper → St → List Iu → St → Prop
 | nil (st : St) : TrU P fr ro ds ops [] st [] st
 | cons {t : Iu} {rest : List Oper} {st st' : St} {l : List Iu} (h : OpIsU P fr ro ds ops st t) (h1 : t.lo = st.nx) (h2 : t.lo ≤ t.hi) (k : TrU P fr ro ds ops rest (runU fr t st) l st') : TrU P fr ro ds ops (t.o :: rest) st (t :: l) st'
def endU (nx : Nat) : List Iu → Nat
 | [] => nx
 | t :: l => endU t.hi l
structure ChnU (nx : Nat) (l : List Iu) : Prop where
 le : nx ≤ endU nx l
 lo : ∀ (i : Nat) (t : Iu), l[i]? = some t → nx ≤ t.lo ∧ t.lo ≤ t.hi ∧ t.hi ≤ endU nx l
 lt : ∀ (i m : Nat) (t u : Iu), l[i]? = some t → l[m]? = some u → i < m → t.hi ≤ u.lo
theorem runU_nx : (runU fr t st).nx = t.hi := by unfold runU; rw [St.put_nx]
theorem TrU.chn : ∀ {rest : List Oper} {st st' : St} {l : List Iu}, TrU P fr ro ds ops rest st l st' → ChnU st.nx l ∧ st'.nx = endU st.nx l := by
 intro rest st st' l h
 induction h with
 | nil st => exact ⟨⟨Nat.le_refl _, fun i t h => by simp at h, fun i m t u h => by simp at h⟩, rfl⟩
 | cons h h1 h2 k ih =>
   rename_i t rest st st' l
   rw [runU_nx] at ih
   obtain ⟨⟨k1, k2, k3⟩, k4⟩ := ih
   refine ⟨⟨by simp only [endU]; omega, fun i u hu => ?_, fun i m u v hu hv hlt => ?_⟩, k4⟩
   ·cases i with
    | zero =>
      have e : t = u := by simpa using hu
      subst e
      simp only [endU]
      exact ⟨by omega, h2, k1⟩
    | succ i =>
      have := k2 i u (by simpa using hu)
      simp only [endU]
      exact ⟨by omega, this.2⟩
   ·cases m with
    | zero => omega
    | succ m =>
      cases i with
      | zero =>
        have e : t = u := by simpa using hu
        subst e
        exact (k2 m v (by simpa using hv)).1
      | succ i => exact k3 i m u v (by simpa using hu) (by simpa using hv) (by omega)
theorem TrU.spec : ∀ {rest : List Oper} {st st' : St} {l : List Iu}, TrU P fr ro ds ops rest st l st' →
  l.map (·.o) = rest ∧ (∀ i t, l[i]? = some t → OpIsU P fr ro ds ops (foldU fr (fun j => decide (j < i)) 0 l st) t) ∧ st' = foldU fr (fun _ => true) 0 l st := by
 intro rest st st' l h
 have key : ∀ {rest : List Oper} {st st' : St} {l : List Iu}, TrU P fr ro ds ops rest st l st' → ∀ n,
   l.map (·.o) = rest ∧ (∀ i t, l[i]? = some t → OpIsU P fr ro ds ops (foldU fr (fun j => decide (j < n + i)) n l st) t) ∧ st' = foldU fr (fun _ => true) n l st := by
  intro rest st st' l h
  induction h with
  | nil st => intro n; exact ⟨rfl, fun i t h => by simp at h, rfl⟩
  | cons h e1 e2 k ih =>
    rename_i t rest st st' l
    intro n
    obtain ⟨h1, h2, h3⟩ := ih (n + 1)
    refine ⟨by simp [h1], fun i t' ht => ?_, by simp only [foldU, if_true]; exact h3⟩
    cases i with
    | zero =>
      cases ht
      have e : foldU fr (fun j => decide (j < n + 0)) n (t :: l) st = st := by
       have : ∀ (l : List Iu) (m : Nat) (st : St), n ≤ m → foldU fr (fun j => decide (j < n + 0)) m l st = st := by
        intro l
        induction l with
        | nil => intro m st _; rfl
        | cons u l ih => intro m st hm; simp only [foldU]; rw [if_neg (by simp; omega)]; exact ih _ _ (by omega)
       exact this _ _ _ (Nat.le_refl _)
      rw [e]; exact h
    | succ i =>
      have := h2 i t' (by simpa using ht)
      simp only [foldU]
      rw [if_pos (by simp)]
      rw [show n + (i + 1) = n + 1 + i by omega]
      exact this
 have := key h 0
 simpa using this
inductive AncU (l : List Iu) : Nat → Nat → Prop
 | base {i m : Nat} {t : Iu} (h : l[i]? = some t) (hm : m ∈ depsOf t.o) : AncU l i m
 | step {i e m : Nat} {t : Iu} (h : l[i]? = some t) (he : e ∈ depsOf t.o) (h2 : AncU l e m) : AncU l i m
theorem memB_ok {i : Nat} : ∀ {l : List Nat}, memB i l = true ↔ i ∈ l
 | [] => by simp [memB]
 | j :: l => by simp only [memB, Bool.or_eq_true, beq_dec, decide_eq_true_eq, List.mem_cons, memB_ok (l := l)]
theorem ancU_spec {l : List Iu} : ∀ {k i m : Nat}, ancU l k i m = true → AncU l i m
 | 0, _, _, h => by cases h
 | k + 1, i, m, h => by
   simp only [ancU] at h
   split at h
   ·cases h
   ·rename_i t ht
    rw [Bool.or_eq_true] at h
    rcases h with h | h
    ·exact .base ht (memB_ok.1 h)
    ·rw [List.any_eq_true] at h
     obtain ⟨e, he, h⟩ := h
     rw [Bool.and_eq_true] at h
     exact .step ht he (ancU_spec h.2)
structure ConfU (l : List Iu) : Prop where
 back : ∀ i t, l[i]? = some t → ∀ e ∈ depsOf t.o, e < i
 edge : ∀ i m t u, l[i]? = some t → l[m]? = some u → i ≠ m → ∀ x, (x ∈ t.rd ∨ x ∈ wlU t) → x ∈ wlU u → AncU l i m ∨ AncU l m i
theorem ConfU.lt (hc : ConfU l) {i m : Nat} (h : AncU l i m) : m < i := by
 induction h with
 | base h hm => exact hc.back _ _ h _ hm
 | step h he _ ih => have := hc.back _ _ h _ he; omega
theorem AncU.closed {p : Nat → Bool} (hcl : ∀ i t, l[i]? = some t → p i = true → ∀ e ∈ depsOf t.o, p e = true) {i m : Nat} (h : AncU l i m) (hi : p i = true) : p m = true := by
 induction h with
 | base h hm => exact hcl _ _ h hi _ hm
 | step h he _ ih => exact ih (hcl _ _ h hi _ he)
theorem AncU.ready {p : Nat → Bool} (hcl : ∀ i t, l[i]? = some t → p i = true → ∀ e ∈ depsOf t.o, p e = true) {i m : Nat} {t : Iu} (h : AncU l i m) (ht : l[i]? = some t) (hd : ∀ e ∈ depsOf t.o, p e = true) : p m = true := by
 cases h with
 | base h hm => rw [ht] at h; cases h; exact hd _ hm
 | step h he h2 => rw [ht] at h; cases h; exact h2.closed hcl (hd _ he)
theorem confOneU_spec {all : List Iu} {i : Nat} {t : Iu} : ∀ (l : List Iu) (m0 : Nat), confOneU all i t m0 l = true → ∀ m u, l[m]? = some u → i ≠ m0 + m → ∀ x, (x ∈ t.rd ∨ x ∈ wlU t) → x ∈ wlU u → AncU all i (m0 + m) ∨ AncU all (m0 + m) i := by
 intro l
 induction l with
 | nil => intro m0 _ m u hm; simp at hm
 | cons u0 l ih =>
   intro m0 h m u hm hne x hx hu
   simp only [confOneU, Bool.and_eq_true] at h
   cases m with
   | zero =>
     have e : u0 = u := by simpa using hm
     subst e
     have h1 := h.1
     simp only [Bool.or_eq_true, beq_dec, decide_eq_true_eq, Bool.not_eq_true'] at h1
     rcases h1 with (h1 | h1) | h1
     ·exact absurd h1 (by simpa using hne)
     ·rw [List.any_eq_false] at h1
      exact absurd (memB_ok.2 hu) (h1 x (List.mem_append.2 hx))
     ·cases hb : Nat.blt i m0 <;> rw [hb] at h1
      ·exact .inl (ancU_spec h1)
      ·exact .inr (ancU_spec h1)
   | succ m =>
     have := ih (m0 + 1) h.2 m u (by simpa using hm) (by omega) x hx hu
     rwa [show m0 + 1 + m = m0 + (m + 1) by omega] at this
theorem confU_spec {all : List Iu} : ∀ (l : List Iu) (i0 : Nat), confU all i0 l = true → ∀ i t, l[i]? = some t → (∀ e ∈ depsOf t.o, e < i0 + i) ∧ confOneU all (i0 + i) t 0 all = true := by
 intro l
 induction l with
 | nil => intro i0 _ i t ht; simp at ht
 | cons t0 l ih =>
   intro i0 h i t ht
   simp only [confU, Bool.and_eq_true, List.all_eq_true, blt_dec, decide_eq_true_eq] at h
   cases i with
   | zero =>
     have e : t0 = t := by simpa using ht
     subst e
     exact ⟨h.1.1, h.1.2⟩
   | succ i =>
     have := ih (i0 + 1) h.2 i t (by simpa using ht)
     rwa [show i0 + 1 + i = i0 + (i + 1) by omega] at this
theorem ConfU.of (h : confU l 0 l = true) : ConfU l where
 back := fun i t ht => by simpa using (confU_spec l 0 h i t ht).1
 edge := fun i m t u ht hu hne x hx hxu => by
  have := confOneU_spec l 0 (by simpa using (confU_spec l 0 h i t ht).2) m u hu (by simpa using hne) x hx hxu
  simpa using this
theorem foldU_congr : ∀ {l : List Iu} {i : Nat} {st : St}, (∀ m, m < l.length → S (i + m) = S' (i + m)) → foldU fr S i l st = foldU fr S' i l st
 | [], _, _, _ => rfl
 | t :: l, i, st, h => by
   have h0 := h 0 (by simp)
   rw [Nat.add_zero] at h0
   simp only [foldU]
   rw [h0]
   exact foldU_congr fun m hm => by
    have := h (m + 1) (by simp; omega)
    rwa [show i + 1 + m = i + (m + 1) by omega]
theorem drawAnyU {nx : Nat} {l : List Iu} {st : St} {G0 : Nat → Option Value} {F0 : Nat → Nat → Prop} {M0 : Mem} {w0 : World} (hops : ∀ i : Nat, (ops[i]? : Option Oper) = (l[i]?).map fun t => t.o) (hn : ops.size = l.length) (hc : ConfU l) (hch : ChnU nx l)
  (his : ∀ i t, l[i]? = some t → OpIsU P fr ro ds ops (foldU fr (fun j => decide (j < i)) 0 l st) t)
  (hQ : ∀ G F a w, SimD P fr ds G F (foldU fr (fun _ => true) 0 l st) (endU nx l) a w → (∀ j, endU nx l ≤ j → G j = none) → Step (· < fr.base) G0 F0 M0 w0 G F (foldU fr (fun _ => true) 0 l st).mem w → Post P fr ds G0 F0 M0 w0 Q .normal a w) :
  ∀ (fuel : Nat) (listed : Array Bool) (G : Nat → Option Value) (F : Nat → Nat → Prop) (a : Act) (w : World), listed.size = l.length →
    SimD P fr ds G F (foldU fr (inS listed) 0 l st) (endU nx l) a w → Step (· < fr.base) G0 F0 M0 w0 G F (foldU fr (inS listed) 0 l st).mem w →
    (∀ j, nx ≤ j → (∀ i t, l[i]? = some t → inS listed i = true → ¬ (t.lo ≤ j ∧ j < t.hi)) → G j = none) →
    (∀ i t, l[i]? = some t → inS listed i = true → ∀ e ∈ depsOf t.o, inS listed e = true) →
    (List.range l.length).countP (fun i => !inS listed i) ≤ fuel →
    wpAnyIn (fc ro) 0 P .any ops (Post P fr ds G0 F0 M0 w0 Q) fuel listed a w := by
 have allDone : ∀ (listed : Array Bool) (G : Nat → Option Value) (F : Nat → Nat → Prop) (a : Act) (w : World), SimD P fr ds G F (foldU fr (inS listed) 0 l st) (endU nx l) a w → Step (· < fr.base) G0 F0 M0 w0 G F (foldU fr (inS listed) 0 l st).mem w →
   (∀ j, nx ≤ j → (∀ i t, l[i]? = some t → inS listed i = true → ¬ (t.lo ≤ j ∧ j < t.hi)) → G j = none) → (∀ i, i < l.length → inS listed i = true) → Post P fr ds G0 F0 M0 w0 Q .normal a w := by
  intro listed G F a w s S hfr hall
  have e : foldU fr (inS listed) 0 l st = foldU fr (fun _ => true) 0 l st := foldU_congr fun m hm => by rw [Nat.zero_add]; exact hall m hm
  rw [e] at s S
  exact hQ G F a w s (fun j hj => hfr j (Nat.le_trans hch.le hj) fun i t ht _ => by have := (hch.lo i t ht).2.2; omega) S
 have readyOf : ∀ (listed : Array Bool), listed.size = l.length → ∀ i, i ∈ Region.ready .any ops listed ↔ inS listed i = false ∧ ∃ t, l[i]? = some t ∧ ∀ e ∈ depsOf t.o, inS listed e = true := by
  intro listed hsz i
  rw [mem_ready]
  constructor
  ·rintro ⟨h1, o, ho, h2⟩
   rw [hops] at ho
   obtain ⟨t, ht, rfl⟩ := Option.map_eq_some_iff.1 ho
   have hi : i < l.length := (List.getElem?_eq_some_iff.1 ht).1
   refine ⟨?_, t, ht, fun e he => ?_⟩
   ·unfold inS
    rw [Array.getD_eq_getD_getElem?] at h1 ⊢
    rw [Array.getElem?_eq_getElem (by omega)] at h1 ⊢
    exact h1
   ·simp only [depsOf, List.mem_map, List.mem_filter] at he
    obtain ⟨e', ⟨he1, he2⟩, rfl⟩ := he
    exact h2 e' (by simpa using he1) he2
  ·rintro ⟨h1, t, ht, h2⟩
   have hi : i < l.length := (List.getElem?_eq_some_iff.1 ht).1
   refine ⟨?_, t.o, by rw [hops, ht]; rfl, fun e he hb => h2 e.on ?_⟩
   ·unfold inS at h1
    rw [Array.getD_eq_getD_getElem?] at h1 ⊢
    rw [Array.getElem?_eq_getElem (by omega)] at h1 ⊢
    exact h1
   ·simp only [depsOf, List.mem_map, List.mem_filter]
    exact ⟨e, ⟨by simpa using he, hb⟩, rfl⟩
 have noneReady : ∀ (listed : Array Bool), listed.size = l.length → Region.ready .any ops listed = [] → ∀ i, i < l.length → inS listed i = true := by
  intro listed hsz hr i
  induction i using Nat.strongRecOn with
  | _ i ih =>
    intro hi
    cases hs : inS listed i with
    | true => rfl
    | false =>
      have : i ∈ Region.ready .any ops listed := (readyOf listed hsz i).2 ⟨hs, l[i], List.getElem?_eq_getElem hi, fun e he => by
       have := hc.back i l[i] (List.getElem?_eq_getElem hi) e he
       exact ih e this (by omega)⟩
      rw [hr] at this; cases this
 intro fuel
 induction fuel with
 | zero =>
   intro listed G F a w hsz s S hfr hcl hcount
   have hall : ∀ i, i < l.length → inS listed i = true := by
    intro i hi
    have h0 : (List.range l.length).countP (fun i => !inS listed i) = 0 := by omega
    rw [List.countP_eq_zero] at h0
    have := h0 i (by simpa using hi)
    simpa using this
   refine ⟨?_, allDone listed G F a w s S hfr hall⟩
   cases hr : Region.ready .any ops listed with
   | nil => rfl
   | cons i rs =>
     have := (readyOf listed hsz i).1 (by rw [hr]; exact List.mem_cons_self)
     obtain ⟨h1, t, ht, _⟩ := this
     rw [hall i (List.getElem?_eq_some_iff.1 ht).1] at h1; cases h1
 | succ fuel ih =>
   intro listed G F a w hsz s S hfr hcl hcount
   refine ⟨fun hr => allDone listed G F a w s S hfr (noneReady listed hsz hr), fun i hi => ?_⟩
   obtain ⟨hSi, t, ht, hdep⟩ := (readyOf listed hsz i).1 hi
   have hil : i < l.length := (List.getElem?_eq_some_iff.1 ht).1
   unfold wpOpIn
   rw [hops, ht]
   simp only [Option.map_some]
   have hadd : ∀ j, inS (listed.setIfInBounds i true) j = addS (inS listed) i j := by
    intro j
    unfold inS addS
    simp only [Array.getD_eq_getD_getElem?, Array.getElem?_setIfInBounds]
    by_cases h : i = j
    ·subst h
     simp [show i < listed.size by omega]
    ·simp [h, Ne.symm h]
   have hfold : foldU fr (inS (listed.setIfInBounds i true)) 0 l st = foldU fr (addS (inS listed) i) 0 l st := foldU_congr fun m _ => hadd _
   have hlook : ∀ x, look fr (foldU fr (inS (listed.setIfInBounds i true)) 0 l st) x = look fr (runU fr t (foldU fr (inS listed) 0 l st)) x := by
    intro x
    rw [hfold]
    refine foldU_add ht hSi (fun m u hu hlt hSm x hx => ?_) x
    cases hw : wrtU u x with
    | none => rfl
    | some v =>
      exfalso
      rcases hc.edge i m t u ht hu (by omega) x (.inr (wrtU_wl hx)) (wrtU_wl (by rw [hw]; rfl)) with h | h
      ·have := hc.lt h; omega
      ·have := h.closed hcl hSm
       rw [hSi] at this; cases this
   have hchi := hch.lo i t ht
   refine his i t ht _ G F a w (endU nx l) _ _ s hchi.2.2 (fun j hj1 hj2 => hfr j (by omega) fun i' t' ht' hS' he => ?_) (fun x hx => ?_) (fun G' F' a' w' s' S' hfr' => ?_)
   ·rcases Nat.lt_trichotomy i i' with h | h | h
    ·have := hch.lt i i' t t' ht ht' h; omega
    ·subst h; rw [hSi] at hS'; cases hS'
    ·have := hch.lt i' i t' t ht' ht h; omega
   ·rw [look_foldU, look_foldU]
    refine lastU_agree l 0 _ fun m u hu hw => ?_
    rw [Nat.zero_add]
    by_cases hmi : m = i
    ·subst hmi; rw [hSi]; simp
    ·rcases hc.edge i m t u ht hu (fun h => hmi h.symm) x (.inl hx) (wrtU_wl hw) with h | h
     ·have := hc.lt h
      rw [h.ready hcl ht hdep]; simp [this]
     ·have h1 := hc.lt h
      cases hSm : inS listed m with
      | false => simp; omega
      | true =>
        have := h.closed hcl hSm
        rw [hSi] at this; cases this
   ·refine ih _ G' F' a' w' (by simpa using hsz) (s'.ext hlook) ((S.trans (S'.mono fun _ _ => trivial)).ext (look_mem hlook)) (fun j hj hne => ?_) (fun i' t' ht' hS' e he => ?_) ?_
    ·refine hfr' j (hne i t ht (by rw [hadd]; simp [addS])) (hfr j hj fun i' t' ht' hS' => hne i' t' ht' (by rw [hadd]; simp [addS, hS']))
    ·rw [hadd] at hS' ⊢
     simp only [addS, Bool.or_eq_true, decide_eq_true_eq] at hS' ⊢
     rcases hS' with hS' | rfl
     ·exact .inl (hcl i' t' ht' hS' e he)
     ·rw [ht] at ht'; cases ht'
      exact .inl (hdep e he)
    ·have := countP_less (p := fun i => !inS listed i) (q := fun j => !inS (listed.setIfInBounds i true) j) hil (by simp [hSi]) (by simp only [hadd]; simp [addS]) (fun j hj => by
       rw [hadd] at hj
       simp only [addS, Bool.not_or, Bool.and_eq_true] at hj
       exact hj.1)
     omega
theorem EvC.drawU {idr : Nat} {l : List Oper} {its : List Iu} (hm : P.follows .mixedOrders = true) (ht : TrU P fr ro ds l.toArray l st.clr its st') (hc : confU its 0 its = true) (hq : Q .normal st') : EvC P fr ro ds (.region idr l.toArray true) st Q := by
 intro G0 F0 M0 w0 G F a w S s
 obtain ⟨h1, h2, h3⟩ := ht.spec
 obtain ⟨hch, hend⟩ := ht.chn
 have hch : ChnU st.nx its := hch
 have hend : st'.nx = endU st.nx its := hend
 obtain ⟨hm', S'⟩ := simM_drew (w' := { w with drawn := w.drawn + 1 }) (s.clr.sim.mem.more hch.le) rfl ⟨rfl, rfl, rfl, .refl⟩
 have hlen : l.length = its.length := by rw [← h1]; simp
 refine wpIn_region_any hm ?_
 have hnone : ∀ i, inS (Array.replicate l.toArray.size false) i = false := fun i => by
  unfold inS
  simp only [Array.getD_eq_getD_getElem?, Array.getElem?_replicate]
  split <;> rfl
 have e : foldU fr (inS (Array.replicate l.toArray.size false)) 0 its st.clr = st.clr := by
  have : ∀ (l' : List Iu) (m : Nat) (st : St), foldU fr (inS (Array.replicate l.toArray.size false)) m l' st = st := by
   intro l'
   induction l' with
   | nil => intro m st; rfl
   | cons u l' ih => intro m st; simp only [foldU]; rw [hnone]; exact ih _ _
  exact this _ _ _
 refine drawAnyU (l := its) (nx := st.nx) (st := st.clr) (fun i => by rw [← h1]; simp) (by simp [hlen]) (ConfU.of hc) hch h2 (fun G F a w s hfr S => ?_) _ _ G F a _ (by simp [hlen]) ?_ ?_ (fun j hj _ => s.fresh j hj) (fun i t _ h => by rw [hnone] at h; cases h) ?_
 ·refine ⟨G, F, st', ⟨⟨?_, fun k => ?_, s.size⟩, by rw [hend]; exact hfr, s.defers⟩, ?_, hq⟩
  ·rw [hend, h3]; exact s.mem
  ·rw [h3]; exact s.slots k
  ·rw [← h3] at S; exact S
 ·rw [e]
  exact ⟨hm', fun k => (s.clr.sim.slots k).step S' (fun _ _ => trivial), s.clr.sim.size, s.clr.defers⟩
 ·rw [e]; exact S.trans (S'.mono fun _ _ => trivial)
 ·refine Nat.le_trans List.countP_le_length (by simp [hlen])
end
abbrev LRow := Bool × List Int
def listC (r : LRow) : List AV := [.sl r.1 (r.2.map intC) .unk]
@[go_sem] theorem norefs_lists (l : List LRow) : (l.map listC).all AV.norefs = true := by simp [List.all_eq_true, listC, AV.norefs, AV.noref]
section
variable {P : Program} {G G' G1 : Nat → Option Value} {F F' F1 : Nat → Nat → Prop} {M M' M0 M1 : Mem} {w w' w2 : World} {nx N lo hi : Nat} {v u : Value} {y r : AV}
theorem RV.swap (h : RV G F M w v y) : (∀ i ∈ y.ids, G' i = G i ∧ ∀ o, mlook M' i = some o → mlook M i = some o) → RV G' F M' w v y := by
 induction h with
 | imm h => exact fun _ => .imm h
 | ag vs cs hl _ ih => exact fun hs => .ag vs cs hl fun i h1 h2 => ih i h1 h2 fun j hj => hs j (by simp only [AV.ids]; exact idss_mem (List.getElem_mem h2) hj)
 | tu vs cs hl _ ih => exact fun hs => .tu vs cs hl fun i h1 h2 => ih i h1 h2 fun j hj => hs j (by simp only [AV.ids]; exact idss_mem (List.getElem_mem h2) hj)
 | ifc t v x _ ih => exact fun hs => .ifc t v x (ih fun j hj => hs j (by simp only [AV.ids]; exact hj))
 | fn f vs cs hl _ ih => exact fun hs => .fn f vs cs hl fun i h1 h2 => ih i h1 h2 fun j hj => hs j (by simp only [AV.ids]; exact idss_mem (List.getElem_mem h2) hj)
 | opt b v x _ h' ih => exact fun hs => .opt b v x (fun hb => ih hb fun j hj => hs j (by simp only [AV.ids]; exact hj)) h'
 | rf id off b h => exact fun hs => .rf id off b (by rw [(hs id (by simp [AV.ids])).1]; exact h)
 | mp id b h => exact fun hs => .mp id b (by rw [(hs id (by simp [AV.ids])).1]; exact h)
 | tl id len nl v hG h =>
   exact fun hs => .tl id len nl v (by rw [(hs id (by simp [AV.ids])).1]; exact hG) fun esz es fz ho => by
    obtain ⟨h1, h2⟩ := hs id (by simp [AV.ids])
    rw [h1]; exact h esz es fz (h2 _ ho)
 | tv id n off len cap v hG h =>
   exact fun hs => .tv id n off len cap v (by rw [(hs id (by simp [AV.ids])).1]; exact hG) fun esz es fz ho => by
    obtain ⟨h1, h2⟩ := hs id (by simp [AV.ids])
    rw [h1]; exact h esz es fz (h2 _ ho)
 | ea id n i off v hG h =>
   exact fun hs => .ea id n i off v (by rw [(hs id (by simp [AV.ids])).1]; exact hG) fun esz es fz ho => by
    obtain ⟨h1, h2⟩ := hs id (by simp [AV.ids])
    rw [h1]; exact h esz es fz (h2 _ ho)
theorem ObjOk.swap {id : Nat} {o : RObj} (h : ObjOk P G F M w id o) (hG : G' id = G id) (hs : ∀ i ∈ objIds o, G' i = G i ∧ ∀ o, mlook M' i = some o → mlook M i = some o) : ObjOk P G' F M' w id o := by
 cases o with
 | cells cs =>
   obtain ⟨b, c, e, h1, h2, h3, h4, h5⟩ := h
   exact ⟨b, c, e, hG.trans h1, h2, h3, fun i a b => (h4 i a b).swap fun j hj => hs j (by simp only [objIds]; exact idss_mem (List.getElem_mem b) hj), h5⟩
 | arr esz es fz =>
   rcases h with ⟨h0, base, h1, hsp⟩ | ⟨b, ko, c, cc, e, h1, h2, h3, h4, h5, h6, h7, h8, h9⟩
   ·exact .inl ⟨h0, base, hG.trans h1, hsp⟩
   ·refine .inr ⟨b, ko, c, cc, e, hG.trans h1, h2, h3, h4, h5, h6, fun i j a b => ?_, h8, h9⟩
    obtain ⟨v, hv, h1c, hr⟩ := h7 i j a b
    refine ⟨v, hv, h1c, ?_⟩
    cases fz with
    | true => exact .imm (hr.imm_of ((h9 rfl).1 i j a b))
    | false =>
      refine hr.swap fun k hk => hs k ?_
      simp only [objIds, cond_false]
      exact List.mem_flatMap.2 ⟨_, List.getElem_mem a, idss_mem (List.getElem_mem b) hk⟩
 | map kt es =>
   obtain ⟨b, ents, clock, h1, h2, h3, h4, h5⟩ := h
   exact ⟨b, ents, clock, hG.trans h1, h2, h3, fun i a b => ⟨(h4 i a b).1, (h4 i a b).2.1.swap fun k hk => hs k (by simp only [objIds]; exact List.mem_flatMap.2 ⟨_, List.getElem_mem b, hk⟩), (h4 i a b).2.2⟩, h5⟩
def cutG (lo : Nat) (G : Nat → Option Value) (j : Nat) : Option Value := if j < lo then G j else none
theorem simM_low {ids : List Nat} (hm : SimM P G F M N w) (hsub : ∀ i o, mlook M0 i = some o → mlook M i = some o) (hlt : ∀ i o, mlook M0 i = some o → i < lo ∧ ∀ j ∈ objIds o, j < lo) : SimM P (cutG lo G) F M0 lo w where
 obj := fun id o ho => by
  obtain ⟨h1, h2⟩ := hlt id o ho
  refine ⟨h1, (hm.obj id o (hsub _ _ ho)).2.swap (if_pos h1) fun i hi => ⟨if_pos (h2 i hi), fun o h => hsub _ _ h⟩⟩
 inj := fun id id' v v' b h1 h2 h3 h4 h5 h6 => by
  obtain ⟨o, h1⟩ := Option.ne_none_iff_exists'.1 h1
  obtain ⟨o', h2⟩ := Option.ne_none_iff_exists'.1 h2
  rw [cutG, if_pos (hlt _ _ h1).1] at h3
  rw [cutG, if_pos (hlt _ _ h2).1] at h4
  exact hm.inj id id' v v' b (by rw [hsub _ _ h1]; simp) (by rw [hsub _ _ h2]; simp) h3 h4 h5 h6
 inF := hm.inF
 gl := hm.gl
theorem simM_part {ids ids1 : List Nat} {M2 : Mem} (hm : SimM P G F M N w) (hsub : ∀ i o, mlook M0 i = some o → mlook M i = some o) (hids : ∀ i, i ∈ ids ↔ mlook M0 i ≠ none) (hlt : ∀ i o, mlook M0 i = some o → i < lo ∧ ∀ j ∈ objIds o, j < lo)
  (hnone : ∀ j, lo ≤ j → j < hi → G j = none) (hlh : lo ≤ hi) (hN : hi ≤ N)
  (S1 : Step All (cutG lo G) F M0 w G1 F1 M1 w2) (hm1 : SimM P G1 F1 M1 hi w2) (hr : RV G1 F1 M1 w2 u r)
  (h1 : ∀ i ∈ ids1, ∃ o, mlook M1 i = some o ∧ ∀ j ∈ objIds o, j ∈ ids1) (h2 : ∀ i ∈ ids, i ∈ ids1) (h3 : ∀ i ∈ ids1, i ∈ ids ∨ (lo ≤ i ∧ i < hi)) (h4 : ∀ j ∈ r.ids, j ∈ ids1)
  (hM2 : ∀ i, mlook M2 i = if i ∈ ids1 then mlook M1 i else mlook M i) :
  ∃ G2, SimM P G2 F1 M2 N w2 ∧ Step All G F M w G2 F1 M2 w2 ∧ RV G2 F1 M2 w2 u r ∧ ∀ j, ¬ (lo ≤ j ∧ j < hi) → G j = none → G2 j = none := by
 obtain ⟨G2, hG2⟩ : ∃ G2 : Nat → Option Value, G2 = fun j => if j ∈ ids1 then G1 j else G j := ⟨_, rfl⟩
 have gin : ∀ j, j ∈ ids1 → G2 j = G1 j := fun j h => by rw [hG2]; simp only [if_pos h]
 have gout : ∀ j, j ∉ ids1 → G2 j = G j := fun j h => by rw [hG2]; simp only [if_neg h]
 have idlt : ∀ i ∈ ids, i < lo := fun i h => by
  obtain ⟨o, ho⟩ := Option.ne_none_iff_exists'.1 ((hids i).1 h)
  exact (hlt i o ho).1
 have idG : ∀ i ∈ ids, G i ≠ none := fun i h => by
  obtain ⟨o, ho⟩ := Option.ne_none_iff_exists'.1 ((hids i).1 h)
  have := (hm.obj i o (hsub _ _ ho)).2
  cases o with
  | cells cs => obtain ⟨b, c, e, k1, _⟩ := this; rw [k1]; simp
  | arr esz es fz =>
    rcases this with ⟨_, base, k1, _⟩ | ⟨b, ko, c, cc, e, k1, _⟩ <;> (rw [k1]; simp)
  | map kt es => obtain ⟨b, ents, clock, k1, _⟩ := this; rw [k1]; simp
 have idin : ∀ j, j ∈ ids1 → G j ≠ none → j ∈ ids := fun j hj hG => by
  rcases h3 j hj with h | ⟨ha, hb⟩
  ·exact h
  ·exact absurd (hnone j ha hb) hG
 have cutIn : ∀ i ∈ ids, cutG lo G i = G i := fun i h => if_pos (idlt i h)
 have own0 : ∀ b, Owned (cutG lo G) M0 b → ∃ i ∈ ids, ∃ o v, mlook M i = some o ∧ G i = some v ∧ blkOf v = some b := fun b ⟨i, o, v, k1, k2, k3⟩ => by
  have hi : i ∈ ids := (hids i).2 (by rw [k1]; simp)
  rw [cutIn i hi] at k2
  exact ⟨i, hi, o, v, hsub _ _ k1, k2, k3⟩
 have ownM : ∀ b, Owned (cutG lo G) M0 b → Owned G M b := fun b h => let ⟨i, _, o, v, k1, k2, k3⟩ := own0 b h; ⟨i, o, v, k1, k2, k3⟩
 have S : Step All G F M w G2 F1 M2 w2 :=
  { kept := S1.kept
    size := S1.size
    out := fun b hb ho => S1.out b hb fun h => ho (ownM b h)
    F1 := S1.F1
    F2 := S1.F2
    F3 := fun b o h => by
     rcases S1.F3 b o h with h | h | h
     ·exact .inl h
     ·exact .inr (.inl h)
     ·exact .inr (.inr (ownM b h))
    own := fun b ⟨j, o, v, k1, k2, k3⟩ => by
     rw [hM2] at k1
     by_cases hj : j ∈ ids1
     ·rw [if_pos hj] at k1
      rw [gin j hj] at k2
      rcases S1.own b ⟨j, o, v, k1, k2, k3⟩ with h | h
      ·exact .inl h
      ·exact .inr (ownM b h)
     ·rw [if_neg hj] at k1
      rw [gout j hj] at k2
      exact .inr ⟨j, o, v, k1, k2, k3⟩
    some' := fun j _ h => by
     by_cases hj : j ∈ ids1
     ·rw [gin j hj]
      refine S1.some' j trivial ?_
      rw [cutIn j (idin j hj h)]; exact h
     ·rw [gout j hj]; exact h
    same := fun j v _ h hns => by
     by_cases hj : j ∈ ids1
     ·rw [gin j hj]
      refine S1.same j v trivial ?_ hns
      rw [cutIn j (idin j hj (by rw [h]; simp))]; exact h
     ·rw [gout j hj]; exact h
    keep := fun j o' _ hg ho => by
     rw [hM2] at ho
     by_cases hj : j ∈ ids1
     ·rw [if_pos hj] at ho
      have hji := idin j hj hg
      obtain ⟨o, v, v', k1, k2, k3, k4⟩ := S1.keep j o' trivial (by rw [cutIn j hji]; exact hg) ho
      rw [cutIn j hji] at k2
      exact ⟨o, v, v', hsub _ _ k1, k2, by rw [gin j hj]; exact k3, k4⟩
     ·rw [if_neg hj] at ho
      obtain ⟨v, hv⟩ := Option.ne_none_iff_exists'.1 hg
      exact ⟨o', v, v, ho, hv, by rw [gout j hj]; exact hv, objKeep.refl v o'⟩ }
 have swp : ∀ j ∈ ids1, G2 j = G1 j ∧ ∀ o, mlook M2 j = some o → mlook M1 j = some o := fun j hj => ⟨gin j hj, fun o h => by rw [hM2, if_pos hj] at h; exact h⟩
 have look : ∀ j, mlook M2 j ≠ none → (j ∈ ids1 ∧ mlook M1 j ≠ none) ∨ (j ∉ ids1 ∧ mlook M j ≠ none) := fun j h => by
  rw [hM2] at h
  by_cases hj : j ∈ ids1
  ·rw [if_pos hj] at h; exact .inl ⟨hj, h⟩
  ·rw [if_neg hj] at h; exact .inr ⟨hj, h⟩
 have mix : ∀ {j j' : Nat} {z z' : Value} {b : Nat}, j ∈ ids1 → mlook M1 j ≠ none → j' ∉ ids1 → mlook M j' ≠ none → G1 j = some z → G j' = some z' → blkOf z = some b → blkOf z' = some b → False := fun {j j' z z' b} a1 a2 a3 a4 a5 a6 a7 a8 => by
  obtain ⟨o, a2⟩ := Option.ne_none_iff_exists'.1 a2
  obtain ⟨o', a4'⟩ := Option.ne_none_iff_exists'.1 a4
  rcases S1.own b ⟨j, o, z, a2, a5, a7⟩ with h | h
  ·have := hm.lt ⟨j', o', z', a4', a6, a8⟩; omega
  ·obtain ⟨i, hi, o2, v2, k1, k2, k3⟩ := own0 b h
   have := hm.inj i j' v2 z' b (by rw [k1]; simp) a4 k2 a6 k3 a8
   subst this
   exact a3 (h2 _ hi)
 refine ⟨G2, simM_gen hm S (fun j o' ho => ?_) (fun j j' z z' b k1 k2 k3 k4 k5 k6 => ?_) hm1.inF, S, hr.swap fun j hj => swp j (h4 j hj), fun j hj hG => ?_⟩
 ·rw [hM2] at ho
  by_cases hj : j ∈ ids1
  ·rw [if_pos hj] at ho
   obtain ⟨o, k1, k2⟩ := h1 j hj
   rw [ho] at k1; cases k1
   refine ⟨Nat.lt_of_lt_of_le (hm1.obj j o' ho).1 hN, .inl ((hm1.obj j o' ho).2.swap (gin j hj) fun i hi => swp i (k2 i hi))⟩
  ·rw [if_neg hj] at ho
   refine ⟨(hm.obj j o' ho).1, .inr ⟨ho, gout j hj, fun b v hv hb => ?_⟩⟩
   have hno : ¬ Owned (cutG lo G) M0 b := fun h => by
    obtain ⟨i, hi, o2, v2, k1, k2, k3⟩ := own0 b h
    have := hm.inj i j v2 v b (by rw [k1]; simp) (by rw [ho]; simp) k2 hv k3 hb
    subst this
    exact hj (h2 _ hi)
   have hlt' := hm.lt ⟨j, o', v, ho, hv, hb⟩
   refine ⟨S1.out b hlt' hno, fun o hF => ?_⟩
   rcases S1.F3 b o hF with h | h | h
   ·exact h
   ·omega
   ·exact absurd h hno
 ·rcases look j k1 with ⟨a1, a2⟩ | ⟨a1, a2⟩ <;> rcases look j' k2 with ⟨b1, b2⟩ | ⟨b1, b2⟩
  ·rw [gin j a1] at k3; rw [gin j' b1] at k4; exact hm1.inj j j' z z' b a2 b2 k3 k4 k5 k6
  ·rw [gin j a1] at k3; rw [gout j' b1] at k4; exact (mix a1 a2 b1 b2 k3 k4 k5 k6).elim
  ·rw [gout j a1] at k3; rw [gin j' b1] at k4; exact (mix b1 b2 a1 a2 k4 k3 k6 k5).elim
  ·rw [gout j a1] at k3; rw [gout j' b1] at k4; exact hm.inj j j' z z' b a2 b2 k3 k4 k5 k6
 ·by_cases hj1 : j ∈ ids1
  ·rcases h3 j hj1 with h | h
   ·exact absurd hG (idG j h)
   ·exact absurd h hj
  ·rw [gout j hj1]; exact hG
end
section
variable {P : Program} {fr : Fr} {ro : Option Nat} {ds : DS} {st st' : St} {Q : Exit → St → Prop} {G G' : Nat → Option Value} {F F' : Nat → Nat → Prop} {a : Act} {w w' : World}
 {M M' : Mem} {ops : Array Oper} {o : Oper} {id N : Nat} {d : Option Nat} {t : Iu}
theorem SimD.putU {u : Value} (s : SimD P fr ds G F st N a w) (hm : SimM P G' F' M' N w') (e : ∀ i, mlook (fxMem t.fx st.mem) i = mlook M' i) (S : Step All G F st.mem w G' F' M' w') (hd : dok fr t.o.dst = true) (hr : RV G' F' M' w' u t.val) :
  SimD P fr ds G' F' (runU fr t st) N (a.put t.o.dst u) w' ∧ Step All G F st.mem w G' F' (runU fr t st).mem w' := by
 have hm' : SimM P G' F' (fxMem t.fx st.mem) N w' := hm.ext e
 have S' : Step All G F st.mem w G' F' (fxMem t.fx st.mem) w' := S.ext e
 refine ⟨⟨by unfold runU; rw [St.put_mem]; exact hm', fun k => ?_, ?_, ?_⟩, by unfold runU; rw [St.put_mem]; exact S'⟩
 ·have hold : ∀ k, RV G' F' (fxMem t.fx st.mem) w' (a.tmps.getD k undef) (st.get fr k) := fun k => (s.slots k).step S' (fun _ _ => trivial)
  unfold runU
  rw [St.put_mem]
  cases hd' : t.o.dst with
  | none => exact hold k
  | some d =>
    rw [hd'] at hd
    rw [St.get_put, getD_put]
    by_cases hk : k = d
    ·subst hk
     rw [if_pos rfl, if_pos ⟨rfl, by rw [s.size]; exact dok_spec hd k rfl⟩]; exact hr.ext e
    ·rw [if_neg hk, if_neg (fun h => hk h.1)]; exact hold k
 ·cases t.o.dst with
  | none => exact s.size
  | some d => simp only [Act.put, Array.size_setIfInBounds]; exact s.size
 ·cases t.o.dst with
  | none => exact s.defers.step s.mem S'
  | some d => exact s.defers.step s.mem S'
def GoD (fr : Fr) (st : St) (ops : Array Oper) (o : Oper) (gs : List Nat) : Prop := o.guard = none ∨ ∃ j want k, o.guard = some (j, want) ∧ gslot ops j = some k ∧ gvalT want (st.get fr k) = some true ∧ 2 * k ∈ gs
theorem GoD.wanted {gs : List Nat} (h : GoD fr st ops o gs) (s : SimD P fr ds G F st' N a w) (hl : ∀ x ∈ gs, look fr st' x = look fr st x) : Region.wanted o (yielded ops a.tmps) = true := by
 rcases h with h | ⟨j, want, k, h1, h2, h3, h4⟩
 ·simp only [Region.wanted, h]
 ·exact wanted_rv (s.slots k) h1 h2 (by rw [look_slot (hl _ h4)]; exact h3)
theorem OpIsU.skip {j k lo : Nat} {want : Bool} (hg : o.guard = some (j, want)) (hj : gslot ops j = some k) (hk : gvalT want (st.get fr k) = some false) (hd : dok fr o.dst = true) : OpIsU P fr ro ds ops st ⟨o, .sc undef, [], [2 * k], lo, lo⟩ := by
 intro st' G F a w N K Q1 s hN hG hl h
 have hw : Region.wanted o (yielded ops a.tmps) = false := wanted_rv (s.slots k) hg hj (by rw [look_slot (hl _ List.mem_cons_self)]; exact hk)
 simp only [hw, Bool.false_eq_true, if_false]
 refine ⟨fun _ _ => trivial, ?_⟩
 obtain ⟨s1, S1⟩ := s.putU (t := ⟨o, .sc undef, [], [2 * k], lo, lo⟩) (u := undef) s.mem (fun _ => rfl) .refl hd (.imm (.sc _))
 exact h _ _ _ _ s1 S1 (fun _ _ h => h)
end
section
variable {P : Program} {base sz : Nat} {ro : Option Nat} {ds : DS} {s : ES} {st st' : St} {ops : Array Oper} {o : Oper} {gs : List Nat} {call : CallF} {all : List Oper}
theorem od_look {x : Operand} {sl : List Nat} (h : ∀ y ∈ sl, look (allF base sz) st' y = look (allF base sz) st y) (hx : ∀ k, x = .tmp k → 2 * k ∈ sl) : od (allF base sz) st' true x = od (allF base sz) st true x := by
 cases x with
 | tmp k =>
   have := look_slot (h _ (hx k rfl))
   simp only [od, opnd, this]
 | _ => rfl
theorem evR_ok (A : Abs (allF base sz) s st) {sl : List Nat} (h : ∀ y ∈ sl, look (allF base sz) st' y = look (allF base sz) st y) : EvOk (allF base sz) st' (opR s.tm sl) := by
 intro x
 cases x with
 | tmp k =>
   simp only [opR]
   cases hb : memB (2 * k) sl with
   | false => exact .inl rfl
   | true =>
     simp only [cond_true]
     rcases A.ev (.tmp k) with h1 | h1
     ·exact .inl h1
     ·right; rw [h1, od_look h fun k' hk' => by cases hk'; exact memB_ok.1 hb]
 | const v => exact A.ev (.const v)
 | global g => exact A.ev (.global g)
 | func f => exact A.ev (.func f)
theorem LR_ok (A : Abs (allF base sz) s st) {ids : List Nat} (h : ∀ i ∈ ids, mlook st'.mem i = mlook st.mem i) : LOk st' (LR s.mem ids) := by
 intro i
 simp only [LR]
 cases hb : memB i ids with
 | false => exact .inl rfl
 | true =>
   simp only [cond_true]
   rcases A.mem i with h1 | h1
   ·exact .inl h1
   ·right; rw [← h1, h i (memB_ok.1 hb)]
theorem OpIsU.opr {r : R} {v : AV} {fx : List (Nat × RObj)} {sl ids : List Nat} (A : Abs (allF base sz) s st) (hg : GoD (allF base sz) st ops o gs) (hd : dok (allF base sz) o.dst = true) (h : xopT P (opR s.tm sl) (LR s.mem ids) s.nx o = some r) (hr : ruOf s.nx r = some (v, fx)) :
  OpIsU P (allF base sz) ro ds ops st ⟨o, v, fx, gs ++ (sl ++ odds ids), s.nx, Nat.add s.nx 1⟩ := by
 intro st' G F a w N K Q1 sd hN hG hl hk
 simp only at hN hG hl
 have hN : s.nx + 1 ≤ N := hN
 have hG0 : G s.nx = none := hG s.nx (Nat.le_refl _) (Nat.lt_succ_self _)
 rw [if_pos (hg.wanted sd fun x hx => hl x (List.mem_append_left _ hx))]
 have hsl : ∀ y ∈ sl, look (allF base sz) st' y = look (allF base sz) st y := fun y hy => hl y (List.mem_append_right _ (List.mem_append_left _ hy))
 have hid : ∀ i ∈ ids, mlook st'.mem i = mlook st.mem i := fun i hi => look_obj (hl _ (List.mem_append_right _ (List.mem_append_right _ (odds_mem hi))))
 obtain ⟨u, w', G', F', hrun, hm', S', hru, hfr⟩ := xopT_ok (ρ := a.eval) sd.mem sd.eval (fun _ => rfl) hG0 (by omega) (evR_ok A hsl) (LR_ok A hid) (fun h => allF_own hd h) h
 obtain ⟨t, ht⟩ : ∃ t : Iu, t = ⟨o, v, fx, gs ++ (sl ++ odds ids), s.nx, Nat.add s.nx 1⟩ := ⟨_, rfl⟩
 have e : ∀ i, mlook (fxMem fx st'.mem) i = mlook (r.memL s.nx st'.mem) i := fun i => by
  cases r with
  | val x => cases hr; rfl
  | new x ob => cases hr; simp only [fxMem, R.memL, mlook_mset, mlook_cons]
  | upd x j ob => cases hr; rfl
  | key x j ob => cases hr
 have hv : r.val1 = v := by
  cases r with
  | val x => cases hr; rfl
  | new x ob => cases hr; rfl
  | upd x j ob => cases hr; rfl
  | key x j ob => cases hr
 rw [hv] at hru
 obtain ⟨s1, S1⟩ := sd.putU (t := ⟨o, v, fx, gs ++ (sl ++ odds ids), s.nx, Nat.add s.nx 1⟩) (u := u) hm' e S' hd hru
 refine ⟨fun _ _ => trivial, ?_⟩
 rw [Oper.semAt_eq _ _ _ (xopT_defer h)]
 have fin := hk _ _ _ _ s1 S1 fun j hj hGj => hfr j (fun e => hj ⟨by rw [e]; exact Nat.le_refl _, by rw [e]; exact Nat.lt_succ_self _⟩) hGj
 rcases hrun with hrun | ⟨hrun, rfl⟩ <;> rw [hrun]
 ·exact fin
 ·exact fin
theorem fxOf_look (m : ML) (i : Nat) : ∀ ids : List Nat, mlook (fxOf m ids) i = if i ∈ ids then T.get none m i else none
 | [] => by simp [fxOf, mlook]
 | j :: ids => by
   have ih := fxOf_look m i ids
   simp only [fxOf]
   split
   ·rename_i ob hob
    rw [mlook_cons]
    by_cases h : i = j
    ·subst h; rw [if_pos rfl, if_pos List.mem_cons_self, hob]
    ·rw [if_neg h, ih]; simp [h]
   ·rename_i hob
    rw [ih]
    by_cases h : i = j
    ·subst h; rw [hob]; simp
    ·simp [h]
theorem fxOf_fx (m : ML) (i : Nat) : ∀ ids : List Nat, fxLook (fxOf m ids) i = if i ∈ ids then T.get none m i else none
 | [] => by simp [fxOf, fxLook]
 | j :: ids => by
   have ih := fxOf_fx m i ids
   simp only [fxOf]
   split
   ·rename_i ob hob
    simp only [fxLook]
    rw [ih]
    by_cases h : i ∈ ids
    ·rw [if_pos h, if_pos (List.mem_cons_of_mem _ h)]
     cases hi : T.get none m i with
     | some o => rfl
     | none =>
       simp only
       by_cases e : i = j
       ·subst e; rw [hob] at hi; cases hi
       ·rw [if_neg e]
    ·rw [if_neg h]
     simp only
     by_cases e : i = j
     ·subst e; rw [if_pos rfl, if_pos List.mem_cons_self, hob]
     ·rw [if_neg e, if_neg (by simp [e, h])]
   ·rename_i hob
    rw [ih]
    by_cases h : i = j
    ·subst h; rw [hob]; simp
    ·simp [h]
theorem restr_get (m : ML) (i : Nat) : ∀ (ids : List Nat) (t : ML), T.get none (restr m ids t) i = none ∨ (i ∈ ids ∧ T.get none (restr m ids t) i = T.get none m i) ∨ T.get none (restr m ids t) i = T.get none t i
 | [], t => .inr (.inr rfl)
 | j :: ids, t => by
   simp only [restr]
   rcases restr_get m i ids (T.put t (T.get none m j) j) with h | ⟨h1, h2⟩ | h
   ·exact .inl h
   ·exact .inr (.inl ⟨List.mem_cons_of_mem _ h1, h2⟩)
   ·rw [h]
    rcases T.get_put none (T.get none m j) t j i with k | k
    ·exact .inl k
    ·rw [k]
     by_cases e : i = j
     ·subst e; rw [if_pos rfl]; exact .inr (.inl ⟨List.mem_cons_self, rfl⟩)
     ·rw [if_neg e]; exact .inr (.inr rfl)
theorem T.get_mk {α : Type} (d : α) : ∀ (n i : Nat), T.get d (T.mk d n) i = d
 | 0, _ => rfl
 | n + 1, i => by
   have e : T.mk d (n + 1) = .nd (T.mk d n) d (T.mk d n) := rfl
   rw [e, T.get_nd]
   split
   ·rfl
   ·split <;> exact T.get_mk d n _
theorem restr_ok (m : ML) (ids : List Nat) : MOk (restr m ids (T.mk none 16)) (fxOf m ids) := fun i => by
 rcases restr_get m i ids (T.mk none 16) with h | ⟨h1, h2⟩ | h
 ·exact .inl h
 ·right; rw [h2, fxOf_look, if_pos h1]
 ·rw [T.get_mk] at h; exact .inl h
theorem closedB_ok {m : ML} {all : List Nat} : ∀ {l : List Nat}, closedB m all l = true → ∀ i ∈ l, ∃ o, T.get none m i = some o ∧ ∀ j ∈ objIds o, j ∈ all
 | j :: l, h, i, hi => by
   simp only [closedB, Bool.and_eq_true] at h
   rcases List.mem_cons.1 hi with rfl | hi
   ·have h1 := h.1
    split at h1
    ·rename_i o ho
     refine ⟨o, ho, fun j hj => ?_⟩
     rw [List.all_eq_true] at h1
     exact memB_ok.1 (h1 j hj)
    ·cases h1
   ·exact closedB_ok h.2 i hi
theorem ltB_ok {m : ML} {n : Nat} : ∀ {l : List Nat}, ltB m n l = true → ∀ i ∈ l, i < n ∧ ∃ o, T.get none m i = some o ∧ ∀ j ∈ objIds o, j < n
 | j :: l, h, i, hi => by
   simp only [ltB, Bool.and_eq_true] at h
   rcases List.mem_cons.1 hi with rfl | hi
   ·have h1 := h.1
    rw [blt_dec, decide_eq_true_eq] at h1
    refine ⟨h1.1, ?_⟩
    have h1 := h1.2
    split at h1
    ·rename_i o ho
     refine ⟨o, ho, fun j hj => ?_⟩
     rw [List.all_eq_true] at h1
     have := h1 j hj
     rw [blt_dec, decide_eq_true_eq] at this
     exact this
    ·cases h1
   ·exact ltB_ok h.2 i hi
theorem putFx_ok : ∀ {l : List (Nat × RObj)} {m : ML} {M : Mem}, MOk m M → MOk (putFx l m) (fxMem l M)
 | [], _, _, h => h
 | (i, o) :: l, _, _, h => putFx_ok (l := l) (h.put i o)
theorem OpIsU.callT {f nx1 : Nat} {cs vs : List AV} {callee : Operand} {args : Array Operand} {tys : Array TypeId} {r : AV} {m1 : ML} {ids ids1 : List Nat} (hc : CallOk P call) (A : Abs (allF base sz) s st) (hg : GoD (allF base sz) st ops o gs) (hd : dok (allF base sz) o.dst = true)
  (hop : o.op = .call ⟨.value callee, args, tys⟩) (hcal : opT s.tm callee = some (.fn f cs)) (hvs : evs (opT s.tm) args.toList = some vs) (hcall : call f (vs ++ cs) (restr s.mem ids (T.mk none 16)) s.nx = .ok (r, m1, nx1))
  (c1 : r.ids.all (fun j => memB j ids1) = true) (c2 : closedB m1 ids1 ids1 = true) (c3 : ids1.all (fun j => memB j ids || (Nat.ble s.nx j && Nat.blt j nx1)) = true) (c4 : ids.all (fun j => memB j ids1) = true) (c5 : Nat.ble s.nx nx1 = true) (c6 : (AV.idss (vs ++ cs)).all (fun j => Nat.blt j s.nx) = true) (c7 : ltB s.mem s.nx ids = true) :
  OpIsU P (allF base sz) ro ds ops st ⟨o, r, fxOf m1 ids1, gs ++ (opSlots o.op.operands.toList ++ odds ids), s.nx, nx1⟩ := by
 obtain ⟨M1, hM1, hto⟩ := hc _ _ _ _ _ _ _ _ (restr_ok s.mem ids) hcall
 rw [ble_dec, decide_eq_true_eq] at c5
 intro st' G F a w N K Q1 sd hN hG hl hk
 simp only at hN hG hl
 rw [if_pos (hg.wanted sd fun x hx => hl x (List.mem_append_left _ hx))]
 have hsl : ∀ y ∈ opSlots o.op.operands.toList, look (allF base sz) st' y = look (allF base sz) st y := fun y hy => hl y (List.mem_append_right _ (List.mem_append_left _ hy))
 have hid : ∀ i ∈ ids, mlook st'.mem i = mlook st.mem i := fun i hi => look_obj (hl _ (List.mem_append_right _ (List.mem_append_right _ (odds_mem hi))))
 have hin : ∀ x, x ∈ o.op.operands.toList → od (allF base sz) st' true x = od (allF base sz) st true x := fun x hx => od_look hsl fun k hk => by subst hk; exact opSlots_mem hx
 have hcal' : od (allF base sz) st' true callee = .fn f cs := by rw [hin callee (by rw [hop]; simp [Op.operands, Call.operands])]; exact A.ev.some hcal
 have hargs : bodyArgs (allF base sz) st' args = vs := by
  rw [← evs_ok A.ev hvs]
  exact List.map_congr_left fun x hx => hin x (by rw [hop]; simp only [Op.operands, Call.operands]; simp; exact .inr (by simpa using hx))
 have hlt := ltB_ok c7
 have hM0 : ∀ i o, mlook (fxOf s.mem ids) i = some o → i ∈ ids ∧ T.get none s.mem i = some o := fun i o h => by
  rw [fxOf_look] at h
  by_cases hi : i ∈ ids
  ·rw [if_pos hi] at h; exact ⟨hi, h⟩
  ·rw [if_neg hi] at h; cases h
 have hsub : ∀ i o, mlook (fxOf s.mem ids) i = some o → mlook st'.mem i = some o := fun i o h => by
  obtain ⟨h1, h2⟩ := hM0 i o h
  rw [hid i h1]; exact A.look h2
 have hlt0 : ∀ i o, mlook (fxOf s.mem ids) i = some o → i < s.nx ∧ ∀ j ∈ objIds o, j < s.nx := fun i o h => by
  obtain ⟨h1, h2⟩ := hM0 i o h
  obtain ⟨k1, o', k2, k3⟩ := hlt i h1
  rw [h2] at k2; cases k2
  exact ⟨k1, k3⟩
 have hids : ∀ i, i ∈ ids ↔ mlook (fxOf s.mem ids) i ≠ none := fun i => by
  constructor
  ·intro hi
   obtain ⟨_, o, k2, _⟩ := hlt i hi
   rw [fxOf_look, if_pos hi, k2]; simp
  ·intro h
   obtain ⟨o, ho⟩ := Option.ne_none_iff_exists'.1 h
   exact (hM0 i o ho).1
 have hlow := simM_low (ids := ids) sd.mem hsub hlt0
 have hv : RV G F st'.mem w (a.eval callee) (.fn f cs) := by rw [← hcal']; exact (sd.eval callee).unopt
 obtain ⟨us, hul, hus, hrun⟩ := run_callee hop hto.1 hv
 have hrvs := RVs.args (args := args) sd.eval hul hus
 rw [hargs] at hrvs
 have hrv0 : RVs (cutG s.nx G) F (fxOf s.mem ids) w (args.toList.map a.eval ++ us) (vs ++ cs) := ⟨hrvs.1, fun i h1 h2 => (hrvs.2 i h1 h2).swap fun j hj => ⟨if_pos (by
  rw [List.all_eq_true] at c6
  have := c6 j (idss_mem (List.getElem_mem h2) hj)
  rw [blt_dec, decide_eq_true_eq] at this
  exact this), hsub j⟩⟩
 refine ⟨fun _ _ => trivial, ?_⟩
 rw [Oper.semAt_eq _ _ _ (by rw [hop]; intro c h; cases h), hrun]
 refine ⟨fun h => by simp [fc, Fence.wide] at h, callsIn_fc ((hto.2 _ F w _ hlow (fun j hj => if_neg (by omega)) hrv0).mono ?_)⟩
 rintro e w2 ⟨u, G1, F1, rfl, hru, hm1, hfr1, S1⟩
 have hcl := closedB_ok c2
 rw [List.all_eq_true] at c1 c3 c4
 obtain ⟨G2, hm2, S2, hr2, hf2⟩ := simM_part (ids := ids) (ids1 := ids1) (M2 := fxMem (fxOf m1 ids1) st'.mem) sd.mem hsub hids hlt0 hG c5 hN S1 hm1 hru
  (fun i hi => by obtain ⟨o, h1, h2⟩ := hcl i hi; exact ⟨o, hM1.look h1, h2⟩) (fun i hi => memB_ok.1 (c4 i hi)) (fun i hi => by
   have := c3 i hi
   simp only [Bool.or_eq_true, Bool.and_eq_true, ble_dec, blt_dec, decide_eq_true_eq, memB_ok] at this
   exact this) (fun j hj => memB_ok.1 (c1 j hj)) (fun i => by
   rw [mlook_fx, fxOf_fx]
   by_cases hi : i ∈ ids1
   ·obtain ⟨o, h1, _⟩ := hcl i hi
    rw [if_pos hi, if_pos hi, h1, hM1.look h1]
   ·rw [if_neg hi, if_neg hi])
 obtain ⟨s1, S3⟩ := sd.putU (t := ⟨o, r, fxOf m1 ids1, gs ++ (opSlots o.op.operands.toList ++ odds ids), s.nx, nx1⟩) (u := u) hm2 (fun _ => rfl) S2 hd hr2
 exact hk _ _ _ _ s1 S3 hf2
theorem drGo_ok {t : Iu} {s' : ES} (hc : CallOk P call) (A : Abs (allF base sz) s st) (hg : GoD (allF base sz) st ops o gs) (hd : dok (allF base sz) o.dst = true) (h : drGo P call gs o s = .ok (t, s')) :
  (∀ ro ds, OpIsU P (allF base sz) ro ds ops st t) ∧ t.o = o ∧ t.lo = st.nx ∧ t.lo ≤ t.hi ∧ Abs (allF base sz) s' (runU (allF base sz) t st) := by
 unfold drGo at h
 split at h
 ·rename_i callee args tys hop
  split at h
  ·rename_i f cs vs hcal hvs
   split at h
   ·rename_i ids hids
    split at h
    ·rename_i r m1 nx1 hcall
     split at h
     ·rename_i ids1 hids1
      generalize hb : (r.ids.all (fun j => memB j ids1) && (closedB m1 ids1 ids1 && (ids1.all (fun j => memB j ids || (Nat.ble s.nx j && Nat.blt j nx1)) && (ids.all (fun j => memB j ids1) && (Nat.ble s.nx nx1 && ((AV.idss (vs ++ cs)).all (fun j => Nat.blt j s.nx) && ltB s.mem s.nx ids)))))) = b at h
      cases b
      ·cases h
      ·cases h
       simp only [Bool.and_eq_true] at hb
       obtain ⟨c1, c2, c3, c4, c5, c6, c7⟩ := hb
       refine ⟨fun ro ds => .callT hc A hg hd hop hcal hvs hcall c1 c2 c3 c4 c5 c6 c7, rfl, A.nx, by rw [ble_dec, decide_eq_true_eq] at c5; exact c5, ?_⟩
       exact Abs.put (s := ⟨s.tm, putFx (fxOf m1 ids1) s.mem, nx1⟩) (st := ⟨st.vars, st.tmps, fxMem (fxOf m1 ids1) st.mem, nx1⟩) ⟨A.tmps, A.slot, putFx_ok A.mem, rfl⟩ hd r
     ·cases h
    ·cases h
   ·cases h
  ·cases h
 ·split at h
  ·rename_i r hr
   split at h
   ·rename_i v fx hru
    cases h
    refine ⟨fun ro ds => .opr A hg hd hr hru, rfl, A.nx, Nat.le_succ _, ?_⟩
    have hn : Nat.add s.nx 1 = s.nx + 1 := rfl
    cases r with
    | val x => cases hru; exact Abs.put (s := ⟨s.tm, s.mem, Nat.add s.nx 1⟩) (st := ⟨st.vars, st.tmps, st.mem, Nat.add s.nx 1⟩) ⟨A.tmps, A.slot, A.mem, rfl⟩ hd _
    | new x ob => cases hru; exact Abs.put (s := ⟨s.tm, T.put s.mem (some ob) s.nx, Nat.add s.nx 1⟩) (st := ⟨st.vars, st.tmps, mset st.mem s.nx ob, Nat.add s.nx 1⟩) ⟨A.tmps, A.slot, MOk.put A.mem _ _, rfl⟩ hd _
    | upd x j ob => cases hru; exact Abs.put (s := ⟨s.tm, T.put s.mem (some ob) j, Nat.add s.nx 1⟩) (st := ⟨st.vars, st.tmps, mset st.mem j ob, Nat.add s.nx 1⟩) ⟨A.tmps, A.slot, MOk.put A.mem _ _, rfl⟩ hd _
    | key x j ob => cases hru
   ·cases h
  ·cases h
theorem drOps_ok (hc : CallOk P call) : ∀ (l : List Oper) (s : ES) (st : St) (its : List Iu) (s' : ES), Abs (allF base sz) s st → drOps P call sz all l s = .ok (its, s') → ∃ st', Abs (allF base sz) s' st' ∧ KeepS (allF base sz) l st st' ∧ ∀ ro ds, TrU P (allF base sz) ro ds all.toArray l st its st'
 | [], s, st, its, s', A, h => by simp only [drOps] at h; cases h; exact ⟨st, A, fun _ _ => rfl, fun _ _ => .nil st⟩
 | o :: rest, s, st, its, s', A, h => by
   simp only [drOps] at h
   cases hd : dokT sz o.dst
   ·rw [hd] at h; cases h
   ·rw [hd] at h
    have hd : dok (allF base sz) o.dst = true := dokT_ok hd
    simp only [cond_true] at h
    split at h
    ·rename_i t s1 h1
     have key : (∀ ro ds, OpIsU P (allF base sz) ro ds all.toArray st t) ∧ t.o = o ∧ t.lo = st.nx ∧ t.lo ≤ t.hi ∧ Abs (allF base sz) s1 (runU (allF base sz) t st) := by
      split at h1
      ·rename_i hg; exact drGo_ok hc A (.inl hg) hd h1
      ·rename_i j want hg
       split at h1
       ·cases h1
       ·rename_i k hk
        have hj := gslotT_ok hk
        split at h1
        ·rename_i hv; exact drGo_ok hc A (.inr ⟨j, want, k, hg, hj, A.gv hv, List.mem_cons_self⟩) hd h1
        ·rename_i hv
         cases h1
         refine ⟨fun ro ds => .skip hg hj (A.gv hv) hd, rfl, A.nx, Nat.le_refl _, ?_⟩
         have := Abs.put (s := s) (st := ⟨st.vars, st.tmps, st.mem, s.nx⟩) ⟨A.tmps, A.slot, A.mem, rfl⟩ hd (.sc undef)
         exact this
        ·cases h1
     split at h
     ·rename_i l2 s2 h2
      cases h
      obtain ⟨k1, k2, k3, k4, k5⟩ := key
      obtain ⟨st', A', hkp, htr⟩ := drOps_ok hc rest _ _ _ _ k5 h2
      refine ⟨st', A', .cons (fun i hi => put_keep (st := st) i (by rw [k2]; exact hi)) hkp, fun ro ds => ?_⟩
      rw [← k2]
      exact .cons (k1 ro ds) k3 k4 (htr ro ds)
     ·cases h
    ·cases h
end
section
variable {P : Program} {fr : Fr} {ro : Option Nat} {ds : DS} {st st' : St} {G G' G1 : Nat → Option Value} {F F' F1 : Nat → Nat → Prop} {a : Act} {w w' w2 : World} {ops : Array Oper} {o : Oper} {M0 M1 : Mem} {lo hi id : Nat} {f : FuncId} {xs : List AV} {r : AV} {rd : List Nat}
theorem CallTo.ofBody {nx' : Nat} (hb : BodyIs P f xs M0 lo fun r' M' nx'' => r' = r ∧ M' = M1 ∧ nx'' = nx') (hlt : f < 1000000) : CallTo P f xs M0 lo r M1 nx' := by
 obtain ⟨fn, c, nv, hid, h1, h2, h3, h4, h5⟩ := hb
 exact .body (nv := nv) (hid := hid) h1 h2 h3 h4 (fun h0 => (h5 h0).mono fun e st ⟨k1, rs, k2, k3, k4, k5⟩ => ⟨k1, rs, k2, k3, k4, k5⟩) hlt
theorem Step.less (S : Step All G F M0 w G' F' M1 w') {M2 : Mem} (hs : ∀ i o, mlook M2 i = some o → mlook M1 i = some o) : Step All G F M0 w G' F' M2 w' :=
 { kept := S.kept, size := S.size, out := S.out, F1 := S.F1, F2 := S.F2, F3 := S.F3
   own := fun b ⟨i, o, v, h1, h2, h3⟩ => S.own b ⟨i, o, v, hs _ _ h1, h2, h3⟩
   some' := S.some', same := S.same
   keep := fun id o' hb hG ho => S.keep id o' hb hG (hs _ _ ho) }
theorem OpIs.callR {cs : List AV} {callee : Operand} {args : Array Operand} {tys : Array TypeId} {ids : List Nat} (hlo : lo ≤ id) (hg : o.guard = none) (hop : o.op = .call ⟨.value callee, args, tys⟩) (hd : dok fr o.dst = true)
  (hcal : od fr st true callee = .fn f cs) (hxs : bodyArgs fr st args ++ cs = xs) (hrd : rd = opSlots o.op.operands.toList ++ odds ids) (hc : CallTo P f xs M0 lo r M1 hi) (hr : r.noref = true) (hnid : r.ids = [])
  (hst : ∀ i ∈ ids, mlook st.mem i = mlook M0 i) (hids : ∀ i, i ∈ ids ↔ mlook M0 i ≠ none) (hlt : ∀ i o, mlook M0 i = some o → i < lo ∧ ∀ j ∈ objIds o, j ∈ ids) (hM1 : ∀ i o, mlook M0 i = some o → mlook M1 i = some o)
  (hx : ∀ j ∈ AV.idss xs, j ∈ ids) : OpIs P fr ro ds ops id st ⟨o, ⟨r, none⟩, rd⟩ := by
 intro st' G F a w N K Q1 sd hN hG hl hk
 subst hrd
 simp only [Region.wanted, hg, if_true]
 have hsl : ∀ y ∈ opSlots o.op.operands.toList, look fr st' y = look fr st y := fun y hy => hl y (List.mem_append_left _ hy)
 have hid : ∀ i ∈ ids, mlook st'.mem i = mlook M0 i := fun i hi => by rw [look_obj (hl _ (List.mem_append_right _ (odds_mem hi)))]; exact hst i hi
 have hin : ∀ x, x ∈ o.op.operands.toList → od fr st' true x = od fr st true x := fun x hx => by
  cases x with
  | tmp t => simp only [od, opnd]; rw [look_slot (hsl _ (opSlots_mem hx))]
  | _ => rfl
 have hcal' : od fr st' true callee = .fn f cs := by rw [hin callee (by rw [hop]; simp [Op.operands, Call.operands])]; exact hcal
 have hargs : bodyArgs fr st' args = bodyArgs fr st args := List.map_congr_left fun x hx => hin x (by rw [hop]; simp only [Op.operands, Call.operands]; simp; exact .inr (by simpa using hx))
 have hlt0 : ∀ i ∈ ids, i < lo := fun i hi => by
  obtain ⟨o, ho⟩ := Option.ne_none_iff_exists'.1 ((hids i).1 hi)
  exact (hlt i o ho).1
 have hsub : ∀ i o, mlook M0 i = some o → mlook st'.mem i = some o := fun i o h => by
  rw [hid i ((hids i).2 (by rw [h]; simp))]; exact h
 have hltj : ∀ i o, mlook M0 i = some o → i < lo ∧ ∀ j ∈ objIds o, j < lo := fun i o h => ⟨(hlt i o h).1, fun j hj => hlt0 j ((hlt i o h).2 j hj)⟩
 have hlow := simM_low (ids := ids) sd.mem hsub hltj
 have hv : RV G F st'.mem w (a.eval callee) (.fn f cs) := by rw [← hcal']; exact (sd.eval callee).unopt
 obtain ⟨us, hul, hus, hrun⟩ := run_callee hop hc.1 hv
 have hrvs := RVs.args (args := args) sd.eval hul hus
 rw [hargs, hxs] at hrvs
 have hrv0 : RVs (cutG lo G) F M0 w (args.toList.map a.eval ++ us) xs := ⟨hrvs.1, fun i h1 h2 => (hrvs.2 i h1 h2).swap fun j hj => ⟨if_pos (hlt0 j (hx j (idss_mem (List.getElem_mem h2) hj))), hsub j⟩⟩
 refine ⟨fun _ _ => trivial, ?_⟩
 rw [Oper.semAt_eq _ _ _ (by rw [hop]; intro c h; cases h), hrun]
 refine ⟨fun h => by simp [fc, Fence.wide] at h, callsIn_fc ((hc.2 _ F w _ hlow (fun j hj => if_neg (by omega)) hrv0).mono ?_)⟩
 rintro e w2 ⟨u, G1, F1, rfl, hru, hm1, hfr1, S1⟩
 have hm0 : SimM P G1 F1 M0 lo w2 := ⟨fun i o h => ⟨(hlt i o h).1, ((hm1.sub hM1).obj i o h).2⟩, (hm1.sub hM1).inj, hm1.inF, hm1.gl⟩
 have S0 := S1.less hM1
 have hru0 : RV G1 F1 M0 w2 u r := .imm (hru.imm_of hr)
 obtain ⟨G2, hm2, S2, hr2, hf2⟩ := simM_part (ids := ids) (ids1 := ids) (M2 := st'.mem) sd.mem hsub hids hltj (fun j h1 h2 => absurd h1 (by omega)) (Nat.le_refl _) (by have : id < N := hN; omega) S0 hm0 hru0
  (fun i hi => by obtain ⟨o, ho⟩ := Option.ne_none_iff_exists'.1 ((hids i).1 hi); exact ⟨o, ho, (hlt i o ho).2⟩) (fun i hi => hi) (fun i hi => .inl hi) (fun j hj => by rw [hnid] at hj; cases hj) (fun i => by
   split
   ·rename_i hi; exact hid i hi
   ·rfl)
 obtain ⟨s1, S3⟩ := sd.put (d := o.dst) (r := ⟨r, none⟩) (u := u) hm2 (fun _ => rfl) S2 hd hr2
 exact hk _ _ _ _ s1 S3 fun j _ hj => hf2 j (by omega) hj
end
open Go Go.Proofs Go.Shelf Go.RowKit
def sh_lays189_ren : Go.Shelf.Ren := ⟨fun | 189 => 155 | 125 => 172 | 257 => 174 | 128 => 192 | 129 => 193 | 294 => 194 | 295 => 195 | 296 => 196 | 297 => 197 | 298 => 198 | 299 => 199 | 216 => 200 | 300 => 201 | 301 => 202 | 328 => 215 | 329 => 210 | 330 => 211 | 331 => 216 | 332 => 217 | 215 => 218 | 343 => 223 | n => n, fun | 28 => 38 | 3 => 3 | 46 => 209 | 0 => 0 | 51 => 237 | 53 => 240 | 4 => 4 | 183 => 272 | 182 => 271 | 131 => 147 | 5 => 5 | 9 => 9 | 218 => 287 | 222 => 291 | 228 => 300 | 229 => 301 | n => n, fun | n => n⟩
theorem sh_lays189 : Go.Proofs.Lays.n189 Tryz.prog sh_lays189_ren := {
 mixed := by kernel_rfl
 f125 := Tryz.func172.trans (congrArg some (by kernel_rfl))
 f128 := Tryz.func192.trans (congrArg some (by kernel_rfl))
 f129 := Tryz.func193.trans (congrArg some (by kernel_rfl))
 f189 := Tryz.func155.trans (congrArg some (by kernel_rfl))
 f215 := Tryz.func218.trans (congrArg some (by kernel_rfl))
 f216 := Tryz.func200.trans (congrArg some (by kernel_rfl))
 f257 := Tryz.func174.trans (congrArg some (by kernel_rfl))
 f294 := Tryz.func194.trans (congrArg some (by kernel_rfl))
 f295 := Tryz.func195.trans (congrArg some (by kernel_rfl))
 f296 := Tryz.func196.trans (congrArg some (by kernel_rfl))
 f297 := Tryz.func197.trans (congrArg some (by kernel_rfl))
 f298 := Tryz.func198.trans (congrArg some (by kernel_rfl))
 f299 := Tryz.func199.trans (congrArg some (by kernel_rfl))
 f300 := Tryz.func201.trans (congrArg some (by kernel_rfl))
 f301 := Tryz.func202.trans (congrArg some (by kernel_rfl))
 f328 := Tryz.func215.trans (congrArg some (by kernel_rfl))
 f329 := Tryz.func210.trans (congrArg some (by kernel_rfl))
 f330 := Tryz.func211.trans (congrArg some (by kernel_rfl))
 f331 := Tryz.func216.trans (congrArg some (by kernel_rfl))
 f332 := Tryz.func217.trans (congrArg some (by kernel_rfl))
 f343 := Tryz.func223.trans (congrArg some (by kernel_rfl))
 t0 := Tryz.underlying0
 a0 := Tryz.isAgg0
 z0 := Tryz.sizeOf0
 v0 := Tryz.zeroValue0
 t3 := Tryz.underlying3
 a3 := Tryz.isAgg3
 z3 := Tryz.sizeOf3
 v3 := Tryz.zeroValue3
 t4 := Tryz.underlying4
 a4 := Tryz.isAgg4
 z4 := Tryz.sizeOf4
 v4 := Tryz.zeroValue4
 t5 := Tryz.underlying5
 a5 := Tryz.isAgg5
 z5 := Tryz.sizeOf5
 v5 := Tryz.zeroValue5
 t9 := Tryz.underlying9
 a9 := Tryz.isAgg9
 z9 := Tryz.sizeOf9
 v9 := Tryz.zeroValue9
 t28 := Tryz.underlying38
 a28 := Tryz.isAgg38
 z28 := Tryz.sizeOf38
 v28 := Tryz.zeroValue38
 t46 := Tryz.underlying209
 a46 := Tryz.isAgg209
 z46 := Tryz.sizeOf209
 v46 := Tryz.zeroValue209
 t51 := Tryz.underlying237
 a51 := Tryz.isAgg237
 z51 := Tryz.sizeOf237
 v51 := Tryz.zeroValue237
 t53 := Tryz.underlying240
 a53 := Tryz.isAgg240
 z53 := Tryz.sizeOf240
 v53 := Tryz.zeroValue240
 t131 := Tryz.underlying147
 a131 := Tryz.isAgg147
 z131 := Tryz.sizeOf147
 v131 := Tryz.zeroValue147
 t182 := Tryz.underlying271
 a182 := Tryz.isAgg271
 z182 := Tryz.sizeOf271
 v182 := Tryz.zeroValue271
 t183 := Tryz.underlying272
 a183 := Tryz.isAgg272
 z183 := Tryz.sizeOf272
 v183 := Tryz.zeroValue272
 t218 := Tryz.underlying287
 a218 := Tryz.isAgg287
 z218 := Tryz.sizeOf287
 v218 := Tryz.zeroValue287
 t222 := Tryz.underlying291
 a222 := Tryz.isAgg291
 z222 := Tryz.sizeOf291
 v222 := Tryz.zeroValue291
 t228 := Tryz.underlying300
 a228 := Tryz.isAgg300
 z228 := Tryz.sizeOf300
 v228 := Tryz.zeroValue300
 t229 := Tryz.underlying301
 a229 := Tryz.isAgg301
 z229 := Tryz.sizeOf301
 v229 := Tryz.zeroValue301 }
theorem sh_slices_Sort_int (blk off cap : Nat) (zs : List Int) (w : World) (hH : Go.Sort.Holds (Value.int .i64) w blk off zs.toArray) (hblk : blk < w.heap.size) (hsz : zs.length < 4611686018427387904) :
 Calls Tryz.prog 155 #[.slice (some ⟨blk, off, none⟩) zs.length cap] w fun e w' =>
  e = .returned (.tuple #[]) ∧ ∃ n os, w' = Go.Sort.grow (Go.Sort.putRow (Value.int .i64) (Go.Sort.ahead w n) blk off (zs.mergeSort fun x y => decide (x ≤ y)).toArray) os := Any.slices_Sort_int sh_lays189 blk off cap zs w hH hblk hsz
theorem T.get_map {α : Type} (d : α) (f : α → α) (hd : f d = d) : ∀ (t : T α) (i : Nat), T.get d (T.map f t) i = f (T.get d t i)
 | .nil, _ => hd.symm
 | .nd l v r, i => by
   have e : T.map f (.nd l v r) = .nd (T.map f l) (f v) (T.map f r) := rfl
   rw [e, T.get_nd, T.get_nd]
   split
   ·rfl
   ·split <;> exact T.get_map d f hd _ _
section
variable {P : Program} {G G' : Nat → Option Value} {F F0 F' : Nat → Nat → Prop} {M M0 M' : Mem} {w w' : World} {nx : Nat}
theorem simM_box {i : Nat} {xs xs2 xs' : List AV} (hm0 : SimM P G F0 M0 nx w) (ho : mlook M0 i = some (.cells xs)) (hm : SimM P G F M nx w) (h2 : mlook M i = some (.cells xs2)) (r : RdgL Rdg G w F0 M0 F xs xs') :
  ∃ F' b, G i = some (.pointer (some ⟨b, 0, none⟩)) ∧ SimM P G F' (mdel M i) nx w ∧ Step All G F M w G F' (mdel M i) w ∧ ∀ off, Imm F' w (.pointer (some ⟨b, off, none⟩)) (.ia (xs'.drop off)) := by
 obtain ⟨b, hG, hm', S'⟩ := simM_frzB hm h2
 obtain ⟨b1, cc, e, h1, k2, k3, k4, k5⟩ := (hm0.obj i _ ho).2
 rw [hG] at h1; cases h1
 obtain ⟨b2, cc2, e2, h1, q2, q3, q4, q5⟩ := (hm.obj i _ h2).2
 rw [hG] at h1; cases h1
 rw [k2] at q2; cases q2
 refine ⟨_, b, hG, hm', S', fun off => ?_⟩
 have hl : xs'.length = cc.size := by rw [r.1, k3]
 refine .ia b off (xs'.drop off) (fun j => (cc[off + j]?).getD undef) (fun k hk => ⟨.inr ⟨rfl, by simp at hk; omega⟩, ?_⟩) (fun k hk => ?_)
 ·rw [cell?_block k2]
  simp only [List.length_drop] at hk
  rw [Array.getElem?_eq_getElem (by omega)]; rfl
 ·simp only [List.length_drop] at hk
  rw [List.getElem_drop, Array.getElem?_eq_getElem (by omega)]
  exact ((r.2 (off + k) (by rw [← r.1]; omega) (by omega)).2 _ (k4 (off + k) (by omega) (by rw [← r.1]; omega))).mono S'.F1 S'.F2
theorem RV.box {i b : Nat} {xs' : List AV} (hG : G i = some (.pointer (some ⟨b, 0, none⟩))) (hi : ∀ off, Imm F w (.pointer (some ⟨b, off, none⟩)) (.ia (xs'.drop off))) {v : Value} {y : AV} (h : RV G F M w v y) : RV G F M w v (toIa i xs' y) := by
 unfold toIa
 split
 ·rename_i j off
  split
  ·rename_i hj
   subst hj
   obtain ⟨b', hG', rfl⟩ := h.inv_rf
   rw [hG] at hG'; cases hG'
   exact .imm (hi off)
  ·exact h
 ·exact h
def Sl (fr : Fr) (tv : Nat → Value) (G : Nat → Option Value) (F : Nat → Nat → Prop) (st : St) (w : World) : Prop := ∀ k, RV G F st.mem w (tv k) (st.get fr k)
theorem frzCaps_ok {base sz : Nat} : ∀ (caps : List AV) (s : ES) (caps' : List AV) (s' : ES) (st : St), Abs (allF base sz) s st → frzCaps caps s = some (caps', s') →
  ∃ st', Abs (allF base sz) s' st' ∧ st'.nx = st.nx ∧ ∀ G F nx w tv, SimM P G F st.mem nx w → Sl (allF base sz) tv G F st w → ∃ F', SimM P G F' st'.mem nx w ∧ Sl (allF base sz) tv G F' st' w ∧ Step All G F st.mem w G F' st'.mem w ∧ AV.norefs caps' = true ∧ ∀ us, RVs G F st.mem w us caps → Imms F' w us caps'
 | [], s, caps', s', st, A, h => by
   simp only [frzCaps] at h; cases h
   exact ⟨st, A, rfl, fun G F nx w tv hm hs => ⟨F, hm, hs, .refl, rfl, fun us hu => ⟨hu.1, fun i h1 h2 => absurd h2 (Nat.not_lt_zero _)⟩⟩⟩
 | c :: cs, s, caps', s', st, A, h => by
   have key : ∀ (c' : AV) (s1 : ES) (st1 : St) (cs' : List AV), Abs (allF base sz) s1 st1 → st1.nx = st.nx → frzCaps cs s1 = some (cs', s') → caps' = c' :: cs' →
     (∀ G F nx w tv, SimM P G F st.mem nx w → Sl (allF base sz) tv G F st w → ∃ F', SimM P G F' st1.mem nx w ∧ Sl (allF base sz) tv G F' st1 w ∧ Step All G F st.mem w G F' st1.mem w ∧ c'.noref = true ∧ ∀ u, RV G F st.mem w u c → Imm F' w u c') →
     ∃ st', Abs (allF base sz) s' st' ∧ st'.nx = st.nx ∧ ∀ G F nx w tv, SimM P G F st.mem nx w → Sl (allF base sz) tv G F st w → ∃ F', SimM P G F' st'.mem nx w ∧ Sl (allF base sz) tv G F' st' w ∧ Step All G F st.mem w G F' st'.mem w ∧ AV.norefs caps' = true ∧ ∀ us, RVs G F st.mem w us (c :: cs) → Imms F' w us caps' := by
    intro c' s1 st1 cs' A1 hn1 hcs hcaps hall
    obtain ⟨st', A', hn', hrest⟩ := frzCaps_ok cs s1 cs' s' st1 A1 hcs
    refine ⟨st', A', hn'.trans hn1, fun G F nx w tv hm hs => ?_⟩
    obtain ⟨F1, hm1, hs1, S1, hc1, hu1⟩ := hall G F nx w tv hm hs
    obtain ⟨F2, hm2, hs2, S2, hc2, hu2⟩ := hrest G F1 nx w tv hm1 hs1
    refine ⟨F2, hm2, hs2, S1.trans S2, by rw [hcaps]; simp only [AV.norefs, Bool.and_eq_true]; exact ⟨hc1, hc2⟩, fun us hu => ?_⟩
    rw [hcaps]
    match us, hu with
    | [], hu => exact absurd hu.1 (by simp)
    | u :: us, hu =>
      have h0 := (hu1 u (hu.2 0 (by simp) (by simp))).mono S2.F1 S2.F2
      have ht := hu2 us ⟨by have := hu.1; simpa using this, fun i h1 h2 => (hu.2 (i + 1) (by simpa using h1) (by simpa using h2)).step S1 fun _ _ => trivial⟩
      refine ⟨by simp [ht.1], fun i h1 h2 => ?_⟩
      cases i with
      | zero => exact h0
      | succ i => exact ht.2 i (by simpa using h1) (by simpa using h2)
   have other : capO (frzCaps cs) c s = some (caps', s') → ∃ st', Abs (allF base sz) s' st' ∧ st'.nx = st.nx ∧ ∀ G F nx w tv, SimM P G F st.mem nx w → Sl (allF base sz) tv G F st w → ∃ F', SimM P G F' st'.mem nx w ∧ Sl (allF base sz) tv G F' st' w ∧ Step All G F st.mem w G F' st'.mem w ∧ AV.norefs caps' = true ∧ ∀ us, RVs G F st.mem w us (c :: cs) → Imms F' w us caps' := by
    intro h
    unfold capO at h
    split at h
    ·rename_i y m' hy
     split at h
     ·rename_i cs' s2 hcs
      cases h
      obtain ⟨M1, hM1, k1⟩ := frzV_ok (P := P) 20 _ _ _ _ _ hy A.mem
      refine key y ⟨s.tm, m', s.nx⟩ ⟨st.vars, st.tmps, M1, st.nx⟩ cs' ⟨A.tmps, A.slot, hM1, A.nx⟩ rfl hcs rfl fun G F nx w tv hm hs => ?_
      obtain ⟨F1, hm1, S1, r1⟩ := k1 G F nx w hm
      exact ⟨F1, hm1, fun k => (hs k).step S1 fun _ _ => trivial, S1, r1.1, r1.2⟩
     ·cases h
    ·cases h
   cases c with
   | rf i off =>
     simp only [frzCaps] at h
     split at h
     ·rename_i xs ho
      split at h
      ·rename_i xs' m1 hx
       split at h
       ·rename_i xs2 ho2
        rw [beq_dec, bif_inv] at h
        split at h
        ·rename_i hlen
         split at h
         ·rename_i cs' s2 hcs
          cases h
          obtain ⟨M1, hM1, k1⟩ := frzL_ok Rdg.mono (frzV_ok (P := P) 20) _ _ _ _ _ hx A.mem
          have hj : AV.deep (toIa i xs') .junk = .junk := rfl
          refine key (.ia (xs'.drop off)) ⟨T.map (AV.deep (toIa i xs')) s.tm, T.put m1 none i, s.nx⟩ ((⟨st.vars, st.tmps, mdel M1 i, st.nx⟩ : St).map (AV.deep (toIa i xs'))) cs' ⟨?_, fun k => ?_, hM1.del i, A.nx⟩ rfl hcs rfl fun G F nx w tv hm hs => ?_
          ·simp only [St.map, A.tmps]; rfl
          ·rw [T.get_map _ _ hj, St.get_map hj]
           have e : (⟨st.vars, st.tmps, mdel M1 i, st.nx⟩ : St).get (allF base sz) k = st.get (allF base sz) k := rfl
           rw [e]
           rcases A.slot k with h | h
           ·rw [h]; exact .inl rfl
           ·rw [h]; exact .inr rfl
          ·obtain ⟨F1, hm1, S1, r1⟩ := k1 G F nx w hm
           obtain ⟨F2, b, hG, hm2, S2, hi⟩ := simM_box hm (A.look ho) hm1 (hM1.look ho2) r1
           refine ⟨F2, hm2, fun k => ?_, S1.trans S2, rfl, fun u hu => ?_⟩
           ·rw [St.get_map hj]
            exact ((hs k).step (S1.trans S2) fun _ _ => trivial).deep fun v y h => h.box hG hi
           ·obtain ⟨b', hG', rfl⟩ := hu.inv_rf
            rw [hG] at hG'; cases hG'
            exact hi off
         ·cases h
        ·cases h
       ·cases h
      ·cases h
     ·cases h
   | _ => exact other (by simpa only [frzCaps] using h)
end
section
variable {P : Program} {fr : Fr} {ro : Option Nat} {ds : DS} {st st' : St} {G G' : Nat → Option Value} {F F' F2 : Nat → Nat → Prop} {a : Act} {w w' : World} {x y c : Code}
 {M : Mem} {ops : Array Oper} {l rest : List Oper} {o : Oper} {h0 : Nat} {J : Env} {k : Option Nat} {O : Nat → Prop}
def resG (B : Nat) (G : Nat → Option Value) (id : Nat) : Option Value := if id < B then G id else none
theorem resG_lt {B : Nat} {G : Nat → Option Value} {id : Nat} (h : id < B) : resG B G id = G id := if_pos h
theorem resG_ne {B : Nat} {G : Nat → Option Value} {id : Nat} (h : resG B G id ≠ none) : id < B := by
 by_cases hb : id < B
 ·exact hb
 ·exact absurd (if_neg hb) h
theorem Step.res {B : Nat} {M' : Mem} (S : Step (· < B) G F M w G' F' M' w') : GS (· < B) (resG B G) F M w (resG B G') F' M' w' where
 F1 := S.F1
 F2 := S.F2
 some' := fun id hB h => by rw [resG_lt hB] at h ⊢; exact S.some' id hB h
 same := fun id v hB h hv => by rw [resG_lt hB] at h ⊢; exact S.same id v hB h hv
 keep := fun id o' hB h hm => by rw [resG_lt hB] at h ⊢; rw [resG_lt hB]; exact S.keep id o' hB h hm
theorem RV.unres {B : Nat} {v : Value} {x : AV} (h : RV (resG B G) F M w v x) : RV G F M w v x :=
 h.gs (B := (· < B)) (G' := G) (F' := F) (M' := M) (w' := w)
  { F1 := fun _ _ h => h, F2 := fun _ _ _ => rfl
    some' := fun id hB h => by rwa [resG_lt hB] at h
    same := fun id v hB h _ => by rwa [resG_lt hB] at h
    keep := fun id o' hB h hm => by
     rw [resG_lt hB] at h ⊢
     obtain ⟨v, hv⟩ := Option.ne_none_iff_exists'.1 h
     exact ⟨o', v, v, hm, hv, hv, by cases o' <;> simp [objKeep]⟩ } fun id h => resG_ne h
variable {Q : Exit → St → Prop}
theorem EvC.rangeG {g : Operand} {ps : Array Tmp} {assign body : Code} {gf : FuncId} {caps : List AV} {xs : List (List AV)} (hro : ds.ro = ro) (hnm : ro = none → ds.nm = none) (hg : opnd fr st.clr g = .fn gf caps) (hn : AV.norefs caps = true) (hs : SeqIs P gf caps xs)
  (hps : ∀ x ∈ xs, x.length = ps.size) (hpk : ∀ p ∈ ps, p < fr.sz) (hbase : fr.base ≤ st.nx) (inv : Nat → Mem → Nat → Prop) (h0 : inv 0 st.mem st.nx)
  (round : ∀ k M nx lp, (hk : k < xs.length) → inv k M nx → EvC P ⟨st.nx, fr.nv, fr.hid, fr.sz⟩ (some lp) ⟨0, some lp, true⟩ assign (bindP ⟨st.nx, fr.nv, fr.hid, fr.sz⟩ ps.toList xs[k] ⟨st.vars, [], M, nx⟩) fun e st1 => e = .normal ∧
   EvC P ⟨st.nx, fr.nv, fr.hid, fr.sz⟩ (some lp) ⟨0, some lp, true⟩ body st1 fun e st2 => match e with
    | .normal => inv (k + 1) st2.mem st2.nx
    | .ret => Q .ret ⟨st.vars, [], st2.mem, st2.nx⟩
    | .exit id => Q (.exit id) ⟨st.vars, [], st2.mem, st2.nx⟩
    | _ => False)
  (done : ∀ M nx, inv xs.length M nx → Q .normal ⟨st.vars, [], M, nx⟩) : EvC P fr ro ds (.rangeFunc g ps assign body) st Q := by
 intro G0 F0 M0 w0 G F a w S s
 refine wpIn_rangeFunc fun fn hfn => ?_
 obtain ⟨l, mk, W1, D, he, hlw, hl1, hsz1, hold1, hmk, hkp1, _⟩ := enter_loop (P := P) hro hnm s.defers fn ps assign body
 obtain ⟨rec, hrec⟩ : ∃ rec : LoopState → Option Code → Loop, rec = fun st pe => { state := st, pending := pe, fn, tmps := a.tmps, params := ps, assign, body, defers := D } := ⟨_, rfl⟩
 have hl1 : W1.heap[l]? = some (.loop (rec .ready none)) := by rw [hrec]; exact hl1
 have hw0 : w0.heap.size ≤ l := Nat.le_trans S.size hlw
 have hgv := s.clr.eval g
 rw [hg] at hgv
 obtain ⟨vs, hev, hvl, hvs⟩ := hgv.inv_fn0 hs.1.1
 have hF1 : ∀ b o, F b o → b < W1.heap.size := fun b o h => Nat.lt_of_lt_of_le (s.sim.mem.inF b o h) hsz1
 have hk1 : ∀ (b : Nat) (o : Obj), w.heap[b]? = some o → isData o = true → W1.heap[b]? = some o := fun b o hb _ => by rw [hold1 b (Array.getElem?_eq_some_iff.1 hb).1]; exact hb
 let J : Env := fun k F' O W => match k with
  | some k => ∃ G' M' nx', inv k M' nx' ∧ Core P fr ds a W1.heap.size mk G0 F0 M0 w0 ⟨st.vars, [], M', nx'⟩ G' F' O W ∧ W.heap[l]? = some (.loop (rec .ready none)) ∧ ∀ i, RV (resG st.nx G') F' M' W (a.tmps.getD i undef) ((⟨st.vars, [], M', nx'⟩ : St).get fr i)
  | none => ∃ G' M' nx' c, ((c = Code.ret ∧ Q .ret ⟨st.vars, [], M', nx'⟩) ∨ ∃ id, c = Code.exit id ∧ Q (.exit id) ⟨st.vars, [], M', nx'⟩) ∧ Core P fr ds a W1.heap.size mk G0 F0 M0 w0 ⟨st.vars, [], M', nx'⟩ G' F' O W ∧ W.heap[l]? = some (.loop (rec .done (some c)))
 have hlN : l < W1.heap.size := (Array.getElem?_eq_some_iff.1 hl1).1
 have hJ : Stable J := by
  intro k F O w F' O' w' h I
  cases k with
  | some k =>
    obtain ⟨G', M', nx', h1, h2, h3, h6⟩ := h
    obtain ⟨h4, h5⟩ := h2.it I
    have E : EnvStep (fun _ => False) F w F' w' := ⟨I.size, fun b hb => hb.elim, I.F1, I.F2, fun b o _ hb => hb.elim, I.inF, I.kept⟩
    exact ⟨G', M', nx', h1, h4, (h5 _ hlN).trans h3, fun i => (h6 i).env E⟩
  | none =>
    obtain ⟨G', M', nx', c, h1, h2, h3⟩ := h
    obtain ⟨h4, h5⟩ := h2.it I
    exact ⟨G', M', nx', c, h1, h4, (h5 _ hlN).trans h3⟩
 have hy : Yields P J l xs := by
  intro k F O W vals hk hF hO hi ⟨G', M1, nx1, hinv, hc, hlW, hsl⟩
  have hlt := (Array.getElem?_eq_some_iff.1 hlW).1
  have hvals : vals.length = ps.size := hi.1.trans (hps _ (List.getElem_mem hk))
  have hyield := run_yield (P := P) (args := vals.toArray) hlW (by rw [hrec]; simpa using hvals)
  have hlO : ¬ O l := fun h => by have := hc.lo l h; omega
  refine ⟨_, _, _, _, hyield, roundIn_of_wpIn (by rw [hrec]; exact hfn) ?_⟩
  have s1 : SimA P ⟨st.nx, fr.nv, fr.hid, fr.sz⟩ ⟨0, some l, true⟩ G' F ⟨st.vars, [], M1, nx1⟩ { tmps := a.tmps, defers := [] } W :=
   ⟨⟨hc.mem, hc.slots, s.sim.size⟩, hc.fresh, .round hlW⟩
  have s2 := s1.bind (ps := ps.toList) (by simpa using hvals) hi (fun p hp => hpk p (by simpa using hp))
  have htm : (((rec .ready none).params.zip vals.toArray).foldl (fun tmps (t, a) => tmps.setIfInBounds t a) (rec .ready none).tmps) = (ps.toList.zip vals).foldl (fun t (p, v) => t.setIfInBounds p v) a.tmps := by
   rw [hrec]
   simp only
   rw [← Array.foldl_toList]
   simp
  rw [htm]
  have em : (bindP ⟨st.nx, fr.nv, fr.hid, fr.sz⟩ ps.toList xs[k] ⟨st.vars, [], M1, nx1⟩).mem = M1 := bindP_mem _ _ _
  have hA := round k M1 nx1 l hk hinv G' F _ W G' F _ W (by rw [em]; exact .refl) s2
  have hfe : (Fence.wide.inRound l) = fc (some l) := rfl
  rw [hfe]
  have ea : (rec .ready none).assign = assign := by rw [hrec]
  have eb : (rec .ready none).body = body := by rw [hrec]
  rw [ea, eb]
  refine wpIn_mono hA ?_
  rintro e a1 Wa ⟨Ga, Fa, sta, sa, Sa, rfl, hB⟩
  have hla : Wa.heap[l]? = some (.loop (rec .ready none)) := Sa.keepObj (by have := s2.sim.mem; rw [em] at this; exact this) hlW rfl
  refine ⟨_, run_beginRound hla (by rw [hrec]), ?_⟩
  have hlta := (Array.getElem?_eq_some_iff.1 hla).1
  have hlb : (Wa.putObj l (.loop { rec .ready none with state := .busy })).heap[l]? = some (.loop { rec .ready none with state := .busy }) := World.putObj_heap_same hlta
  have hda := sa.defers.2.2.1 [] rfl
  have sb : SimA P ⟨st.nx, fr.nv, fr.hid, fr.sz⟩ ⟨0, some l, true⟩ Ga Fa sta a1 (Wa.putObj l (.loop { rec .ready none with state := .busy })) :=
   sa.keepData (keep_put hla rfl _) (by rw [World.putObj_size]; exact Nat.le_refl _) (by rw [hda]; exact .round hlb)
  refine wpIn_mono (hB Ga Fa sta.mem _ Ga Fa a1 _ .refl sb) ?_
  rintro e a3 W3 ⟨G3, F3, st3, s3, S3, hq⟩
  have hl3 : W3.heap[l]? = some (.loop { rec .ready none with state := .busy }) := S3.keepObj sb.sim.mem hlb rfl
  have hlt3 := (Array.getElem?_eq_some_iff.1 hl3).1
  have hrb : ∀ jump : Option Code, (Instr.endRound l jump).run P W3 = .ok (.bool jump.isNone) (W3.putObj l (.loop (rec (if jump.isNone then .ready else .done) jump))) := fun jump => by
   have := run_endRound (P := P) jump hl3
   rw [hrec] at this ⊢; exact this
  have Sr : ∀ o4 : Obj, isData o4 = false → Step (· < st.nx) G' F M1 (W.putObj l o4) G3 F3 st3.mem (W3.putObj l o4) := fun o4 h4 => by
   have t1 := (Sa.put (by exact hlt) (.loop { rec .ready none with state := .busy })).trans S3
   have t2 := t1.put (by rw [World.putObj_size]; exact hlt) o4
   rw [putObj_put] at t2
   exact t2
  have fin : ∀ (o4 : Obj), isData o4 = false →
    Core P fr ds a W1.heap.size mk G0 F0 M0 w0 ⟨st.vars, [], st3.mem, st3.nx⟩ G3 F3 O (W3.putObj l o4) ∧ EnvStep O F W F3 (W3.putObj l o4) ∧ ∀ i, RV (resG st.nx G3) F3 st3.mem (W3.putObj l o4) (a.tmps.getD i undef) ((⟨st.vars, [], st3.mem, st3.nx⟩ : St).get fr i) := by
   intro o4 h4
   have Sx : Step (· < st.nx) G' F M1 (W.putObj l o4) G3 F3 st3.mem (W3.putObj l o4) := Sr o4 h4
   have hm4' := s3.sim.mem.keepData (keep_put hl3 rfl o4) (by rw [World.putObj_size]; exact Nat.le_refl _)
   have hkW := keep_put hlW rfl o4
   have S0x := (hc.step.putAbove hw0 hlW rfl h4).trans (Sx.mono fun id hid => Nat.lt_of_lt_of_le hid hbase)
   have hdisj : ∀ b, O b → ¬ Owned G' M1 b := fun b hb hO => hc.disj b hO hb
   have hown : ∀ b, O b → (W3.putObj l o4).heap[b]? = W.heap[b]? := fun b hb => by
    rw [Sx.out b (by rw [World.putObj_size]; exact hO b hb) (hdisj b hb)]
    exact World.putObj_heap_other (by rintro rfl; exact hlO hb)
   have slr : ∀ i, RV (resG st.nx G3) F3 st3.mem (W3.putObj l o4) (a.tmps.getD i undef) ((⟨st.vars, [], st3.mem, st3.nx⟩ : St).get fr i) := fun i => by
    have h1 := hsl i
    have e : (⟨st.vars, [], M1, nx1⟩ : St).get fr i = (⟨st.vars, [], st3.mem, st3.nx⟩ : St).get fr i := rfl
    rw [e] at h1
    exact (h1.keepData hkW).gs Sx.res fun id hid => resG_ne hid
   refine ⟨⟨hm4', fun i => (slr i).unres, s3.fresh, S0x, ?_, fun b hb hO' => ?_, hc.lo, hc.wN, ?_, hc.mlt⟩, ⟨?_, hown, fun b o h => Sx.F1 b o h, fun b o h => ?_, fun b o h hb => ?_, fun b o h => hm4'.inF b o h, Kept.trans (.set hlW rfl (unfroz_nd h4)) Sx.kept⟩, slr⟩
   ·have m1 : Marks ds (mk ++ a.defers) (W.putObj l o4) := hc.marks_put s.defers hlW hlw
    exact m1.step (hc.mem.keepData hkW (by rw [World.putObj_size]; exact Nat.le_refl _)) Sx
   ·rcases Sx.own b hb with h | h
    ·rw [World.putObj_size] at h; have := hO b hO'; omega
    ·exact hc.disj b h hO'
   ·have := Sx.size; rw [World.putObj_size] at this; exact Nat.le_trans hc.NW this
   ·have := Sx.size; rw [World.putObj_size] at this; exact this
   ·rw [Sx.F2 b o h]
    by_cases e : b = l
    ·subst e
     simp only [World.cell?, hlW, World.putObj_heap_same hlt]
     cases o4 <;> simp_all [isData]
    ·exact cell?_put e
   ·rcases Sx.F3 b o h with h' | h' | h'
    ·exact h'
    ·rw [World.putObj_size] at h'; have := hO b hb; omega
    ·exact absurd h' (hdisj b hb)
  cases e with
  | normal =>
    obtain ⟨hcore, hE, hsl2⟩ := fin (.loop (rec .ready none)) rfl
    exact ⟨_, _, hrb none, F3, hE, .inl ⟨rfl, _, _, _, hq, hcore, World.putObj_heap_same hlt3, hsl2⟩⟩
  | ret =>
    obtain ⟨hcore, hE, _⟩ := fin (.loop (rec .done (some .ret))) rfl
    exact ⟨_, _, hrb (some .ret), F3, hE, .inr ⟨rfl, G3, st3.mem, st3.nx, .ret, .inl ⟨rfl, hq⟩, hcore, World.putObj_heap_same hlt3⟩⟩
  | exit id =>
    obtain ⟨hcore, hE, _⟩ := fin (.loop (rec .done (some (.exit id)))) rfl
    exact ⟨_, _, hrb (some (.exit id)), F3, hE, .inr ⟨rfl, G3, st3.mem, st3.nx, .exit id, .inr ⟨id, rfl, hq⟩, hcore, World.putObj_heap_same hlt3⟩⟩
  | goto t => exact hq.elim
  | panic ch => exact hq.elim
  | outgrown => exact hq.elim
 have hj0 : J (some 0) F (fun _ => False) W1 := by
  refine ⟨G, st.mem, st.nx, h0, ⟨s.sim.mem.keepData hk1 hsz1, fun i => ?_, s.fresh, ?_, hmk, fun _ _ h => h, fun _ h => h.elim, Nat.le_trans S.size hsz1, Nat.le_refl _, hmk.lt⟩, hl1, fun i => ?_⟩
  ·exact (s.clr.sim.slots i).keepData hk1
  ·exact S.allocs hsz1 hold1 s.sim.mem.inF hkp1
  ·have h1 := s.clr.sim.slots i
   exact (h1.keepData hk1).gs (B := (· < st.nx)) (G' := resG st.nx G)
    { F1 := fun _ _ h => h, F2 := fun _ _ _ => rfl
      some' := fun id hB h => by rwa [resG_lt hB]
      same := fun id v hB h _ => by rwa [resG_lt hB]
      keep := fun id o' hB h hm => by
       obtain ⟨v, hv⟩ := Option.ne_none_iff_exists'.1 h
       exact ⟨o', v, v, hm, hv, by rw [resG_lt hB]; exact hv, by cases o' <;> simp [objKeep]⟩ } fun id hid => Nat.lt_of_not_le fun hle => hid (s.fresh id hle)
 refine ⟨l, mk, W1, { target := .fn (.func gf) vs.toArray, args := #[yv l] }, W1, gf, #[yv l] ++ vs.toArray, W1, he, ?_, fun _ _ => trivial, ?_, fun h => by simp [fc, Fence.wide] at h, ?_⟩
 ·simp only [rangeCall, resolve, hev]
  simp [go_sem, yv, Deferred.ofValue]
 ·have := hs.1.2 (#[yv l] ++ vs.toArray) W1
  simp only [invoke]
  exact this
 ·have hcall := hs.2 l J hJ hy F W1 vs ⟨hF1, s.sim.mem.gl.mono (fun _ _ h => h) fun b o h => cell?_same (hold1 b (s.sim.mem.inF b o h)) o⟩ ⟨hvl, fun i h1 h2 => ((hvs i h1 h2).imm_of (norefs_get caps hn i h2)).mono (fun _ _ h => h) fun b o h => cell?_same (hold1 b (s.sim.mem.inF b o h)) o⟩ hj0
  refine CallsIn.mono (F := fc ro) (n := 0 - 1) (callsIn_fc hcall) ?_
  rintro e W2 ⟨v, F2, rfl, hj⟩
  rcases hj with hj | hj
  ·obtain ⟨G2, M2, nx2, hinv2, hc, hl2, _⟩ := hj
   refine ⟨none, _, by have := run_endLoop (P := P) hl2 (by rw [hrec]; simp); rw [hrec] at this; exact this, ?_⟩
   refine ⟨G2, F2, _, ⟨⟨hc.mem.keepData (keep_put hl2 rfl _) (by rw [World.putObj_size]; exact Nat.le_refl _), fun i => (hc.slots i).keepData (keep_put hl2 rfl _), s.sim.size⟩, hc.fresh, ?_⟩, hc.step.putAbove hw0 hl2 rfl rfl, done M2 nx2 hinv2⟩
   exact hc.marks_put s.defers hl2 hlw
  ·obtain ⟨G2, M2, nx2, c, hcq, hc, hl2⟩ := hj
   refine ⟨some c, _, by have := run_endLoop (P := P) hl2 (by rw [hrec]; simp); rw [hrec] at this; exact this, ?_⟩
   have post : ∀ e, Q e ⟨st.vars, [], M2, nx2⟩ → Post P fr ds G0 F0 M0 w0 Q e { a with defers := mk ++ a.defers } (W2.putObj l (.loop { rec .done (some c) with state := .exhausted })) := fun e hq =>
    ⟨G2, F2, _, ⟨⟨hc.mem.keepData (keep_put hl2 rfl _) (by rw [World.putObj_size]; exact Nat.le_refl _), fun i => (hc.slots i).keepData (keep_put hl2 rfl _), s.sim.size⟩, hc.fresh, hc.marks_put s.defers hl2 hlw⟩, hc.step.putAbove hw0 hl2 rfl rfl, hq⟩
   rcases hcq with ⟨rfl, hq⟩ | ⟨id, rfl, hq⟩
   ·have := wpIn_ret (F := fc ro) (n := 0) (P := P) (post .ret hq)
    rw [hrec] at this; exact this
   ·have := wpIn_exit (F := fc ro) (n := 0) (P := P) (post (.exit id) hq)
    rw [hrec] at this; exact this
end
section
variable {P : Program} {fr : Fr} {ro : Option Nat} {ds : DS} {st st' : St} {G G' : Nat → Option Value} {F F' : Nat → Nat → Prop} {a : Act} {w w' : World} {x y c : Code}
 {M : Mem} {ops : Array Oper} {l l1 l2 rest : List Oper} {o : Oper} {h0 : Nat} {J : Env} {k : Option Nat} {Q Q' : Exit → St → Option Nat → Prop}
theorem oper_monoQ {Fe : Fence} {n : Nat} {K K' : Act → World → Prop} {R R' : Exit → Act → World → Prop} (hK : ∀ a w, K a w → K' a w) (hR : ∀ e a w, e ≠ .normal → R e a w → R' e a w) (h : o.wpIn Fe n P a w K R) : o.wpIn Fe n P a w K' R' := by
 have h1 := Oper.wpIn_mono (o := o) hK h
 unfold Oper.wpIn at *
 refine ⟨h1.1, ?_⟩
 have h1 := h1.2
 clear h
 generalize (o.semAt Fe.round a.eval).run P w = r at *
 have lo : LetsOut R → LetsOut R' := fun ⟨a, w, hl⟩ => ⟨a, w, hR _ a w (by intro h; cases h) hl⟩
 cases r with
 | ok v w2 =>
   cases v with
   | value v => exact h1
   | skip => exact h1
   | defer d => exact h1
   | enter f args =>
     refine ⟨h1.1, CallsIn.mono h1.2 fun e w3 h => ?_⟩
     cases e with
     | returned v => exact h
     | panicked ch => exact hR _ _ _ (by intro h; cases h) h
     | outgrown => exact lo h
   | row row args => exact h1
   | round l f tmps assign body =>
     refine ⟨h1.1, RoundIn.mono h1.2 fun e w3 h => ?_⟩
     cases e with
     | returned v => exact h
     | panicked ch => exact hR _ _ _ (by intro h; cases h) h
     | outgrown => exact lo h
   | _ => exact h1
 | halt v w2 =>
   cases v with
   | panic v => exact hR _ _ _ (by intro h; cases h) h1
   | _ => exact h1
theorem wpListIn_append {Fe : Fence} {n : Nat} {R R' : Exit → Act → World → Prop} (hN : ∀ a w, R .normal a w → wpListIn Fe n P ops R' l2 a w) (hR : ∀ e a w, e ≠ .normal → R e a w → R' e a w) : ∀ {l1 : List Oper} {a : Act} {w : World}, wpListIn Fe n P ops R l1 a w → wpListIn Fe n P ops R' (l1 ++ l2) a w
 | [], a, w, h => hN a w h
 | o :: l1, a, w, h => by
   simp only [wpListIn, List.cons_append] at h ⊢
   split
   ·rename_i hw
    rw [if_pos hw] at h
    exact oper_monoQ (fun a w h => wpListIn_append hN hR h) hR h
   ·rename_i hw
    rw [if_neg hw] at h
    exact ⟨h.1, wpListIn_append hN hR h.2⟩
theorem XRY.pre (n : Nat) (hJ : Stable J) (h : ∀ {L : List Deferred}, XR P fr ro ⟨h0, ro, some L⟩ ops (l.take n) st fun e st' => e = .normal ∧ XRY P fr ro h0 J ops (l.drop n) st' k Q) : XRY P fr ro h0 J ops l st k Q := by
 rintro R a w ⟨X, L, G, F, hx, hm, s, hj⟩
 have h1 := h (L := L) G F st.mem w G F a w .refl s
 have h2 := wpListIn_append (l2 := l.drop n) (R' := PostY P fr ro h0 J R Q) (fun a' w' ⟨G', F', st', s', S', _, hq⟩ => hq R a' w' (.step hJ hx hm hj s' (fun _ h => h) S')) (fun e a' w' he ⟨_, _, _, _, _, h, _⟩ => absurd h he) h1
 rwa [List.take_append_drop] at h2
theorem XRY.mono (h : XRY P fr ro h0 J ops l st k Q) (hq : ∀ e st k, Q e st k → Q' e st k) : XRY P fr ro h0 J ops l st k Q' := fun R a w i => by
 have h1 := h R a w i
 have := wpListIn_append (l2 := []) (R := PostY P fr ro h0 J R Q) (R' := PostY P fr ro h0 J R Q') (fun a' w' ⟨st', k', h1, h2⟩ => ⟨st', k', h1, hq _ _ _ h2⟩) (fun e a' w' _ ⟨st', k', h1, h2⟩ => ⟨st', k', h1, hq _ _ _ h2⟩) h1
 rwa [List.append_nil] at this
theorem XRY.lift (hJ : Stable J) (h : ∀ {L : List Deferred}, XR P fr ro ⟨h0, ro, some L⟩ ops l st fun e st' => e = .normal ∧ Q .normal st' k) : XRY P fr ro h0 J ops l st k Q :=
 .pre l.length hJ fun {L} => by
  rw [List.take_length, List.drop_length]
  intro G0 F0 M0 w0 G F a w S s
  have := h (L := L) G0 F0 M0 w0 G F a w S s
  have := wpListIn_append (l2 := []) (R := Post P fr ⟨h0, ro, some L⟩ G0 F0 M0 w0 fun e st' => e = .normal ∧ Q .normal st' k) (R' := Post P fr ⟨h0, ro, some L⟩ G0 F0 M0 w0 fun e st' => e = .normal ∧ XRY P fr ro h0 J ops [] st' k Q) (fun a' w' ⟨G', F', st', h1, h2, h3, h4⟩ => ⟨G', F', st', h1, h2, rfl, .nil h4⟩) (fun e a' w' he ⟨_, _, _, _, _, h3, _⟩ => absurd h3 he) this
  rwa [List.append_nil] at this
theorem XRY.yieldF {lp : Nat} {xs : List (List AV)} {n : Nat} {M1 : Mem} {ys : List AV} {callee : Operand} {args : Array Operand} {tys : Array TypeId} (hJ : Stable J) (hn : xs[n]? = some ys) (hy : Yields P J lp xs) (hg : o.guard = none) (hop : o.op = .call ⟨.value callee, args, tys⟩) (hd : dok fr o.dst = true)
  (hcal : od fr st true callee = .sc (yv lp)) (hz : ∀ G F nx w, SimM P G F st.mem nx w → ∃ F', SimM P G F' M1 nx w ∧ Step All G F st.mem w G F' M1 w ∧ AV.norefs ys = true ∧ ∀ us, RVs G F st.mem w us (bodyArgs fr st args) → Imms F' w us ys)
  (h : ∀ b : Bool, XRY P fr ro h0 J ops rest ((⟨st.vars, st.tmps, M1, st.nx + 1⟩ : St).put fr o.dst (.sc (.bool b))) (if b = true then some (n + 1) else none) Q) : XRY P fr ro h0 J ops (o :: rest) st (some n) Q := by
 rintro R a w ⟨X, L, G, F0, hx, hm, s0, hj⟩
 obtain ⟨hnl, hns⟩ := List.getElem?_eq_some_iff.1 hn
 obtain ⟨F, hm1, S1, hno, hi⟩ := hz G F0 st.nx w s0.sim.mem
 have s : SimA P fr ⟨h0, ro, some L⟩ G F ⟨st.vars, st.tmps, M1, st.nx⟩ a w := ⟨⟨hm1, fun k => (s0.sim.slots k).step S1 fun _ _ => trivial, s0.sim.size⟩, s0.fresh, s0.defers⟩
 have hi : Imms F w (args.toList.map a.eval) xs[n] := by
  rw [hns]
  refine hi _ ⟨by simp [bodyArgs], fun i h1 h2 => ?_⟩
  simp only [bodyArgs, List.getElem_map]
  exact (s0.eval _).unopt
 have hev : a.eval callee = yv lp := by
  have hv := (s0.eval callee).unopt
  have hv : RV G F0 st.mem w (a.eval callee) (.sc (yv lp)) := by unfold od at hcal; rwa [hcal] at hv
  exact hv.inv_sc
 have hx2 := hx.step (fun _ h => h) (S1.mono fun _ _ => trivial : Step (· < fr.base) G F0 st.mem w G F M1 w) s.sim.mem
 have hj2 : J (some n) F (OwnX G M1 X) w := hJ _ _ _ _ _ _ _ hj (itStep_of hx (S1.mono fun _ _ => trivial : Step (· < fr.base) G F0 st.mem w G F M1 w) s.sim.mem)
 clear hj hx s0
 refine wpListIn_plain hg fun K hK => ?_
 refine ⟨fun _ _ => trivial, ?_⟩
 have hsem : o.semAt (fc ro).round a.eval = execOp a.eval o := Oper.semAt_eq _ _ _ (by rw [hop]; intro c h; cases h)
 rw [hsem]
 obtain ⟨fn, tmps, assign, body, hrun, hround⟩ := hy n F (OwnX G M1 X) w _ hnl s.sim.mem.fok (fun b hb => hb.elim (fun hb => s.sim.mem.lt hb) (hx2.low b)) hi hj2
 have hrun' : (execOp a.eval o).run P w = .ok (.round lp fn tmps assign body) w := by
  obtain ⟨dst, op, ty, pos, after, guard⟩ := o
  simp only at hop
  subst hop
  have e : args.map a.eval = (args.toList.map a.eval).toArray := by apply Array.ext'; simp
  rw [← e] at hrun
  simp only [execOp, resolve, hev, yv, Deferred.ofValue, Sem.run_bind, Sem.run_pure, Result.andThen_ok, invoke]
  simpa using hrun
 rw [hrun', Oper.uponIn_round]
 refine ⟨fun h => by simp [fc, Fence.wide] at h, RoundIn.mono (roundIn_fc hround) ?_⟩
 rintro e w' ⟨F', E, h1⟩
 have hdl : a.defers = L := s.defers.2.2.1 L rfl
 have s1 := s.env (fun D hD => .inr (hm.1 D (by rw [← hdl]; exact hD))) (fun l0 hl => .inr (hm.2.1 l0 hl)) E fun _ h => .inl h
 have hput : ∀ b : Bool, SimA P fr ⟨h0, ro, some L⟩ G F' ((⟨st.vars, st.tmps, M1, st.nx + 1⟩ : St).put fr o.dst (.sc (.bool b))) (a.put o.dst (.bool b)) w' := fun b =>
  s1.step_put (st1 := ⟨st.vars, st.tmps, M1, st.nx + 1⟩) .refl (s1.sim.mem.more (Nat.le_succ _)) rfl rfl (fun j hj => s.fresh j (Nat.le_of_succ_le hj)) (dok_spec hd) (.imm (.sc _))
 have hx' := hx2.envs E fun b hb => .inr hb
 have fin : ∀ (b : Bool), J (if b = true then some (n + 1) else none) F' (OwnX G M1 X) w' → InY P fr ro h0 J R ((⟨st.vars, st.tmps, M1, st.nx + 1⟩ : St).put fr o.dst (.sc (.bool b))) (if b = true then some (n + 1) else none) (a.put o.dst (.bool b)) w' := fun b hj' =>
  ⟨X, L, G, F', by rw [St.put_mem]; exact hx', hm, hput b, by rw [St.put_mem]; exact hj'⟩
 rcases h1 with ⟨rfl, hj'⟩ | ⟨rfl, hj'⟩
 ·exact hK _ _ (h true _ _ _ (fin true hj'))
 ·exact hK _ _ (h false _ _ _ (fin false hj'))
def RY (P : Program) (fr : Fr) (h0 : Nat) (J : Env) (c : Code) (m : Nat) (st : St) (k : Option Nat) (Q : Exit → St → Option Nat → Prop) : Prop := ∀ R a w, InY P fr none h0 J R st k a w → Code.roundsIn (fc none) 0 P c (PostY P fr none h0 J R Q) m a w
theorem RY.to {m : Nat} (h : RY P fr h0 J c m st k Q) : EvY P fr none h0 J (.loop c) st k Q := fun R a w i => wpIn_loop_rounds m (h R a w i)
theorem RY.round {m : Nat} (h : EvY P fr none h0 J c st k (thenY (fun st' k' => RY P fr h0 J c m st' k' Q) Q)) : RY P fr h0 J c (m + 1) st k Q := fun R a w i => by
 rw [roundsIn_succ]
 refine wpIn_mono (h R a w i) fun e a' w' ⟨st', k', h1, h3⟩ => ?_
 cases e with
 | normal => exact h3 _ _ _ h1
 | _ => exact ⟨st', k', h1, h3⟩
theorem rounds_mono {Fe : Fence} {n : Nat} {R R' : Exit → Act → World → Prop} (hR : ∀ e a w, R e a w → R' e a w) : ∀ {m m' : Nat} {a : Act} {w : World}, m ≤ m' → Code.roundsIn Fe n P c R m a w → Code.roundsIn Fe n P c R' m' a w
 | 0, _, _, _, _, h => h.elim
 | m + 1, 0, _, _, hm, h => absurd hm (by omega)
 | m + 1, m' + 1, a, w, hm, h => by
   rw [roundsIn_succ] at h ⊢
   refine wpIn_mono h fun e a' w' h2 => ?_
   cases e with
   | normal => exact rounds_mono hR (by omega) h2
   | _ => exact hR _ _ _ h2
theorem RY.more {m m' : Nat} (hm : m ≤ m') (h : RY P fr h0 J c m st k Q) (hq : ∀ e st k, Q e st k → Q' e st k) : RY P fr h0 J c m' st k Q' := fun R a w i => rounds_mono (fun _ _ _ ⟨st', k', h1, h2⟩ => ⟨st', k', h1, hq _ _ _ h2⟩) hm (h R a w i)
def CTo (P : Program) (rg : Bool) (fr : Fr) (c : Code) (st : St) (e : Exit) (st' : St) : Prop := ∀ ro ds Q, ds.ro = ro → (rg = true → ro = none → ds.nm = none) → Q e st' → EvC P fr ro ds c st Q
def LTo (P : Program) (rg : Bool) (fr : Fr) (c : Code) (st : St) (e : Exit) (st' : St) : Prop := ∃ m, ∀ (ro : Option Nat) (ds : DS) (Q : Exit → St → Prop), ds.ro = ro → (rg = true → ro = none → ds.nm = none) → Q e st' → ∀ G0 F0 M0 w0 G F a w, Step (· < fr.base) G0 F0 M0 w0 G F st.mem w → SimA P fr ds G F st a w → Code.roundsIn (fc ro) 0 P c (Post P fr ds G0 F0 M0 w0 Q) m a w
theorem LTo.to {rg : Bool} {e : Exit} (h : LTo P rg fr c st e st') : CTo P rg fr (.loop c) st e st' := fun ro ds Q h1 h2 hq _ _ _ _ _ _ _ _ S s => by
 obtain ⟨m, hm⟩ := h
 exact wpIn_loop_rounds m (hm ro ds Q h1 h2 hq _ _ _ _ _ _ _ _ S s)
theorem LTo.next {rg : Bool} {e : Exit} {st1 : St} (h1 : CTo P rg fr c st .normal st1) (h : LTo P rg fr c st1 e st') : LTo P rg fr c st e st' := by
 obtain ⟨m, hm⟩ := h
 refine ⟨m + 1, fun ro ds Q e1 e2 hq G0 F0 M0 w0 G F a w S s => ?_⟩
 rw [roundsIn_succ]
 refine wpIn_mono (h1 ro ds (fun e' st2 => e' = .normal ∧ st2 = st1) e1 e2 ⟨rfl, rfl⟩ _ _ _ _ _ _ _ _ S s) ?_
 rintro e1 a1 w1 ⟨G', F', st2, h2, h3, rfl, rfl⟩
 exact hm ro ds Q ‹_› e2 hq _ _ _ _ _ _ _ _ h3 h2
theorem LTo.last {rg : Bool} {e : Exit} (h : CTo P rg fr c st e st') (he : e ≠ .normal) : LTo P rg fr c st e st' := by
 refine ⟨1, fun ro ds Q e1 e2 hq G0 F0 M0 w0 G F a w S s => ?_⟩
 rw [roundsIn_succ]
 refine wpIn_mono (h ro ds (fun e' st2 => e' = e ∧ st2 = st') e1 e2 ⟨rfl, rfl⟩ _ _ _ _ _ _ _ _ S s) ?_
 rintro e1 a1 w1 ⟨G', F', st2, h2, h3, rfl, rfl⟩
 cases e1 <;> first
  | exact ⟨_, _, _, h2, h3, hq⟩
  | exact (he rfl).elim
theorem CTo.yl {e : Exit} (hJ : Stable J) (h : CTo P false fr c st e st') (hq : Q e st' k) : EvY P fr ro h0 J c st k Q :=
 .lift hJ fun {L} => h ro ⟨h0, ro, some L⟩ (fun e st' => Q e st' k) rfl (fun h => by cases h) hq
theorem LTo.yl {e : Exit} (hJ : Stable J) (h : LTo P false fr c st e st') : ∃ m, ∀ h0 J k Q, Stable J → Q e st' k → RY P fr h0 J c m st k Q := by
 obtain ⟨m, hm⟩ := h
 refine ⟨m, fun h0 J k Q hJ hq R a w ⟨X, L, G, F, hx, hk, s, hj⟩ => ?_⟩
 exact rounds_mono (fun _ _ _ ⟨G', F', st', h1, h2, h3⟩ => ⟨st', k, .step hJ hx hk hj h1 (fun _ h => h) h2, h3⟩) (Nat.le_refl _) (hm none ⟨h0, none, some L⟩ (fun e st' => Q e st' k) rfl (fun h => by cases h) hq G F st.mem w G F a w .refl s)
end
end Go.Avl
