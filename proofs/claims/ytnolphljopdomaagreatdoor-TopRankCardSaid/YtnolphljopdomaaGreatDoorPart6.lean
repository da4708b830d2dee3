/-
  A concrete evaluator (definitions): states as trees of slots and objects.
  The concrete evaluator: trees, and what a state of trees says of an abstract state.
  The concrete evaluator: one operation is that of the abstract evaluation.
  The concrete evaluator: each operation is that of the abstract evaluation, but for those that yield plain values (Ev65).
  The concrete evaluator: the other operations; what yields plain values of strings stands aside.
  The concrete evaluator: maps, slices, builtins; one operation as a whole.
  The concrete evaluator: strings.
  What is left of a slice when its front is taken away: an object that begins later in its block.
  The concrete evaluator: one operation, as the calculus asks for it.
  From a law's row to its contract: arguments opened, and read again behind the call.
  Facts of the types, printed by a program of this claim's own.
-/
import Derived.Laws.Strings
import Derived.ProofKit
import Derived.OpenShut
import Derived.Test.YtnolphljopdomaaGreatDoorProg
import Derived.KernelRfl
import Derived.Test.YtnolphljopdomaaGreatDoorPart5
set_option linter.unusedSimpArgs false
set_option linter.unusedVariables false
set_option linter.unnecessarySimpa false
set_option linter.deprecated false
namespace Go.Avl
open Go
inductive T (α : Type) where
 | nil
 | nd (l : T α) (v : α) (r : T α)
noncomputable def T.get {α : Type} (d : α) (t : T α) : Nat → α := T.rec (motive := fun _ => Nat → α) (fun _ => d) (fun _ v _ gl gr i => bif Nat.beq i 0 then v else bif Nat.beq (Nat.land i 1) 1 then gl (Nat.div i 2) else gr (Nat.sub (Nat.div i 2) 1)) t
noncomputable def T.put {α : Type} (t : T α) (x : α) : Nat → T α := T.rec (motive := fun _ => Nat → T α) (fun _ => .nil) (fun l v r pl pr i => bif Nat.beq i 0 then .nd l x r else bif Nat.beq (Nat.land i 1) 1 then .nd (pl (Nat.div i 2)) v r else .nd l v (pr (Nat.sub (Nat.div i 2) 1))) t
noncomputable def T.mk {α : Type} (d : α) : Nat → T α := Nat.rec .nil (fun _ t => .nd t d t)
structure ES where
 tm : T AV
 mem : T (Option RObj)
 nx : Nat
inductive R where
 | val (v : AV)
 | new (v : AV) (o : RObj)
 | upd (v : AV) (i : Nat) (o : RObj)
 | key (v : AV) (i : Nat) (o : RObj)
def chk (b : Bool) (r : Option R) : Option R := match b with
 | true => r
 | false => none
def i64b (x : Int) : Bool := decide (-9223372036854775808 ≤ x) && decide (x ≤ 9223372036854775807)
def roomb (n bytes : Nat) : Bool := Nat.ble (n * (bytes + 1)) 35184372088832
noncomputable def opT (tm : T AV) : Operand → Option AV
 | .tmp t => match T.get .junk tm t with
   | .junk => none
   | .opt _ _ => none
   | v => some v
 | .const v => some (ofVal v)
 | .global g => match laidAt g with
   | some vs => some (.ia (vs.map AV.sc))
   | none => none
 | .func f => some (.fn f [])
section
variable (L : Nat → Option RObj)
def cellT : AV → Bool
 | .tl i n _ => match L i with
   | some (.arr _ es _) => Nat.beq n es.length
   | _ => false
 | .tv i n _ _ _ => match L i with
   | some (.arr _ es _) => Nat.beq n es.length
   | _ => false
 | v => v.cell1
def nilT : AV → Option (Nat × Bool)
 | .sl n _ _ => some (1, n)
 | .tl i n b => match L i with
   | some (.arr _ es _) => bif Nat.beq n es.length then some (1, b) else none
   | _ => none
 | .tv i n _ _ _ => match L i with
   | some (.arr _ es _) => bif Nat.beq n es.length then some (1, false) else none
   | _ => none
 | .sc .nilFunc => some (2, true)
 | .fn _ _ => some (2, false)
 | .sc (.pointer none) => some (3, true)
 | .rf _ _ => some (3, false)
 | _ => none
def elemsT : AV → Option (List (List AV))
 | .sl _ es _ => some es
 | .tl i n _ => match L i with
   | some (.arr _ es _) => bif Nat.beq n es.length then some es else none
   | _ => none
 | .tv i n off len _ => match L i with
   | some (.arr _ es _) => bif Nat.beq n es.length then some ((es.drop off).take len) else none
   | _ => none
 | _ => none
def snapT : AV → Option AV
 | .tl i n b => match L i with
   | some (.arr _ es true) => bif Nat.beq n es.length then some (.sl b es .unk) else some (.tl i n b)
   | some _ => some (.tl i n b)
   | none => none
 | .tv i n off len cap => match L i with
   | some (.arr _ es true) => bif Nat.beq n es.length then some (.sl false (tvEs es n off len) (tvCap len cap)) else some (.tv i n off len cap)
   | some _ => some (.tv i n off len cap)
   | none => none
 | v => some v
def viewT : AV → Option (Nat × Nat × Nat × Nat × Nat × Cp)
 | .tl i n _ => match L i with
   | some (.arr esz es _) => bif Nat.beq n es.length then some (i, esz, n, 0, n, .rest) else none
   | _ => none
 | .tv i n off len cap => match L i with
   | some (.arr esz es _) => bif Nat.beq n es.length then some (i, esz, n, off, len, cap) else none
   | _ => none
 | _ => none
def fillT (place : Nat → Option (Nat × Nat)) (cells : List AV) : List (Nat × AV) → Option (List AV)
 | [] => some cells
 | (i, v) :: r => match place i with
   | none => none
   | some (off, size) => bif Nat.beq (acells v).length size && Nat.ble (off + size) cells.length && (acells v).all (cellT L) then fillT place (awrite cells off (acells v)) r else none
def fillET (size : Nat) (es : List (List AV)) : List (Nat × AV) → Option (List (List AV))
 | [] => some es
 | (i, v) :: r => bif Nat.beq (acells v).length size && Nat.blt i es.length && (acells v).all (cellT L) then fillET size (es.set i (acells v)) r else none
end
def partsT (ev : Operand → Option AV) : List (Nat × Operand) → Option (List (Nat × AV))
 | [] => some []
 | (i, o) :: r => match ev o with
   | some v => match partsT ev r with
     | some l => some ((i, v) :: l)
     | none => none
   | none => none
def snapsT (L : Nat → Option RObj) : List (Nat × AV) → Option (List (Nat × AV))
 | [] => some []
 | (i, v) :: r => match snapT L v with
   | some u => match snapsT L r with
     | some l => some ((i, u) :: l)
     | none => none
   | none => none
def evs (ev : Operand → Option AV) : List Operand → Option (List AV)
 | [] => some []
 | o :: r => match ev o with
   | some v => match evs ev r with
     | some l => some (v :: l)
     | none => none
   | none => none
def intT (op : BinOp) (k : IntKind) (a b : Int) : Option R :=
 match op, k with
 | .add, .i64 => chk (i64b (a + b)) (some (.val (.sc (.int .i64 (a + b)))))
 | .sub, .i64 => chk (i64b (a - b)) (some (.val (.sc (.int .i64 (a - b)))))
 | .mul, .i64 => chk (i64b (a * b)) (some (.val (.sc (.int .i64 (a * b)))))
 | .add, k => some (.val (.sc (.int k (k.wrap (a + b)))))
 | .sub, k => some (.val (.sc (.int k (k.wrap (a - b)))))
 | .mul, k => some (.val (.sc (.int k (k.wrap (a * b)))))
 | .quo, .i64 => chk (decide (0 ≤ a) && decide (0 < b) && i64b (a / b)) (some (.val (.sc (.int .i64 (a / b)))))
 | .quo, k => chk (decide (0 ≤ a) && decide (0 < b)) (some (.val (.sc (.int k (k.wrap (a / b))))))
 | .rem, k => chk (decide (0 ≤ a) && decide (0 < b)) (some (.val (.sc (.int k (a % b)))))
 | .eql, _ => some (.val (.sc (.bool (decide (a = b)))))
 | .neq, _ => some (.val (.sc (.bool (!decide (a = b)))))
 | .lss, _ => some (.val (.sc (.bool (decide (a < b)))))
 | .leq, _ => some (.val (.sc (.bool (decide (a ≤ b)))))
 | .gtr, _ => some (.val (.sc (.bool (decide (b < a)))))
 | .geq, _ => some (.val (.sc (.bool (decide (b ≤ a)))))
 | .and, k => some (.val (.sc (.int k (bitsOf .and k a b))))
 | .or, k => some (.val (.sc (.int k (bitsOf .or k a b))))
 | _, _ => none
def strT (op : BinOp) (a b : ByteArray) : Option R :=
 match op with
 | .add => chk (Nat.ble (a.size + b.size) 1000000) (some (.val (.sc (.string ⟨⟨a.data.toList ++ b.data.toList⟩⟩))))
 | .eql => some (.val (.sc (.bool (a.data.toList == b.data.toList))))
 | .neq => some (.val (.sc (.bool (!(a.data.toList == b.data.toList)))))
 | .lss => some (.val (.sc (.bool (Go.Op.bytesLess a.data.toList b.data.toList))))
 | .leq => some (.val (.sc (.bool (Go.Op.bytesLess a.data.toList b.data.toList || a.data.toList == b.data.toList))))
 | .gtr => some (.val (.sc (.bool (!(Go.Op.bytesLess a.data.toList b.data.toList || a.data.toList == b.data.toList)))))
 | .geq => some (.val (.sc (.bool (!Go.Op.bytesLess a.data.toList b.data.toList))))
 | _ => none
def binT (P : Program) (L : Nat → Option RObj) (op : BinOp) (t : TypeId) (x y : AV) : Option R :=
 match nilT L x, nilT L y with
 | some a, some b => match nilEf P t op a b with
   | .val ok v => chk ok (some (.val v))
   | _ => none
 | _, _ => match x, y with
   | .sc (.int k a), .sc (.int k' b) => bif isShift op then chk (decide (0 ≤ b)) (some (.val (.sc (.int k (shiftOf op k a b.toNat))))) else if k = k' then intT op k a b else none
   | .sc (.bool a), .sc (.bool b) => match op with
     | .eql => chk (tbool P t) (some (.val (.sc (.bool (a == b)))))
     | .neq => chk (tbool P t) (some (.val (.sc (.bool (!(a == b))))))
     | _ => none
   | .sc (.string a), .sc (.string b) => strT op a b
   | .ag xs, .ag ys => match cellVals xs, cellVals ys with
     | some vs, some us => match eqKinds P t with
       | some ks => match op with
         | .eql => chk (matchKinds ks vs && matchKinds ks us) (some (.val (.sc (.bool (eqCells vs us)))))
         | .neq => chk (matchKinds ks vs && matchKinds ks us) (some (.val (.sc (.bool (!eqCells vs us)))))
         | _ => none
       | none => none
     | _, _ => none
   | _, _ => none
def appT (P : Program) (L : Nat → Option RObj) (id : Nat) (t : TypeId) (x : AV) (ys : List (List AV)) : Option R :=
 match telem P t with
 | none => none
 | some e => match tinfo P e with
   | none => none
   | some ti => match x with
     | .tl i n nl => match L i with
       | some (.arr esz es fz) => chk (Nat.beq n es.length && Nat.beq esz ti.size && Nat.beq ti.zero.length ti.size && roomb (es.length + ys.length) ti.bytes && (ys.all fun y => Nat.beq y.length esz) && (!fz || ys.all AV.norefs))
        (some (.upd (.tl i (es ++ ys).length (nl && ys.isEmpty)) i (.arr esz (es ++ ys) fz)))
       | _ => none
     | .tv i n 0 len (.val c) => match L i with
       | some (.arr esz es fz) => chk (!fz && Nat.beq n es.length && Nat.beq esz ti.size && Nat.beq ti.zero.length ti.size && Nat.ble (len + ys.length) c && Nat.ble c n && roomb (len + ys.length) ti.bytes && (ys.all fun y => Nat.beq y.length esz))
        (some (.upd (.tv i n 0 (len + ys.length) (.val c)) i (.arr esz (es.take len ++ (ys ++ es.drop (len + ys.length))) false)))
       | _ => none
     | .tv i n 0 len .rest => match L i with
       | some (.arr esz es fz) => bif Nat.beq len n then chk (!fz && !Nat.beq n 0 && Nat.beq n es.length && Nat.beq esz ti.size && Nat.beq ti.zero.length ti.size && roomb (es.length + ys.length) ti.bytes && (ys.all fun y => Nat.beq y.length esz))
         (some (.upd (.tv i (es ++ ys).length 0 (es ++ ys).length .rest) i (.arr esz (es ++ ys) false)))
         else chk (!fz && Nat.beq n es.length && Nat.beq esz ti.size && Nat.beq ti.zero.length ti.size && Nat.ble (len + ys.length) n && (ys.all fun y => Nat.beq y.length esz))
          (some (.upd (.tv i n 0 (len + ys.length) .rest) i (.arr esz (es.take len ++ (ys ++ es.drop (len + ys.length))) false)))
       | _ => none
     | .sl nl es .zer => chk (Nat.beq es.length 0 && Nat.beq ti.zero.length ti.size && roomb ys.length ti.bytes && ys.all fun y => Nat.beq y.length ti.size)
      (some (.new (.tl id ys.length (nl && ys.isEmpty)) (.arr ti.size ys false)))
     | .sl nl es .full => chk (!ys.isEmpty && roomb (es.length + ys.length) ti.bytes && Nat.beq ti.zero.length ti.size && (ys.all fun y => Nat.beq y.length ti.size) && (es.all fun y => Nat.beq y.length ti.size))
      (some (.new (.tl id (es ++ ys).length false) (.arr ti.size (es ++ ys) false)))
     | _ => none
def efT : Ef → Option R
 | .val ok v => chk ok (some (.val v))
 | .new ok v o => chk ok (some (.new v o))
 | .upd ok v i o => chk ok (some (.upd v i o))
 | _ => none
def restT (L : Nat → Option RObj) (id sz : Nat) : AV → Option Int → Option Int → Option Int → Option R
 | .tl i n nl, some a, none, none => match L i with
   | some (.arr esz es fz) => chk (!fz && Nat.beq n es.length && Nat.beq esz sz && decide (0 ≤ a) && Nat.beq a.toNat es.length && !Nat.beq n 0) (some (.key (.tl id 0 false) i (.arr esz [] false)))
   | _ => none
 | _, _, _, _ => none
def bndT (ev : Operand → Option AV) : Option Operand → Option (Option Int)
 | none => some none
 | some o => match ev o with
   | some (.sc (.int _ i)) => some (some i)
   | _ => none
noncomputable def xopT (P : Program) (ev : Operand → Option AV) (L : Nat → Option RObj) (id : Nat) (o : Oper) : Option R :=
 match o.op with
 | .move x => match ev x with
   | some v => some (.val v)
   | none => none
 | .assign x => match ev x with
   | some v => some (.val v)
   | none => none
 | .pick c a b => match ev c with
   | some (.sc (.bool true)) => match ev a with
     | some v => some (.val v)
     | none => none
   | some (.sc (.bool false)) => match ev b with
     | some v => some (.val v)
     | none => none
   | _ => none
 | .alloc t => match tinfo P t with
   | some ti => some (.new (.rf id 0) (.cells (zeroOf ti)))
   | none => none
 | .box _ x => match ev x with
   | some v => chk ((acells v).all (cellT L)) (some (.new (.rf id 0) (.cells (acells v))))
   | none => none
 | .build t parts => match tinfo P t, partsT ev parts.toList with
   | some ti, some ps => match fillT L (placeOf P t) (zeroOf ti) ps with
     | some cs => chk (tbuild P t) (some (.val (.ag cs)))
     | none => none
   | _, _ => none
 | .buildSlice t n parts => match telem P t, partsT ev parts.toList with
   | some e, some qs => match tinfo P e, snapsT L qs with
     | some ti, some ps => match fillET L ti.size (List.replicate n (zeroOf ti)) ps with
       | some es => chk (o.dst.isSome && Nat.ble (n * ti.size) 16777216 && Nat.beq ti.zero.length ti.size) (some (.new (.tl id n false) (.arr ti.size es false)))
       | none => none
     | _, _ => none
   | _, _ => none
 | .load t x => match tinfo P t with
   | some ti => match ev x with
     | some (.rf i off) => match L i with
       | some (.cells cs) => chk (Nat.ble (off + ti.size) cs.length && (ti.agg || Nat.beq ti.size 1)) (some (.val (mkv ti.agg ((cs.drop off).take ti.size))))
       | _ => none
     | some (.ia cs) => chk (Nat.ble ti.size cs.length && (ti.agg || Nat.beq ti.size 1)) (some (.val (mkv ti.agg (cs.take ti.size))))
     | some (.ea i n k off) => match L i with
       | some (.arr _ es _) => match es[k]? with
         | some c => chk (Nat.beq n es.length && Nat.ble (off + ti.size) c.length && (ti.agg || Nat.beq ti.size 1)) (some (.val (mkv ti.agg ((c.drop off).take ti.size))))
         | none => none
       | _ => none
     | _ => none
   | none => none
 | .store t a x => match tinfo P t, ev x with
   | some ti, some v => match ev a with
     | some (.rf i off) => match L i with
       | some (.cells cs) => chk (Nat.beq (acells v).length ti.size && Nat.ble (off + ti.size) cs.length && (acells v).all (cellT L)) (some (.upd .junk i (.cells (awrite cs off (acells v)))))
       | _ => none
     | some (.ea i n k off) => match L i, snapT L v with
       | some (.arr esz es fz), some u => match es[k]? with
         | some c => chk (!fz && Nat.beq n es.length && Nat.beq (acells u).length ti.size && Nat.ble (off + ti.size) c.length && (acells u).all (cellT L)) (some (.upd .junk i (.arr esz (es.set k (awrite c off (acells u))) fz)))
         | none => none
       | _, _ => none
     | _ => none
   | _, _ => none
 | .nilCheck x => match ev x with
   | some (.rf i off) => some (.val (.rf i off))
   | some (.ia cs) => some (.val (.ia cs))
   | some (.ea i n k off) => match L i with
     | some (.arr _ es _) => chk (Nat.beq n es.length) (some (.val (.ea i n k off)))
     | _ => none
   | _ => none
 | .fieldAddr t x f => match tfield P t f with
   | some (off, ft) => match ev x with
     | some (.rf i o) => chk (!Nat.beq (P.cellsOf ft) 0) (some (.val (.rf i (o + off))))
     | some (.ia cs) => chk (!Nat.beq (P.cellsOf ft) 0) (some (.val (.ia (cs.drop off))))
     | some (.ea i n k o) => match L i with
       | some (.arr _ es _) => chk (!Nat.beq (P.cellsOf ft) 0 && Nat.beq n es.length) (some (.val (.ea i n k (o + off))))
       | _ => none
     | _ => none
   | none => none
 | .field t x f => match tfield P t f with
   | some (off, ft) => match tinfo P ft, ev x with
     | some ti, some (.ag cs) => chk (Nat.ble (off + ti.size) cs.length && (ti.agg || Nat.beq ti.size 1)) (some (.val (mkv ti.agg ((cs.drop off).take ti.size))))
     | _, _ => none
   | none => none
 | .indexAddr t x ix => match ev ix with
   | some (.sc (.int _ i)) => match telem P t with
     | some e => match tinf P e, ev x with
       | true, some (.sl _ es _) => match es[i.toNat]? with
         | some c => chk (decide (0 ≤ i) && Nat.beq c.length (P.cellsOf e)) (some (.val (.ia c)))
         | none => none
       | true, some (.tl k n _) => match L k with
         | some (.arr esz es _) => chk (decide (0 ≤ i) && Nat.blt i.toNat es.length && Nat.beq n es.length && Nat.beq esz (P.cellsOf e)) (some (.val (.ea k n i.toNat 0)))
         | _ => none
       | true, some (.tv k n off len _) => match L k with
         | some (.arr esz es _) => chk (decide (0 ≤ i) && Nat.blt i.toNat len && Nat.beq n es.length && Nat.beq esz (P.cellsOf e)) (some (.val (.ea k n (off + i.toNat) 0)))
         | _ => none
       | _, _ => none
     | none => match tarr P t with
       | some (n, e) => match tinf P e, ev x with
         | true, some (.rf k off) => chk (decide (0 ≤ i) && Nat.blt i.toNat n) (some (.val (.rf k (off + i.toNat * P.cellsOf e))))
         | true, some (.ia cs) => chk (decide (0 ≤ i) && Nat.blt i.toNat n) (some (.val (.ia (cs.drop (i.toNat * P.cellsOf e)))))
         | true, some (.ea k m j off) => match L k with
           | some (.arr _ es _) => chk (decide (0 ≤ i) && Nat.blt i.toNat n && Nat.beq m es.length) (some (.val (.ea k m j (off + i.toNat * P.cellsOf e))))
           | _ => none
         | _, _ => none
       | none => none
   | _ => none
 | .index t x ix => match ev ix, ev x with
   | some (.sc (.int _ i)), some (.sc (.string s)) => match s.data.toList[i.toNat]? with
     | some b => chk (tstr P t && decide (0 ≤ i)) (some (.val (.sc (.int .u8 b.toNat))))
     | none => none
   | some (.sc (.int _ i)), some (.ag cs) => match tarr P t with
     | some (n, e) => match tinfo P e with
       | some ti => chk (decide (0 ≤ i) && Nat.blt i.toNat n && Nat.ble (i.toNat * ti.size + ti.size) cs.length && (ti.agg || Nat.beq ti.size 1)) (some (.val (mkv ti.agg ((cs.drop (i.toNat * ti.size)).take ti.size))))
       | none => none
     | none => none
   | _, _ => none
 | .binOp op t x y _ => match ev x, ev y with
   | some a, some b => binT P L op t a b
   | _, _ => none
 | .unOp op _ x => match op, ev x with
   | .not, some (.sc (.bool b)) => some (.val (.sc (.bool (!b))))
   | .neg, some (.sc (.int .i64 n)) => chk (i64b (-n)) (some (.val (.sc (.int .i64 (-n)))))
   | _, _ => none
 | .convert s d x => match tknown P s, tint P d, ev x with
   | true, some .i64, some (.sc (.int _ n)) => chk (i64b n) (some (.val (.sc (.int .i64 n))))
   | true, some k, some (.sc (.int _ n)) => some (.val (.sc (.int k (k.wrap n))))
   | _, _, _ => none
 | .makeFunc fn first caps => match fn, first.toList, evs ev caps.toList with
   | .func f, [], some vs => bif Nat.blt f 1000000 then some (.val (.fn f vs)) else none
   | .func f, _ :: _, _ => bif Nat.beq caps.size 0 then match evs ev first.toList with
     | some vs => some (.val (.fn (f + 1000000) vs))
     | none => none
     else none
   | _, _, _ => none
 | .makeMap t r => match tmap P t, r with
   | some (k, _), none => some (.new (.mp id) (.map k []))
   | some (k, _), some x => match ev x with
     | some (.sc (.int _ _)) => some (.new (.mp id) (.map k []))
     | _ => none
   | none, _ => none
 | .makeSlice t l c => match telem P t with
   | some e => match tinfo P e, ev l, ev c with
     | some ti, some (.sc (.int .i64 n)), some (.sc (.int .i64 m)) => chk (o.dst.isSome && decide (0 ≤ n) && decide (n ≤ m) && roomb m.toNat ti.bytes && Nat.beq ti.zero.length ti.size) (some (.new (.tv id m.toNat 0 n.toNat (.val m.toNat)) (.arr ti.size (List.replicate m.toNat (zeroOf ti)) false)))
     | _, _, _ => none
   | none => none
 | .slice t x lo hi mx => match bndT ev lo, bndT ev hi, bndT ev mx, ev x with
   | some a, some b, some c, some v => match telem P t with
     | some e => match tinf P e with
       | true => match snapT L v with
         | some u => match viewT L u with
           | some (i, esz, n, off, len, cap) => match restT L id (P.cellsOf e) u a b c with
             | some r => some r
             | none => efT (sliceV (P.cellsOf e) i esz n off len cap a b c)
           | none => efT (sliceEf (P.cellsOf e) u a b c)
         | none => none
       | false => none
     | none => match tstr P t, v, c with
       | true, .sc (.string s), none => chk (decide (0 ≤ a.getD 0) && decide (a.getD 0 ≤ b.getD s.size) && decide (b.getD s.size ≤ s.size)) (some (.val (.sc (.string ⟨⟨(s.data.toList.drop (a.getD 0).toNat).take ((b.getD s.size).toNat - (a.getD 0).toNat)⟩⟩))))
       | _, _, _ => none
   | _, _, _, _ => none
 | .lookup t m k ok => match tmap P t, ev k, ev m with
   | some (kt, et), some kv, some (.mp i) => match toVal kv, L i, tinfo P et with
     | some kv, some (.map kt' es), some ti => match elook es kv with
       | some v => chk (Nat.beq kt kt' && isKey P kt kv) (some (.val (bif ok then .tu [v, .sc (.bool true)] else v)))
       | none => chk (Nat.beq kt kt' && isKey P kt kv) (some (.val (bif ok then .tu [mkv ti.agg (zeroOf ti), .sc (.bool false)] else mkv ti.agg (zeroOf ti))))
     | _, _, _ => none
   | _, _, _ => none
 | .mapUpdate t m k x => match tmap P t, ev k, ev m, ev x with
   | some (kt, _), some kv, some (.mp i), some v => match toVal kv, L i with
     | some kv, some (.map kt' es) => chk (Nat.beq kt kt' && isKey P kt kv) (some (.upd .junk i (.map kt' (eset es kv v))))
     | _, _ => none
   | _, _, _, _ => none
 | .insert t m k x => match tmap P t, ev k, ev m, ev x with
   | some (kt, _), some kv, some (.mp i), some v => match toVal kv, L i with
     | some kv, some (.map kt' es) => chk (Nat.beq kt kt' && isKey P kt kv) (some (.upd .junk i (.map kt' (eset es kv v))))
     | _, _ => none
   | _, _, _, _ => none
 | .extract x i => match ev x with
   | some (.tu vs) => match vs[i]? with
     | some v => some (.val v)
     | none => none
   | _ => none
 | .call c => match c.callee, c.args.toList, c.argTypes.toList with
   | .builtin .len, [x], [t] => match ev x with
     | some v => match telem P t with
       | some _ => match elemsT L v with
         | some es => some (.val (.sc (.int .i64 es.length)))
         | none => none
       | none => match v with
         | .sc (.string s) => chk (tstr P t) (some (.val (.sc (.int .i64 s.size))))
         | .mp i => match L i, tmap P t with
           | some (.map _ es), some _ => some (.val (.sc (.int .i64 es.length)))
           | _, _ => none
         | _ => none
     | none => none
   | .builtin .cap, [x], [t] => match telem P t, ev x with
     | some _, some (.sl _ es .full) => some (.val (.sc (.int .i64 es.length)))
     | some _, some (.sl _ _ .zer) => some (.val (.sc (.int .i64 0)))
     | some _, some (.sl _ _ (.val c)) => some (.val (.sc (.int .i64 c)))
     | some _, some (.tv i n _ _ (.val c)) => match L i with
       | some (.arr _ es _) => chk (Nat.beq n es.length) (some (.val (.sc (.int .i64 c))))
       | _ => none
     | _, _ => none
   | .builtin .append, [x, y], [t, t'] => match telem P t', ev x, ev y with
     | some _, some a, some b => match elemsT L b with
       | some ys => bif o.dst.isSome then appT P L id t a ys else none
       | none => none
     | none, some (.sl nl es .zer), some (.sc (.int _ n)) => match tint P t', telem P t with
       | some _, some e => match tinfo P e with
         | some ti => chk (Nat.beq es.length 0 && decide (0 < n) && roomb n.toNat ti.bytes && Nat.beq ti.zero.length ti.size && Nat.blt 0 ti.size) (some (.new (.tl id n.toNat false) (.arr ti.size (List.replicate n.toNat (zeroOf ti)) false)))
         | none => none
       | _, _ => none
     | _, _, _ => none
   | .builtin .copy, [x, y], [t, _] => match telem P t, ev x, ev y with
     | some e, some a, some b => match tinfo P e, viewT L a, elemsT L b with
       | some ti, some (i, esz, n, off, len, _), some ys => match L i with
         | some (.arr _ es fz) => chk (!fz && Nat.beq esz ti.size && !Nat.beq n 0 && (ys.all fun y => Nat.beq y.length esz) && ys.all AV.norefs) (some (.upd (.sc (.int .i64 (min ys.length len : Nat))) i (.arr esz (es.take off ++ (ys.take (min ys.length len) ++ es.drop (off + min ys.length len))) false)))
         | _ => none
       | _, _, _ => none
     | _, _, _ => none
   | .builtin .min, [x, y], [_, _] => match ev x, ev y with
     | some (.sc (.int k a)), some (.sc (.int k' b)) => if k = k' then some (.val (.sc (.int k (if a ≤ b then a else b)))) else none
     | _, _ => none
   | .builtin .max, [x, y], [_, _] => match ev x, ev y with
     | some (.sc (.int k a)), some (.sc (.int k' b)) => if k = k' then some (.val (.sc (.int k (if a ≤ b then b else a)))) else none
     | _, _ => none
   | _, _, _ => none
 | _ => none
noncomputable def ES.put (s : ES) (d : Option Nat) (v : AV) : ES := match d with
 | some d => ⟨T.put s.tm v d, s.mem, s.nx⟩
 | none => s
noncomputable def ES.eff (s : ES) (d : Option Nat) : R → ES
 | .val v => (⟨s.tm, s.mem, Nat.add s.nx 1⟩ : ES).put d v
 | .new v o => (⟨s.tm, T.put s.mem (some o) s.nx, Nat.add s.nx 1⟩ : ES).put d v
 | .upd v i o => (⟨s.tm, T.put s.mem (some o) i, Nat.add s.nx 1⟩ : ES).put d v
 | .key v i o => (⟨s.tm, T.put (T.put s.mem none i) (some o) s.nx, Nat.add s.nx 1⟩ : ES).put d v
theorem beq_dec (a b : Nat) : Nat.beq a b = decide (a = b) := by rw [Bool.eq_iff_iff, Nat.beq_eq, decide_eq_true_eq]
theorem T.get_nd {α : Type} (d : α) (l : T α) (v : α) (r : T α) (i : Nat) : T.get d (.nd l v r) i = if i = 0 then v else if i % 2 = 1 then T.get d l (i / 2) else T.get d r (i / 2 - 1) := by
 show (bif Nat.beq i 0 then v else bif Nat.beq (Nat.land i 1) 1 then T.get d l (Nat.div i 2) else T.get d r (Nat.sub (Nat.div i 2) 1)) = _
 have e : Nat.land i 1 = i % 2 := Nat.and_one_is_mod i
 rw [e]
 by_cases h : i = 0
 ·subst h; rfl
 ·rw [if_neg h, show Nat.beq i 0 = false from by rw [beq_dec]; exact decide_eq_false h]
  by_cases h2 : i % 2 = 1
  ·rw [if_pos h2, h2]; rfl
  ·rw [if_neg h2, show Nat.beq (i % 2) 1 = false from by rw [beq_dec]; exact decide_eq_false h2]; rfl
theorem T.put_nd {α : Type} (l : T α) (v : α) (r : T α) (x : α) (i : Nat) : T.put (.nd l v r) x i = if i = 0 then .nd l x r else if i % 2 = 1 then .nd (T.put l x (i / 2)) v r else .nd l v (T.put r x (i / 2 - 1)) := by
 show (bif Nat.beq i 0 then T.nd l x r else bif Nat.beq (Nat.land i 1) 1 then T.nd (T.put l x (Nat.div i 2)) v r else T.nd l v (T.put r x (Nat.sub (Nat.div i 2) 1))) = _
 have e : Nat.land i 1 = i % 2 := Nat.and_one_is_mod i
 rw [e]
 by_cases h : i = 0
 ·subst h; rfl
 ·rw [if_neg h, show Nat.beq i 0 = false from by rw [beq_dec]; exact decide_eq_false h]
  by_cases h2 : i % 2 = 1
  ·rw [if_pos h2, h2]; rfl
  ·rw [if_neg h2, show Nat.beq (i % 2) 1 = false from by rw [beq_dec]; exact decide_eq_false h2]; rfl
theorem T.get_put {α : Type} (d x : α) : ∀ (t : T α) (i j : Nat), T.get d (T.put t x i) j = d ∨ T.get d (T.put t x i) j = if j = i then x else T.get d t j
 | .nil, _, _ => .inl rfl
 | .nd l v r, i, j => by
   rw [T.put_nd]
   by_cases hi : i = 0
   ·rw [if_pos hi, T.get_nd, T.get_nd]
    by_cases hj : j = 0
    ·right; rw [if_pos hj, if_pos (by omega)]
    ·right; rw [if_neg hj, if_neg hj, if_neg (show ¬ j = i by omega)]
   ·rw [if_neg hi]
    by_cases h2 : i % 2 = 1
    ·rw [if_pos h2, T.get_nd, T.get_nd]
     by_cases hj : j = 0
     ·right; rw [if_pos hj, if_neg (by omega), if_pos hj]
     ·rw [if_neg hj, if_neg hj]
      by_cases hj2 : j % 2 = 1
      ·rw [if_pos hj2, if_pos hj2]
       rcases T.get_put d x l (i / 2) (j / 2) with h | h
       ·exact .inl h
       ·right; rw [h]
        by_cases hij : j = i
        ·rw [if_pos hij, if_pos (by omega)]
        ·rw [if_neg hij, if_neg (by omega)]
      ·right; rw [if_neg hj2, if_neg hj2, if_neg (by omega)]
    ·rw [if_neg h2, T.get_nd, T.get_nd]
     by_cases hj : j = 0
     ·right; rw [if_pos hj, if_neg (by omega), if_pos hj]
     ·rw [if_neg hj, if_neg hj]
      by_cases hj2 : j % 2 = 1
      ·right; rw [if_pos hj2, if_pos hj2, if_neg (by omega)]
      ·rw [if_neg hj2, if_neg hj2]
       rcases T.get_put d x r (i / 2 - 1) (j / 2 - 1) with h | h
       ·exact .inl h
       ·right; rw [h]
        by_cases hij : j = i
        ·rw [if_pos hij, if_pos (by omega)]
        ·rw [if_neg hij, if_neg (by omega)]
structure Abs (fr : Fr) (s : ES) (st : St) : Prop where
 tmps : st.tmps = []
 slot : ∀ k, T.get .junk s.tm k = .junk ∨ st.get fr k = T.get .junk s.tm k
 mem : ∀ i, T.get none s.mem i = none ∨ mlook st.mem i = T.get none s.mem i
 nx : s.nx = st.nx
def allF (base sz : Nat) : Fr := ⟨base, sz, List.range sz, sz⟩
theorem allF_isG {base sz k : Nat} (h : k < sz) : (allF base sz).isG k = true := by simp [Fr.isG, allF, h]
theorem allF_own {base sz : Nat} {d : Option Nat} (h : dok (allF base sz) d = true) (hd : d.isSome = true) : ownSlot (allF base sz) d = true := by
 cases d with
 | none => cases hd
 | some d => have hlt : d < sz := of_decide_eq_true h
             simp [ownSlot, allF, hlt]
section
variable {base sz : Nat} {s : ES} {st : St}
theorem Abs.clr (h : Abs (allF base sz) s st) : st.clr = st := by
 cases st; have := h.tmps; simp only at this; subst this; rfl
theorem Abs.look (h : Abs (allF base sz) s st) {i : Nat} {o : RObj} (he : T.get none s.mem i = some o) : mlook st.mem i = some o := by
 rcases h.mem i with h | h
 ·rw [h] at he; cases he
 ·rw [h, he]
theorem Abs.op (h : Abs (allF base sz) s st) {x : Operand} {v : AV} (he : opT s.tm x = some v) : opnd (allF base sz) st x = v := by
 cases x with
 | tmp t =>
   simp only [opT] at he
   rcases h.slot t with hs | hs
   ·rw [hs] at he; cases he
   ·rw [opnd, hs]
    split at he
    ·cases he
    ·cases he
    ·exact Option.some.inj he
 | const v => exact Option.some.inj he
 | global g =>
   simp only [opT] at he
   simp only [opnd]
   split at he
   ·rename_i vs hv; rw [hv]; exact Option.some.inj he
   ·cases he
 | func f => exact Option.some.inj he
theorem Abs.put (h : Abs (allF base sz) s st) {d : Option Nat} (hd : dok (allF base sz) d = true) (v : AV) : Abs (allF base sz) (s.put d v) (st.put (allF base sz) d v) := by
 cases d with
 | none => exact h
 | some d =>
   have hlt : d < sz := of_decide_eq_true hd
   refine ⟨?_, fun k => ?_, ?_, ?_⟩
   ·simp only [St.put, allF_isG hlt, if_true]; exact h.tmps
   ·show T.get .junk (T.put s.tm v d) k = .junk ∨ _ = T.get .junk (T.put s.tm v d) k
    rcases T.get_put .junk v s.tm d k with hp | hp
    ·exact .inl hp
    ·rw [hp, St.get_put]
     by_cases hk : k = d
     ·rw [if_pos hk, if_pos hk]; exact .inr rfl
     ·rw [if_neg hk, if_neg hk]; exact h.slot k
   ·intro i; rw [St.put_mem]; exact h.mem i
   ·rw [St.put_nx]; exact h.nx
end
def EfR : Ef → R → Prop
 | .val b v, .val u => b = true ∧ v = u
 | .new b v o, .new u p => b = true ∧ v = u ∧ o = p
 | .upd b v i o, .upd u j p => b = true ∧ v = u ∧ i = j ∧ o = p
 | _, _ => False
theorem chk_inv {b : Bool} {r : Option R} {x : R} (h : chk b r = some x) : b = true ∧ r = some x := by
 cases b
 ·cases h
 ·exact ⟨rfl, h⟩
theorem ble_dec (a b : Nat) : Nat.ble a b = decide (a ≤ b) := by rw [Bool.eq_iff_iff, Nat.ble_eq, decide_eq_true_eq]
theorem blt_dec (a b : Nat) : Nat.blt a b = decide (a < b) := by rw [Nat.blt, ble_dec]; rfl
theorem i64b_eq (x : Int) : i64b x = inI64 x := (inI64_eq x).symm
theorem roomb_eq (n b : Nat) : roomb n b = room n b := by rw [room_eq, roomb, ble_dec]
section
variable {P : Program} {fr : Fr} {st : St} {ev : Operand → Option AV} {L : Nat → Option RObj}
def EvOk (fr : Fr) (st : St) (ev : Operand → Option AV) : Prop := ∀ x, ev x = none ∨ ev x = some (od fr st true x)
def LOk (st : St) (L : Nat → Option RObj) : Prop := ∀ i, L i = none ∨ L i = mlook st.mem i
theorem cellT_ok (hL : LOk st L) : ∀ {v : AV}, cellT L v = true → acell st.mem v = true
 | .tl i n _, h => by
   simp only [cellT] at h
   rcases hL i with hi | hi <;> rw [hi] at h
   ·cases h
   ·simp only [acell]; split at h
    ·rename_i hm; rw [hm]; rw [beq_dec] at h; exact h
    ·cases h
 | .tv i n _ _ _, h => by
   simp only [cellT] at h
   rcases hL i with hi | hi <;> rw [hi] at h
   ·cases h
   ·simp only [acell]; split at h
    ·rename_i hm; rw [hm]; rw [beq_dec] at h; exact h
    ·cases h
 | .sc _, h => h
 | .ag _, h => h
 | .tu _, h => h
 | .sl _ _ _, h => h
 | .ia _, h => h
 | .rf _ _, h => h
 | .ea _ _ _ _, h => h
 | .mp _, h => h
 | .fn _ _, h => h
 | .ifc _ _, h => h
 | .yl _, h => h
 | .opt _ _, h => h
 | .junk, h => h
theorem cellTs_ok (hL : LOk st L) {l : List AV} (h : l.all (cellT L) = true) : l.all (acell st.mem) = true := by
 rw [List.all_eq_true] at h ⊢
 exact fun x hx => cellT_ok hL (h x hx)
theorem elemsT_ok (hL : LOk st L) {v : AV} {es : List (List AV)} (h : elemsT L v = some es) : elemsOf st.mem v = some es := by
 unfold elemsT at h
 split at h
 ·exact h
 ·rename_i i n _
  rcases hL i with hi | hi <;> rw [hi] at h
  ·cases h
  ·split at h
   ·rename_i hm; simp only [elemsOf, hm]
    rw [beq_dec] at h
    by_cases hn : n = (by assumption : List (List AV)).length
    ·rw [decide_eq_true hn] at h; rw [if_pos hn]; exact h
    ·rw [decide_eq_false hn] at h; cases h
   ·cases h
 ·rename_i i n off len _
  rcases hL i with hi | hi <;> rw [hi] at h
  ·cases h
  ·split at h
   ·rename_i hm; simp only [elemsOf, hm]
    rw [beq_dec] at h
    by_cases hn : n = (by assumption : List (List AV)).length
    ·rw [decide_eq_true hn] at h; rw [if_pos hn]; exact h
    ·rw [decide_eq_false hn] at h; cases h
   ·cases h
 ·cases h
theorem bif_inv {α : Type} {p : Prop} [Decidable p] {a b : α} : (bif decide p then a else b) = if p then a else b := by
 by_cases h : p
 ·rw [decide_eq_true h, if_pos h]; rfl
 ·rw [decide_eq_false h, if_neg h]; rfl
theorem snapT_ok (hL : LOk st L) {v u : AV} (h : snapT L v = some u) : snap st.mem v = u := by
 unfold snapT at h
 split at h
 ·rename_i i n b
  rcases hL i with hi | hi <;> rw [hi] at h
  ·cases h
  ·simp only [snap]
   split at h
   ·rename_i hm; simp only [hm]; rw [beq_dec, bif_inv] at h
    split at h <;> rename_i hn <;> cases h
    ·rw [if_pos hn]
    ·rw [if_neg hn]
   ·rename_i hm hne; cases h; rw [hne]
    split
    ·rename_i hx; cases hx; exact (hm _ _ rfl).elim
    ·rfl
   ·cases h
 ·rename_i i n off len cap
  rcases hL i with hi | hi <;> rw [hi] at h
  ·cases h
  ·simp only [snap]
   split at h
   ·rename_i hm; simp only [hm]; rw [beq_dec, bif_inv] at h
    split at h <;> rename_i hn <;> cases h
    ·rw [if_pos hn]
    ·rw [if_neg hn]
   ·rename_i hm hne; cases h; rw [hne]
    split
    ·rename_i hx; cases hx; exact (hm _ _ rfl).elim
    ·rfl
   ·cases h
 ·cases h
  unfold snap
  split
  ·rename_i h1 _; exact (h1 _ _ _ rfl).elim
  ·rename_i _ h1; exact (h1 _ _ _ _ _ rfl).elim
  ·rfl
theorem viewT_ok (hL : LOk st L) {v : AV} {x} (h : viewT L v = some x) : viewOf st.mem v = some x := by
 unfold viewT at h
 split at h
 ·rename_i i n b
  rcases hL i with hi | hi <;> rw [hi] at h
  ·cases h
  ·simp only [viewOf]
   split at h
   ·rename_i hm; simp only [hm]; rw [beq_dec, bif_inv] at h; exact h
   ·cases h
 ·rename_i i n off len cap
  rcases hL i with hi | hi <;> rw [hi] at h
  ·cases h
  ·simp only [viewOf]
   split at h
   ·rename_i hm; simp only [hm]; rw [beq_dec, bif_inv] at h; exact h
   ·cases h
 ·cases h
theorem nilT_ok (hL : LOk st L) {v : AV} {x} (h : nilT L v = some x) : nilOf st.mem v = some x := by
 unfold nilT at h
 split at h
 ·exact h
 ·rename_i i n b
  rcases hL i with hi | hi <;> rw [hi] at h
  ·cases h
  ·simp only [nilOf]
   split at h
   ·rename_i hm; simp only [hm]; rw [beq_dec, bif_inv] at h; exact h
   ·cases h
 ·rename_i i n _ _ _
  rcases hL i with hi | hi <;> rw [hi] at h
  ·cases h
  ·simp only [nilOf]
   split at h
   ·rename_i hm; simp only [hm]; rw [beq_dec, bif_inv] at h; exact h
   ·cases h
 ·exact h
 ·exact h
 ·exact h
 ·exact h
 ·cases h
theorem fillT_ok (hL : LOk st L) {place : Nat → Option (Nat × Nat)} : ∀ {l : List (Nat × AV)} {cells cs : List AV}, fillT L place cells l = some cs → fillAV st.mem place cells l = some cs
 | [], _, _, h => h
 | (i, v) :: r, cells, cs, h => by
   simp only [fillT] at h
   simp only [fillAV]
   split at h
   ·cases h
   ·rename_i off size hp
    simp only [hp]
    generalize hb : (Nat.beq (acells v).length size && Nat.ble (off + size) cells.length && (acells v).all (cellT L)) = b at h
    cases b
    ·cases h
    ·simp only [Bool.and_eq_true, beq_dec, ble_dec, decide_eq_true_eq] at hb
     rw [if_pos ⟨hb.1.1, hb.1.2, cellTs_ok hL hb.2⟩]
     exact fillT_ok hL h
theorem fillET_ok (hL : LOk st L) {size : Nat} : ∀ {l : List (Nat × AV)} {es cs : List (List AV)}, fillET L size es l = some cs → fillEs st.mem size es l = some cs
 | [], _, _, h => h
 | (i, v) :: r, es, cs, h => by
   simp only [fillET] at h
   simp only [fillEs]
   generalize hb : (Nat.beq (acells v).length size && Nat.blt i es.length && (acells v).all (cellT L)) = b at h
   cases b
   ·cases h
   ·simp only [Bool.and_eq_true, beq_dec, blt_dec, decide_eq_true_eq] at hb
    rw [if_pos ⟨hb.1.1, hb.1.2, cellTs_ok hL hb.2⟩]
    exact fillET_ok hL h
theorem partsT_ok (he : EvOk fr st ev) : ∀ {l : List (Nat × Operand)} {ps : List (Nat × AV)}, partsT ev l = some ps → (l.map fun p => (p.1, od fr st true p.2)) = ps
 | [], _, h => by cases h; rfl
 | (i, o) :: r, ps, h => by
   simp only [partsT] at h
   rcases he o with ho | ho <;> rw [ho] at h
   ·cases h
   ·simp only at h
    split at h
    ·rename_i hq; cases h; rw [List.map_cons, partsT_ok he hq]
    ·cases h
theorem snapsT_ok (hL : LOk st L) : ∀ {l ps : List (Nat × AV)}, snapsT L l = some ps → (l.map fun p => (p.1, snap st.mem p.2)) = ps
 | [], _, h => by cases h; rfl
 | (i, v) :: r, ps, h => by
   simp only [snapsT] at h
   split at h
   ·rename_i u hu
    split at h
    ·rename_i hq; cases h; rw [List.map_cons, snapsT_ok hL hq, snapT_ok hL hu]
    ·cases h
   ·cases h
theorem evs_ok (he : EvOk fr st ev) : ∀ {l : List Operand} {vs : List AV}, evs ev l = some vs → l.map (od fr st true) = vs
 | [], _, h => by cases h; rfl
 | o :: r, vs, h => by
   simp only [evs] at h
   rcases he o with ho | ho <;> rw [ho] at h
   ·cases h
   ·simp only at h
    split at h
    ·rename_i hq; cases h; rw [List.map_cons, evs_ok he hq]
    ·cases h
end
section
variable {P : Program} {fr : Fr} {st : St} {ev : Operand → Option AV} {L : Nat → Option RObj} {id : Nat} {dst : Option Tmp} {ty : TypeId} {pos : String} {after : Array Edge} {guard : Option (Nat × Bool)} {r : R}
theorem o_load (he : EvOk fr st ev) (hL : LOk st L) {t : TypeId} {x : Operand} (h : xopT P ev L id ⟨dst, .load t x, ty, pos, after, guard⟩ = some r) : EfR (xop P fr st true id ⟨dst, .load t x, ty, pos, after, guard⟩) r := by
 simp only [xopT] at h; simp only [xop]
 split at h
 ·rename_i ti hti; simp only [hti]
  rcases he x with hx | hx <;> rw [hx] at h
  ·cases h
  ·generalize od fr st true x = X at h ⊢
   split at h
   ·rename_i i off heq; cases heq
    rcases hL i with hi | hi <;> rw [hi] at h
    ·cases h
    ·split at h
     ·rename_i hm; obtain ⟨hb, hr⟩ := chk_inv h; cases hr; simp only [hm]; exact ⟨by simpa only [ble_dec, beq_dec] using hb, rfl⟩
     ·cases h
   ·rename_i heq; cases heq
    obtain ⟨hb, hr⟩ := chk_inv h; cases hr; exact ⟨by simpa only [ble_dec, beq_dec] using hb, rfl⟩
   ·rename_i i n k off heq; cases heq
    rcases hL n with hi | hi <;> rcases hL i with hi | hi <;> rw [hi] at h
    all_goals first
     | (cases h; done)
     | (split at h
        ·rename_i hm; simp only [hm]
         split at h
         ·rename_i hk; obtain ⟨hb, hr⟩ := chk_inv h; cases hr; simp only [hk]; exact ⟨by simpa only [ble_dec, beq_dec] using hb, rfl⟩
         ·cases h
        ·cases h)
   ·cases h
 ·cases h
theorem o_alloc {t : TypeId} (h : xopT P ev L id ⟨dst, .alloc t, ty, pos, after, guard⟩ = some r) : EfR (xop P fr st true id ⟨dst, .alloc t, ty, pos, after, guard⟩) r := by
 simp only [xopT] at h; simp only [xop]
 split at h
 ·rename_i ti hti; cases h; simp only [hti]; exact ⟨rfl, rfl, rfl⟩
 ·cases h
theorem o_box (he : EvOk fr st ev) (hL : LOk st L) {t : TypeId} {x : Operand} (h : xopT P ev L id ⟨dst, .box t x, ty, pos, after, guard⟩ = some r) : EfR (xop P fr st true id ⟨dst, .box t x, ty, pos, after, guard⟩) r := by
 simp only [xopT] at h; simp only [xop]
 rcases he x with hx | hx <;> rw [hx] at h
 ·cases h
 ·obtain ⟨hb, hr⟩ := chk_inv h; cases hr; exact ⟨cellTs_ok hL hb, rfl, rfl⟩
theorem o_build (he : EvOk fr st ev) (hL : LOk st L) {t : TypeId} {parts : Array (Nat × Operand)} (h : xopT P ev L id ⟨dst, .build t parts, ty, pos, after, guard⟩ = some r) : EfR (xop P fr st true id ⟨dst, .build t parts, ty, pos, after, guard⟩) r := by
 simp only [xopT] at h; simp only [xop]
 split at h
 ·rename_i ti ps hti hps
  split at h
  ·rename_i cs hcs
   obtain ⟨hb, hr⟩ := chk_inv h; cases hr
   simp only [hti, partsT_ok he hps, fillT_ok hL hcs]; exact ⟨hb, rfl⟩
  ·cases h
 ·cases h
theorem o_buildSlice (he : EvOk fr st ev) (hL : LOk st L) (hown : dst.isSome = true → ownSlot fr dst = true) {t : TypeId} {n : Nat} {parts : Array (Nat × Operand)} (h : xopT P ev L id ⟨dst, .buildSlice t n parts, ty, pos, after, guard⟩ = some r) : EfR (xop P fr st true id ⟨dst, .buildSlice t n parts, ty, pos, after, guard⟩) r := by
 simp only [xopT] at h; simp only [xop]
 split at h
 ·rename_i e qs hte hqs
  split at h
  ·rename_i ti ps hti hps
   split at h
   ·rename_i es hes
    obtain ⟨hb, hr⟩ := chk_inv h; cases hr
    simp only [Bool.and_eq_true, ble_dec, beq_dec, Bool.not_eq_true', decide_eq_true_eq, decide_eq_false_iff_not] at hb
    have hq : (parts.toList.map fun p => (p.1, snap st.mem (od fr st true p.2))) = ps := by
     rw [← snapsT_ok hL hps, ← partsT_ok he hqs, List.map_map]; rfl
    simp only [hte, hti, hq, fillET_ok hL hes, hown hb.1.1, if_true]
    exact ⟨by simp only [Bool.and_eq_true, decide_eq_true_eq]; exact ⟨hb.1.2, hb.2⟩, rfl, rfl⟩
   ·cases h
  ·cases h
 ·cases h
theorem o_store (he : EvOk fr st ev) (hL : LOk st L) {t : TypeId} {a x : Operand} (h : xopT P ev L id ⟨dst, .store t a x, ty, pos, after, guard⟩ = some r) : EfR (xop P fr st true id ⟨dst, .store t a x, ty, pos, after, guard⟩) r := by
 simp only [xopT] at h; simp only [xop]
 split at h
 ·rename_i ti v hti hv
  rcases he x with hx | hx <;> rw [hx] at hv
  ·cases hv
  have hv := Option.some.inj hv; subst hv
  simp only [hti]
  rcases he a with ha | ha <;> rw [ha] at h
  ·cases h
  ·generalize od fr st true a = A at h ⊢
   split at h
   ·rename_i i off heq; cases heq
    rcases hL i with hi | hi <;> rw [hi] at h
    ·cases h
    ·split at h
     ·rename_i hm; obtain ⟨hb, hr⟩ := chk_inv h; cases hr; simp only [hm]
      simp only [Bool.and_eq_true, beq_dec, ble_dec] at hb
      exact ⟨by simp only [Bool.and_eq_true]; exact ⟨hb.1, cellTs_ok hL hb.2⟩, rfl, rfl, rfl⟩
     ·cases h
   ·rename_i i n k off heq; cases heq
    rcases hL i with hi | hi <;> rw [hi] at h
    ·cases h
    ·split at h
     ·rename_i hm hu; simp only [hm, snapT_ok hL hu]
      split at h
      ·rename_i hk; obtain ⟨hb, hr⟩ := chk_inv h; cases hr; simp only [hk]
       simp only [Bool.and_eq_true, beq_dec, ble_dec] at hb
       exact ⟨by simp only [Bool.and_eq_true]; exact ⟨hb.1, cellTs_ok hL hb.2⟩, rfl, rfl, rfl⟩
      ·cases h
     ·cases h
   ·cases h
 ·cases h
theorem o_nilCheck (he : EvOk fr st ev) (hL : LOk st L) {x : Operand} (h : xopT P ev L id ⟨dst, .nilCheck x, ty, pos, after, guard⟩ = some r) : EfR (xop P fr st true id ⟨dst, .nilCheck x, ty, pos, after, guard⟩) r := by
 simp only [xopT] at h; simp only [xop]
 rcases he x with hx | hx <;> rw [hx] at h
 ·cases h
 ·generalize od fr st true x = X at h ⊢
  split at h
  ·rename_i heq; cases heq; cases h; exact ⟨rfl, rfl⟩
  ·rename_i heq; cases heq; cases h; exact ⟨rfl, rfl⟩
  ·rename_i i n k off heq; cases heq
   rcases hL i with hi | hi <;> rw [hi] at h
   ·cases h
   ·split at h
    ·rename_i hm; obtain ⟨hb, hr⟩ := chk_inv h; cases hr; simp only [hm]; exact ⟨by simpa only [beq_dec] using hb, rfl⟩
    ·cases h
  ·cases h
theorem o_fieldAddr (he : EvOk fr st ev) (hL : LOk st L) {t : TypeId} {x : Operand} {f : Nat} (h : xopT P ev L id ⟨dst, .fieldAddr t x f, ty, pos, after, guard⟩ = some r) : EfR (xop P fr st true id ⟨dst, .fieldAddr t x f, ty, pos, after, guard⟩) r := by
 simp only [xopT] at h; simp only [xop]
 split at h
 ·rename_i off ft hf; simp only [hf]
  rcases he x with hx | hx <;> rw [hx] at h
  ·cases h
  ·generalize od fr st true x = X at h ⊢
   split at h
   ·rename_i heq; cases heq; obtain ⟨hb, hr⟩ := chk_inv h; cases hr
    exact ⟨by simpa [beq_dec] using hb, rfl⟩
   ·rename_i heq; cases heq; obtain ⟨hb, hr⟩ := chk_inv h; cases hr
    exact ⟨by simpa [beq_dec] using hb, rfl⟩
   ·rename_i i n k off heq; cases heq
    rcases hL i with hi | hi <;> rw [hi] at h
    ·cases h
    ·split at h
     ·rename_i hm; obtain ⟨hb, hr⟩ := chk_inv h; cases hr; simp only [hm]; exact ⟨by simpa [beq_dec] using hb, rfl⟩
     ·cases h
   ·cases h
 ·cases h
theorem o_field (he : EvOk fr st ev) {t : TypeId} {x : Operand} {f : Nat} (h : xopT P ev L id ⟨dst, .field t x f, ty, pos, after, guard⟩ = some r) : EfR (xop P fr st true id ⟨dst, .field t x f, ty, pos, after, guard⟩) r := by
 simp only [xopT] at h; simp only [xop]
 split at h
 ·rename_i off ft hf; simp only [hf]
  split at h
  ·rename_i ti cs hti hx
   rcases he x with hx' | hx' <;> rw [hx'] at hx
   ·cases hx
   ·have hx := Option.some.inj hx
    obtain ⟨hb, hr⟩ := chk_inv h; cases hr
    simp only [hti, hx]
    exact ⟨by simpa only [ble_dec, beq_dec] using hb, rfl⟩
  ·cases h
 ·cases h
end
section
variable {P : Program} {fr : Fr} {st : St} {ev : Operand → Option AV} {L : Nat → Option RObj} {id : Nat} {dst : Option Tmp} {ty : TypeId} {pos : String} {after : Array Edge} {guard : Option (Nat × Bool)} {r : R}
theorem EvOk.some (he : EvOk fr st ev) {x : Operand} {v : AV} (h : ev x = some v) : od fr st true x = v := by
 rcases he x with hx | hx <;> rw [hx] at h
 ·cases h
 ·exact Option.some.inj h
theorem LOk.some (hL : LOk st L) {i : Nat} {o : RObj} (h : L i = some o) : mlook st.mem i = some o := by
 rcases hL i with hx | hx <;> rw [hx] at h
 ·cases h
 ·exact h
theorem efT_ok {e : Ef} (h : efT e = some r) : EfR e r := by
 cases e <;> simp only [efT] at h
 ·cases h
 ·obtain ⟨hb, hr⟩ := chk_inv h; cases hr; exact ⟨by first | exact hb | rfl, rfl⟩
 ·obtain ⟨hb, hr⟩ := chk_inv h; cases hr; exact ⟨hb, rfl, rfl⟩
 ·obtain ⟨hb, hr⟩ := chk_inv h; cases hr; exact ⟨hb, rfl, rfl, rfl⟩
 ·cases h
theorem o_indexAddr (he : EvOk fr st ev) (hL : LOk st L) {t : TypeId} {x ix : Operand} (h : xopT P ev L id ⟨dst, .indexAddr t x ix, ty, pos, after, guard⟩ = some r) : EfR (xop P fr st true id ⟨dst, .indexAddr t x ix, ty, pos, after, guard⟩) r := by
 simp only [xopT] at h; simp only [xop]
 split at h
 ·rename_i k i hi; simp only [he.some hi]
  split at h
  ·rename_i e hte; simp only [hte]
   split at h
   all_goals first
    | (rename_i hin hx; simp only [hin, he.some hx, Bool.true_eq_false, if_false])
    | skip
   ·split at h
    ·rename_i c hc; obtain ⟨hb, hr⟩ := chk_inv h; cases hr; simp only [hc]; exact ⟨by simpa only [beq_dec] using hb, rfl⟩
    ·cases h
   ·split at h
    ·rename_i hm; obtain ⟨hb, hr⟩ := chk_inv h; cases hr; simp only [hL.some hm]; exact ⟨by simpa only [beq_dec, blt_dec] using hb, rfl⟩
    ·cases h
   ·split at h
    ·rename_i hm; obtain ⟨hb, hr⟩ := chk_inv h; cases hr; simp only [hL.some hm]; exact ⟨by simpa only [beq_dec, blt_dec] using hb, rfl⟩
    ·cases h
   ·cases h
  ·rename_i hte; simp only [hte]
   split at h
   ·rename_i n e hta; simp only [hta]
    split at h
    all_goals first
     | (rename_i hin hx; simp only [hin, he.some hx, Bool.true_eq_false, if_false])
     | skip
    ·obtain ⟨hb, hr⟩ := chk_inv h; cases hr; exact ⟨by simpa only [beq_dec, blt_dec] using hb, rfl⟩
    ·obtain ⟨hb, hr⟩ := chk_inv h; cases hr; exact ⟨by simpa only [beq_dec, blt_dec] using hb, rfl⟩
    ·split at h
     ·rename_i hm; obtain ⟨hb, hr⟩ := chk_inv h; cases hr; simp only [hL.some hm]; exact ⟨by simpa only [beq_dec, blt_dec] using hb, rfl⟩
     ·cases h
    ·cases h
   ·cases h
 ·cases h
def StrIx (fr : Fr) (st : St) (x ix : Operand) (r : R) : Prop := ∃ k i s b, od fr st true ix = .sc (.int k i) ∧ od fr st true x = .sc (.string s) ∧ s.data.toList[i.toNat]? = some b ∧ 0 ≤ i ∧ r = .val (.sc (.int .u8 b.toNat))
theorem o_index (he : EvOk fr st ev) {t : TypeId} {x ix : Operand} (h : xopT P ev L id ⟨dst, .index t x ix, ty, pos, after, guard⟩ = some r) : EfR (xop P fr st true id ⟨dst, .index t x ix, ty, pos, after, guard⟩) r ∨ tstr P t = true ∧ StrIx fr st x ix r := by
 simp only [xopT] at h
 split at h
 ·rename_i k i s hi hx
  split at h
  ·rename_i b hb; obtain ⟨hc, hr⟩ := chk_inv h; cases hr
   simp only [Bool.and_eq_true, decide_eq_true_eq] at hc
   exact .inr ⟨hc.1, k, i, s, b, he.some hi, he.some hx, hb, hc.2, rfl⟩
  ·cases h
 ·rename_i k i cs hi hx
  left
  simp only [xop]
  simp only [he.some hi, he.some hx]
  split at h
  ·rename_i n e hta; simp only [hta]
   split at h
   ·rename_i ti hti; simp only [hti]; obtain ⟨hb, hr⟩ := chk_inv h; cases hr; exact ⟨by simpa only [beq_dec, blt_dec, ble_dec] using hb, rfl⟩
   ·cases h
  ·cases h
 ·cases h
theorem intT_ok {op : BinOp} {k : IntKind} {a b : Int} (h : intT op k a b = some r) : EfR (intBin op k a b) r := by
 cases op <;> cases k <;> first
  | (cases h; exact ⟨rfl, rfl⟩)
  | (simp only [intT] at h; obtain ⟨hb, hr⟩ := chk_inv h; cases hr; exact ⟨by simpa only [i64b_eq] using hb, rfl⟩)
  | cases h
theorem o_binOp (he : EvOk fr st ev) (hL : LOk st L) {op : BinOp} {t yt : TypeId} {x y : Operand} (h : xopT P ev L id ⟨dst, .binOp op t x y yt, ty, pos, after, guard⟩ = some r) :
  EfR (xop P fr st true id ⟨dst, .binOp op t x y yt, ty, pos, after, guard⟩) r ∨ ∃ a b, od fr st true x = .sc (.string a) ∧ od fr st true y = .sc (.string b) ∧ strT op a b = some r := by
 simp only [xopT] at h
 split at h
 ·rename_i X Y hx hy
  simp only [xop, he.some hx, he.some hy]
  unfold binT at h
  split at h
  ·rename_i a b ha hb
   left
   simp only [nilT_ok hL ha, nilT_ok hL hb]
   split at h
   ·rename_i ok v hv; rw [hv]; obtain ⟨hb, hr⟩ := chk_inv h; cases hr; exact ⟨by first | exact hb | rfl, rfl⟩
   ·cases h
  ·split at h
   ·rename_i k a k' b _
    left
    simp only [nilOf, binEf]
    cases hs : isShift op
    ·rw [hs] at h
     simp only [cond_false, Bool.false_eq_true, if_false] at h ⊢
     by_cases hk : k = k'
     ·rw [if_pos hk] at h ⊢; exact intT_ok h
     ·rw [if_neg hk] at h; cases h
    ·rw [hs] at h
     simp only [cond_true, if_true] at h ⊢
     obtain ⟨hb, hr⟩ := chk_inv h; cases hr; exact ⟨by first | exact hb | rfl, rfl⟩
   ·left
    simp only [nilOf, binEf]
    split at h
    ·obtain ⟨hb, hr⟩ := chk_inv h; cases hr; exact ⟨by first | exact hb | rfl, rfl⟩
    ·obtain ⟨hb, hr⟩ := chk_inv h; cases hr; exact ⟨by first | exact hb | rfl, rfl⟩
    ·cases h
   ·rename_i a b _; exact .inr ⟨a, b, rfl, rfl, h⟩
   ·rename_i xs ys _
    left
    simp only [nilOf, binEf]
    split at h
    ·rename_i vs us hvs hus; simp only [hvs, hus]
     split at h
     ·rename_i ks hks; simp only [hks]
      split at h
      ·obtain ⟨hb, hr⟩ := chk_inv h; cases hr; exact ⟨by first | exact hb | rfl, rfl⟩
      ·obtain ⟨hb, hr⟩ := chk_inv h; cases hr; exact ⟨by first | exact hb | rfl, rfl⟩
      ·cases h
     ·cases h
    ·cases h
   ·cases h
 ·cases h
theorem o_unOp (he : EvOk fr st ev) {op : UnOp} {t : TypeId} {x : Operand} (h : xopT P ev L id ⟨dst, .unOp op t x, ty, pos, after, guard⟩ = some r) : EfR (xop P fr st true id ⟨dst, .unOp op t x, ty, pos, after, guard⟩) r := by
 simp only [xopT] at h; simp only [xop]
 split at h
 ·rename_i b hx; simp only [he.some hx]; cases h; exact ⟨rfl, rfl⟩
 ·rename_i n hx; simp only [he.some hx]; obtain ⟨hb, hr⟩ := chk_inv h; cases hr; exact ⟨by simpa only [i64b_eq] using hb, rfl⟩
 ·cases h
theorem o_convert (he : EvOk fr st ev) {s d : TypeId} {x : Operand} (h : xopT P ev L id ⟨dst, .convert s d x, ty, pos, after, guard⟩ = some r) : EfR (xop P fr st true id ⟨dst, .convert s d x, ty, pos, after, guard⟩) r := by
 simp only [xopT] at h; simp only [xop]
 split at h
 ·rename_i k n hs ht hx; simp only [hs, ht, he.some hx, Bool.true_eq_false, if_false]; obtain ⟨hb, hr⟩ := chk_inv h; cases hr; exact ⟨by simpa only [i64b_eq] using hb, rfl⟩
 ·rename_i k k' n hne hs ht hx; cases h; simp only [hs, ht, he.some hx, Bool.true_eq_false, if_false]
  exact ⟨rfl, rfl⟩
 ·cases h
theorem o_makeFunc (he : EvOk fr st ev) {fn : Fn} {first caps : Array Operand} (h : xopT P ev L id ⟨dst, .makeFunc fn first caps, ty, pos, after, guard⟩ = some r) : EfR (xop P fr st true id ⟨dst, .makeFunc fn first caps, ty, pos, after, guard⟩) r := by
 simp only [xopT] at h; simp only [xop]
 split at h
 ·rename_i f vs hf hv
  cases hb : Nat.blt f 1000000
  ·rw [hb] at h; cases h
  ·rw [hb] at h; cases h; simp only [hf, evs_ok he hv]; exact ⟨by first | exact hb | rfl, rfl⟩
 ·rename_i f _ _ _ hf
  cases hb : Nat.beq caps.size 0
  ·rw [hb] at h; cases h
  ·rw [hb] at h
   simp only [cond_true] at h
   split at h
   ·rename_i vs hv
    cases h
    rw [hf] at hv ⊢
    simp only [← evs_ok he hv]; exact ⟨by first | exact hb | rfl, rfl⟩
   ·cases h
 ·cases h
theorem o_extract (he : EvOk fr st ev) {x : Operand} {i : Nat} (h : xopT P ev L id ⟨dst, .extract x i, ty, pos, after, guard⟩ = some r) : EfR (xop P fr st true id ⟨dst, .extract x i, ty, pos, after, guard⟩) r := by
 simp only [xopT] at h; simp only [xop]
 split at h
 ·rename_i vs hx; simp only [he.some hx]
  split at h
  ·rename_i v hv; cases h; simp only [hv]; exact ⟨rfl, rfl⟩
  ·cases h
 ·cases h
theorem o_makeSlice (he : EvOk fr st ev) (hown : dst.isSome = true → ownSlot fr dst = true) {t : TypeId} {l c : Operand} (h : xopT P ev L id ⟨dst, .makeSlice t l c, ty, pos, after, guard⟩ = some r) : EfR (xop P fr st true id ⟨dst, .makeSlice t l c, ty, pos, after, guard⟩) r := by
 simp only [xopT] at h; simp only [xop]
 split at h
 ·rename_i e hte; simp only [hte]
  split at h
  ·rename_i ti n m hti hl hc; simp only [hti, he.some hl, he.some hc]
   obtain ⟨hb, hr⟩ := chk_inv h; cases hr
   simp only [Bool.and_eq_true] at hb
   simp only [hown hb.1.1.1.1, if_true]
   exact ⟨by simp only [Bool.and_eq_true]; exact ⟨⟨⟨hb.1.1.1.2, hb.1.1.2⟩, by rw [← roomb_eq]; exact hb.1.2⟩, by rw [← beq_dec]; exact hb.2⟩, rfl, rfl⟩
  ·cases h
 ·cases h
end
section
variable {P : Program} {fr : Fr} {st : St} {ev : Operand → Option AV} {L : Nat → Option RObj} {id : Nat} {dst : Option Tmp} {ty : TypeId} {pos : String} {after : Array Edge} {guard : Option (Nat × Bool)} {r : R}
theorem o_makeMap (he : EvOk fr st ev) {t : TypeId} {x : Option Operand} (h : xopT P ev L id ⟨dst, .makeMap t x, ty, pos, after, guard⟩ = some r) : EfR (xop P fr st true id ⟨dst, .makeMap t x, ty, pos, after, guard⟩) r := by
 simp only [xopT] at h; simp only [xop]
 split at h
 ·rename_i k e ht; cases h; simp only [ht]; exact ⟨rfl, rfl, rfl⟩
 ·rename_i k e x ht; simp only [ht]
  split at h
  ·rename_i hx; cases h; simp only [he.some hx]; exact ⟨rfl, rfl, rfl⟩
  ·cases h
 ·cases h
theorem o_lookup (he : EvOk fr st ev) (hL : LOk st L) {t : TypeId} {m k : Operand} {ok : Bool} (h : xopT P ev L id ⟨dst, .lookup t m k ok, ty, pos, after, guard⟩ = some r) : EfR (xop P fr st true id ⟨dst, .lookup t m k ok, ty, pos, after, guard⟩) r := by
 simp only [xopT] at h; simp only [xop]
 split at h
 ·rename_i kt et kv i ht hk hm
  split at h
  ·rename_i kv' kt' es ti hkv hi hti
   simp only [ht, he.some hk, he.some hm, hkv, hL.some hi, hti]
   split at h
   ·rename_i v hv; obtain ⟨hb, hr⟩ := chk_inv h; cases hr; simp only [hv]
    refine ⟨by rw [← beq_dec]; exact hb, ?_⟩
    cases ok <;> rfl
   ·rename_i hv; obtain ⟨hb, hr⟩ := chk_inv h; cases hr; simp only [hv]
    refine ⟨by rw [← beq_dec]; exact hb, ?_⟩
    cases ok <;> rfl
  ·cases h
 ·cases h
theorem o_mapUpdate (he : EvOk fr st ev) (hL : LOk st L) {t : TypeId} {m k x : Operand} (h : xopT P ev L id ⟨dst, .mapUpdate t m k x, ty, pos, after, guard⟩ = some r) : EfR (xop P fr st true id ⟨dst, .mapUpdate t m k x, ty, pos, after, guard⟩) r := by
 simp only [xopT] at h; simp only [xop]
 split at h
 ·rename_i kt et kv i v ht hk hm hx
  split at h
  ·rename_i kv' kt' es hkv hi
   obtain ⟨hb, hr⟩ := chk_inv h; cases hr
   simp only [ht, he.some hk, he.some hm, he.some hx, hkv, hL.some hi]
   exact ⟨by rw [← beq_dec]; exact hb, rfl, rfl, rfl⟩
  ·cases h
 ·cases h
theorem o_insert (he : EvOk fr st ev) (hL : LOk st L) {t : TypeId} {m k x : Operand} (h : xopT P ev L id ⟨dst, .insert t m k x, ty, pos, after, guard⟩ = some r) : EfR (xop P fr st true id ⟨dst, .insert t m k x, ty, pos, after, guard⟩) r := by
 simp only [xopT] at h; simp only [xop]
 split at h
 ·rename_i kt et kv i v ht hk hm hx
  split at h
  ·rename_i kv' kt' es hkv hi
   obtain ⟨hb, hr⟩ := chk_inv h; cases hr
   simp only [ht, he.some hk, he.some hm, he.some hx, hkv, hL.some hi]
   exact ⟨by rw [← beq_dec]; exact hb, rfl, rfl, rfl⟩
  ·cases h
 ·cases h
theorem bndT_ok (he : EvOk fr st ev) {o : Option Operand} {b : Option Int} (h : bndT ev o = some b) : bound (o.map (od fr st true)) = some b := by
 cases o with
 | none => exact h
 | some o =>
   simp only [bndT] at h
   split at h
   ·rename_i hx; cases h; simp only [Option.map_some, he.some hx, bound]
   ·cases h
def StrSl (fr : Fr) (st : St) (x : Operand) (lo hi mx : Option Operand) (r : R) : Prop :=
 ∃ s a b, od fr st true x = .sc (.string s) ∧ bound (lo.map (od fr st true)) = some a ∧ bound (hi.map (od fr st true)) = some b ∧ mx = none ∧ 0 ≤ a.getD 0 ∧ a.getD 0 ≤ b.getD s.size ∧ b.getD s.size ≤ s.size ∧
   r = .val (.sc (.string ⟨⟨(s.data.toList.drop (a.getD 0).toNat).take ((b.getD s.size).toNat - (a.getD 0).toNat)⟩⟩))
def RestSl (P : Program) (fr : Fr) (st : St) (id : Nat) (t : TypeId) (x : Operand) (lo hi mx : Option Operand) (r : R) : Prop :=
 ∃ e i n nl esz es q k z, lo = some z ∧ hi = none ∧ mx = none ∧ telem P t = some e ∧ tinf P e = true ∧ snap st.mem (od fr st true x) = .tl i n nl ∧ mlook st.mem i = some (.arr esz es false) ∧ n = es.length ∧ n ≠ 0 ∧ esz = P.cellsOf e ∧
   od fr st true z = .sc (.int q k) ∧ 0 ≤ k ∧ k.toNat = es.length ∧ r = .key (.tl id 0 false) i (.arr esz [] false)
theorem bndT_some (he : EvOk fr st ev) {o : Option Operand} {a : Int} (h : bndT ev o = some (some a)) : ∃ z q, o = some z ∧ od fr st true z = .sc (.int q a) := by
 cases o with
 | none => cases h
 | some z =>
   simp only [bndT] at h
   split at h
   ·rename_i q i hx; cases h; exact ⟨z, q, rfl, he.some hx⟩
   ·cases h
theorem bndT_none {o : Option Operand} (h : bndT ev o = some none) : o = none := by
 cases o with
 | none => rfl
 | some z =>
   simp only [bndT] at h
   split at h <;> cases h
theorem o_slice (he : EvOk fr st ev) (hL : LOk st L) {t : TypeId} {x : Operand} {lo hi mx : Option Operand} (h : xopT P ev L id ⟨dst, .slice t x lo hi mx, ty, pos, after, guard⟩ = some r) :
  EfR (xop P fr st true id ⟨dst, .slice t x lo hi mx, ty, pos, after, guard⟩) r ∨ (tstr P t = true ∧ StrSl fr st x lo hi mx r) ∨ RestSl P fr st id t x lo hi mx r := by
 simp only [xopT] at h
 split at h
 ·rename_i a b c v ha hb hc hx
  split at h
  ·rename_i e hte
   split at h
   ·rename_i hin
    split at h
    ·rename_i u hu
     split at h
     ·rename_i hw
      split at h
      ·rename_i r' hr'
       cases h
       refine .inr (.inr ?_)
       unfold restT at hr'
       split at hr'
       ·rename_i i n nl a
        split at hr'
        ·rename_i esz es fz ho
         obtain ⟨hk, hr⟩ := chk_inv hr'; cases hr
         simp only [Bool.and_eq_true, Bool.not_eq_true', beq_dec, decide_eq_true_eq, decide_eq_false_iff_not] at hk
         obtain ⟨⟨⟨⟨⟨h1, h2⟩, h3⟩, h4⟩, h5⟩, h6⟩ := hk
         subst h1
         obtain ⟨z, q, hz, hq⟩ := bndT_some he ha
         exact ⟨e, i, n, nl, esz, es, q, a, z, hz, bndT_none hb, bndT_none hc, hte, hin, by rw [he.some hx]; exact snapT_ok hL hu, hL.some ho, h2, h6, h3, hq, h4, h5, rfl⟩
        ·cases hr'
       ·cases hr'
      ·left
       simp only [xop, hte, he.some hx, bndT_ok he ha, bndT_ok he hb, bndT_ok he hc, hin, Bool.true_eq_false, if_false, snapT_ok hL hu, viewT_ok hL hw]; exact efT_ok h
     ·left
      rename_i hw
      simp only [xop, hte, he.some hx, bndT_ok he ha, bndT_ok he hb, bndT_ok he hc, hin, Bool.true_eq_false, if_false, snapT_ok hL hu]
      have hv : viewOf st.mem u = none := by
       cases u <;> first
        | rfl
        | (simp only [sliceEf, efT] at h; cases h)
      simp only [hv]; exact efT_ok h
    ·cases h
   ·cases h
  ·split at h
   ·rename_i s hts
    obtain ⟨hk, hr⟩ := chk_inv h; cases hr
    simp only [Bool.and_eq_true, decide_eq_true_eq] at hk
    refine .inr (.inl ⟨hts, s, a, b, he.some hx, bndT_ok he ha, bndT_ok he hb, ?_, hk.1.1, hk.1.2, hk.2, rfl⟩)
    cases mx with
    | none => rfl
    | some m => simp only [bndT] at hc; split at hc <;> cases hc
   ·cases h
 ·cases h
theorem appT_ok (hL : LOk st L) {own : Bool} (hown : own = true) {t : TypeId} {x : AV} {ys : List (List AV)} (h : appT P L id t x ys = some r) : EfR (appendEf P st.mem id own t x ys) r := by
 unfold appT at h
 unfold appendEf
 split at h
 ·cases h
 ·rename_i e hte; simp only [hte]
  split at h
  ·cases h
  ·rename_i ti hti; simp only [hti]
   split at h
   ·split at h
    ·rename_i hm; simp only [hL.some hm]; obtain ⟨hb, hr⟩ := chk_inv h; cases hr
     exact ⟨by simpa only [beq_dec, roomb_eq] using hb, rfl, rfl, rfl⟩
    ·cases h
   ·split at h
    ·rename_i hm; simp only [hL.some hm]; obtain ⟨hb, hr⟩ := chk_inv h; cases hr
     exact ⟨by simpa only [beq_dec, ble_dec, roomb_eq] using hb, rfl, rfl, rfl⟩
    ·cases h
   ·split at h
    ·rename_i hm; simp only [hL.some hm]
     rw [beq_dec, bif_inv] at h
     split at h <;> rename_i hn
     ·rw [if_pos hn]; obtain ⟨hb, hr⟩ := chk_inv h; cases hr
      exact ⟨by simpa [beq_dec, ble_dec, roomb_eq] using hb, rfl, rfl, rfl⟩
     ·rw [if_neg hn]; obtain ⟨hb, hr⟩ := chk_inv h; cases hr
      exact ⟨by simpa only [beq_dec, ble_dec, roomb_eq] using hb, rfl, rfl, rfl⟩
    ·cases h
   ·obtain ⟨hb, hr⟩ := chk_inv h; cases hr
    exact ⟨by simpa only [beq_dec, roomb_eq] using hb, rfl, rfl⟩
   ·subst hown; obtain ⟨hb, hr⟩ := chk_inv h; cases hr
    exact ⟨by simpa only [beq_dec, roomb_eq] using hb, rfl, rfl⟩
   ·cases h
theorem o_call (he : EvOk fr st ev) (hL : LOk st L) (hown : dst.isSome = true → ownSlot fr dst = true) {c : Call} (h : xopT P ev L id ⟨dst, .call c, ty, pos, after, guard⟩ = some r) : EfR (xop P fr st true id ⟨dst, .call c, ty, pos, after, guard⟩) r := by
 simp only [xopT] at h; simp only [xop]
 split at h
 ·rename_i x t hc ha ht; simp only [hc, ha, ht]
  split at h
  ·rename_i v hx; simp only [he.some hx]
   split at h
   ·rename_i e hte; simp only [hte]
    split at h
    ·rename_i es hes; cases h; simp only [elemsT_ok hL hes]; exact ⟨rfl, rfl⟩
    ·cases h
   ·rename_i hte; simp only [hte]
    split at h
    ·obtain ⟨hb, hr⟩ := chk_inv h; cases hr; simp only [hb, if_true]; exact ⟨rfl, rfl⟩
    ·split at h
     ·rename_i hi htm; cases h; simp only [hL.some hi, htm]; exact ⟨rfl, rfl⟩
     ·cases h
    ·cases h
  ·cases h
 ·rename_i x t hc ha ht; simp only [hc, ha, ht]
  split at h
  ·rename_i e es hte hx; cases h; simp only [hte, he.some hx]; exact ⟨rfl, rfl⟩
  ·rename_i hte hx; cases h; simp only [hte, he.some hx]; exact ⟨rfl, rfl⟩
  ·rename_i hte hx; cases h; simp only [hte, he.some hx]; exact ⟨rfl, rfl⟩
  ·rename_i hte hx; simp only [hte, he.some hx]
   split at h
   ·rename_i hm; simp only [hL.some hm]; obtain ⟨hb, hr⟩ := chk_inv h; cases hr; exact ⟨by rw [← beq_dec]; exact hb, rfl⟩
   ·cases h
  ·cases h
 ·rename_i x y t t' hc ha ht; simp only [hc, ha, ht]
  split at h
  ·rename_i e a b hte hx hy
   split at h
   ·rename_i ys hys
    cases hd : dst.isSome
    ·rw [hd] at h; cases h
    ·rw [hd] at h; simp only [hte, he.some hx, he.some hy, elemsT_ok hL hys]
     exact appT_ok hL (hown hd) h
   ·cases h
  ·rename_i nl es k n hte hx hy
   split at h
   ·rename_i k' e hti hte'
    split at h
    ·rename_i ti hi; obtain ⟨hb, hr⟩ := chk_inv h; cases hr
     simp only [hte, he.some hx, he.some hy, appendN, hti, hte', hi]
     exact ⟨by simpa only [beq_dec, blt_dec, roomb_eq] using hb, rfl, rfl⟩
    ·cases h
   ·cases h
  ·cases h
 ·rename_i x y t t' hc ha ht; simp only [hc, ha, ht]
  split at h
  ·rename_i e a b hte hx hy
   split at h
   ·rename_i ti i esz n off len cap ys hti hv hys
    split at h
    ·rename_i hm; obtain ⟨hb, hr⟩ := chk_inv h; cases hr
     simp only [copyEf, hte, hti, he.some hx, he.some hy, viewT_ok hL hv, elemsT_ok hL hys, hL.some hm]
     exact ⟨by simpa [beq_dec] using hb, rfl, rfl, rfl⟩
    ·cases h
   ·cases h
  ·cases h
 ·rename_i x y t t' hc ha ht; simp only [hc, ha, ht]
  split at h
  ·rename_i k a k' b hx hy; simp only [he.some hx, he.some hy]
   split at h
   ·rename_i hk; cases h; exact ⟨decide_eq_true hk, rfl⟩
   ·cases h
  ·cases h
 ·rename_i x y t t' hc ha ht; simp only [hc, ha, ht]
  split at h
  ·rename_i k a k' b hx hy; simp only [he.some hx, he.some hy]
   split at h
   ·rename_i hk; cases h; exact ⟨decide_eq_true hk, rfl⟩
   ·cases h
  ·cases h
 ·cases h
end
theorem bytes_toList (b : ByteArray) : b.toList = b.data.toList := by
 obtain ⟨⟨l⟩⟩ := b; exact ByteArray.toList_mk l
theorem bytes_cat (a b : ByteArray) : a ++ b = ⟨⟨a.data.toList ++ b.data.toList⟩⟩ := by
 apply ByteArray.ext
 rw [ByteArray.data_append]
 apply Array.ext'
 rw [Array.toList_append]
theorem bytes_cut (s : ByteArray) (l h : Nat) : s.extract l h = ⟨⟨(s.data.toList.drop l).take (h - l)⟩⟩ := by
 apply ByteArray.ext
 rw [ByteArray.data_extract]
 apply Array.ext'
 rw [Array.toList_extract, List.extract_eq_take_drop]
theorem bytes_get (s : ByteArray) (i : Nat) : s[i]? = s.data.toList[i]? := by
 by_cases h : i < s.size
 ·have h2 : i < s.data.toList.length := by rw [Array.length_toList]; exact h
  rw [getElem?_pos s i h, getElem?_pos s.data.toList i h2]; rfl
 ·have h2 : ¬ i < s.data.toList.length := by rw [Array.length_toList]; exact h
  rw [getElem?_neg s i h, getElem?_neg s.data.toList i h2]
section
variable {P : Program} {fr : Fr} {st : St} {G : Nat → Option Value} {F : Nat → Nat → Prop} {w : World} {ρ : Operand → Value} {dst : Option Tmp} {ty : TypeId} {pos : String} {after : Array Edge} {guard : Option (Nat × Bool)}
theorem tstr_inv {t : TypeId} (h : tstr P t = true) : P.underlying t = some .string := by
 unfold tstr at h; split at h
 ·assumption
 ·cases h
theorem run_strIx (hρ : ∀ x, RV G F st.mem w (ρ x) (opnd fr st x)) {t : TypeId} {x ix : Operand} {r : R} (ht : tstr P t = true) (h : StrIx fr st x ix r) :
  ∃ u, (execOp ρ ⟨dst, .index t x ix, ty, pos, after, guard⟩).run P w = .ok (.value u) w ∧ r = .val (.sc u) := by
 obtain ⟨k, i, s, b, hi, hx, hb, h0, rfl⟩ := h
 have ei := od_rv hρ ix; rw [hi] at ei; have ei := ei.inv_sc
 have ex := od_rv hρ x; rw [hx] at ex; have ex := ex.inv_sc
 refine ⟨.int .u8 b.toNat, run_v ?_, rfl⟩
 have hb' : s[i.toNat]? = some b := by rw [bytes_get]; exact hb
 simp only [Instr.index, ei, ex, asIntOf, Sem.run_bind, Sem.run_pure, Result.andThen_ok, run_under (tstr_inv ht), h0, if_true, hb']
theorem run_strT (hρ : ∀ x, RV G F st.mem w (ρ x) (opnd fr st x)) {op : BinOp} {t yt : TypeId} {x y : Operand} {r : R} {a b : ByteArray} (hx : od fr st true x = .sc (.string a)) (hy : od fr st true y = .sc (.string b)) (h : strT op a b = some r) :
  ∃ u, (execOp ρ ⟨dst, .binOp op t x y yt, ty, pos, after, guard⟩).run P w = .ok (.value u) w ∧ r = .val (.sc u) := by
 have ex := od_rv hρ x; rw [hx] at ex; have ex := ex.inv_sc
 have ey := od_rv hρ y; rw [hy] at ey; have ey := ey.inv_sc
 have hg : (eqGuard op t x y (ρ x) (ρ y)).run P w = .ok () w := eqGuard_int (fun _ _ h => by rw [ex] at h; cases h) (fun h => by rw [ex] at h; cases h)
 have fin : ∀ u, (binOp op t (ρ x) (ρ y)).run P w = .ok u w → (execOp ρ ⟨dst, .binOp op t x y yt, ty, pos, after, guard⟩).run P w = .ok (.value u) w := fun u hu => run_v (by rw [Sem.run_bind, hg, Result.andThen_ok, hu])
 rw [ex, ey] at fin
 have hl : ∀ n : Nat, n ≤ 1000000 → ¬ ((n : Int) > IntKind.i64.max) := fun n hn => by
  have : IntKind.i64.max = 9223372036854775807 := by decide
  rw [this]; omega
 cases op <;> simp only [strT] at h <;> try cases h
 ·obtain ⟨hb, hr⟩ := chk_inv h; cases hr
  rw [ble_dec] at hb
  refine ⟨_, fin (.string (a ++ b)) ?_, by rw [bytes_cat]⟩
  simp only [binOp, Op.stringOp, if_neg (hl _ (of_decide_eq_true hb)), Sem.run_pure]
 all_goals refine ⟨_, fin _ (by simp only [binOp, Op.stringOp, Sem.run_pure]; rfl), by simp only [bytes_toList]⟩
theorem run_strSl (hρ : ∀ x, RV G F st.mem w (ρ x) (opnd fr st x)) {t : TypeId} {x : Operand} {lo hi mx : Option Operand} {r : R} (ht : tstr P t = true) (h : StrSl fr st x lo hi mx r) :
  ∃ u, (execOp ρ ⟨dst, .slice t x lo hi mx, ty, pos, after, guard⟩).run P w = .ok (.value u) w ∧ r = .val (.sc u) := by
 obtain ⟨s, a, b, hx, ha, hb, rfl, h0, h1, h2, rfl⟩ := h
 have ex := od_rv hρ x; rw [hx] at ex; have ex := ex.inv_sc
 have hbd : ∀ (o : Option Operand) (c : Option Int), bound (o.map (od fr st true)) = some c → bnd ρ o c := fun o c h => by
  cases o with
  | none => cases h; exact trivial
  | some o =>
    simp only [Option.map_some, bound] at h
    split at h
    ·rename_i hh; cases hh
    ·rename_i k i hh
     cases h
     have e := od_rv hρ o; rw [Option.some.inj hh] at e
     exact ⟨k, e.inv_sc⟩
    ·cases h
 have hla := hbd lo a ha
 have hlb := hbd hi b hb
 refine ⟨.string (s.extract (a.getD 0).toNat (b.getD s.size).toNat), run_v ?_, by rw [bytes_cut]⟩
 cases lo <;> cases hi <;> cases a <;> cases b <;> simp only [bnd] at hla hlb <;> try exact hla.elim
 all_goals try exact hlb.elim
 all_goals simp only [Option.getD_some, Option.getD_none] at h0 h1 h2 ⊢
 ·simp [Instr.sliceAt, Instr.slice, ex, run_under (tstr_inv ht), Instr.sliceBounds]
 ·obtain ⟨k, hk⟩ := hlb
  simp [Instr.sliceAt, Instr.slice, ex, run_under (tstr_inv ht), Instr.sliceBounds, hk, run_bound h1 h2]
 ·obtain ⟨k, hk⟩ := hla
  simp [Instr.sliceAt, Instr.slice, ex, run_under (tstr_inv ht), Instr.sliceBounds, hk, run_bound h0 h1]
 ·obtain ⟨k, hk⟩ := hla
  obtain ⟨k', hk'⟩ := hlb
  rename_i _ _ va vb
  have q1 : (0 : Int) ≤ vb := by omega
  have q2 : va ≤ ((vb.toNat : Nat) : Int) := by omega
  simp [Instr.sliceAt, Instr.slice, ex, run_under (tstr_inv ht), Instr.sliceBounds, hk, hk', run_bound q1 h2, run_bound h0 q2]
end
section
variable {P : Program} {fr : Fr} {st : St} {G G' : Nat → Option Value} {F : Nat → Nat → Prop} {M : Mem} {w : World} {ρ : Operand → Value}
theorem simM_cut {nx id i esz n b ko c k : Nat} {es : List (List AV)} (hm : SimM P G F M nx w) (hid : G id = none) (hlt : id < nx) (ho : mlook M i = some (.arr esz es false)) (hG : G i = some (.slice (some ⟨b, ko, none⟩) n c)) (hc0 : c ≠ 0) (hn : n = es.length) (hk : k ≤ n) :
  SimM P (upG G id (.slice (some ⟨b, if c = k then ko else ko + k * esz, none⟩) (n - k) (c - k))) F ((id, .arr esz (es.drop k) false) :: mdel M i) nx w ∧ Step All G F M w (upG G id (.slice (some ⟨b, if c = k then ko else ko + k * esz, none⟩) (n - k) (c - k))) F ((id, .arr esz (es.drop k) false) :: mdel M i) w := by
 have htl : (es.drop k).length = n - k := by rw [List.length_drop]; omega
 have hob := (hm.obj i _ ho)
 have hne : i ≠ id := fun e => by rw [e, hid] at hG; cases hG
 obtain ⟨h, hh⟩ : ∃ h, h = Value.slice (some ⟨b, if c = k then ko else ko + k * esz, none⟩) (n - k) (c - k) := ⟨_, rfl⟩
 rw [← hh]
 obtain ⟨G1, hG1⟩ : ∃ G1, G1 = upG G id h := ⟨_, rfl⟩
 obtain ⟨M1, hM1⟩ : ∃ M1 : Mem, M1 = (id, .arr esz (es.drop k) false) :: mdel M i := ⟨_, rfl⟩
 rw [← hG1, ← hM1]
 have hlk : ∀ j, mlook M1 j = if j = id then some (.arr esz (es.drop k) false) else if j = i then none else mlook M j := fun j => by
  rw [hM1]; simp only [mlook]
  by_cases hj : j = id
  ·rw [if_pos hj, if_pos hj]
  ·rw [if_neg hj, if_neg hj, mlook_mdel']
 have hgo : ∀ j, j ≠ id → G1 j = G j := fun j hj => by rw [hG1, upG_other G _ hj]
 have hgs : G1 id = some h := by rw [hG1, upG_self]
 have hbk : blkOf (.slice (some ⟨b, ko, none⟩) n c) = some b := by simp [blkOf, hc0]
 have hbk0 : ∀ b', blkOf h = some b' → b' = b := fun b' hb' => by
  rw [hh] at hb'; simp only [blkOf] at hb'
  split at hb'
  ·cases hb'
  ·exact (Option.some.inj hb').symm
 have S : Step All G F M w G1 F M1 w :=
  { kept := .refl
    size := Nat.le_refl _
    out := fun _ _ _ => rfl
    F1 := fun _ _ h => h
    F2 := fun _ _ _ => rfl
    F3 := fun _ _ h => .inl h
    own := fun b' ⟨j, o, v, h1, h2, h3⟩ => by
     rw [hlk] at h1
     by_cases hj : j = id
     ·subst hj
      rw [hgs] at h2; cases h2
      rw [hbk0 _ h3]
      exact .inr ⟨i, _, _, ho, hG, hbk⟩
     ·rw [if_neg hj] at h1
      rw [hgo j hj] at h2
      split at h1
      ·cases h1
      ·exact .inr ⟨j, o, v, h1, h2, h3⟩
    some' := fun j _ hid => by
     by_cases hj : j = id
     ·subst hj; rw [hgs]; simp
     ·rw [hgo j hj]; exact hid
    same := fun j v _ hj _ => by
     have hj2 : j ≠ id := fun e => by rw [e, hid] at hj; cases hj
     rw [hgo j hj2]; exact hj
    keep := fun j o' _ hj h1 => by
     have hj2 : j ≠ id := fun e => hj (by rw [e]; exact hid)
     rw [hlk, if_neg hj2] at h1
     obtain ⟨v, hv⟩ := Option.ne_none_iff_exists'.1 hj
     split at h1
     ·cases h1
     ·exact ⟨o', v, v, h1, hv, (hgo j hj2).trans hv, objKeep.refl v o'⟩ }
 have hm' : SimM P G1 F M1 nx w := by
  refine simM_gen hm S (fun j o' h1 => ?_) (fun j j' v v' b' h1 h2 h3 h4 h5 h6 => ?_) hm.inF
  ·rw [hlk] at h1
   by_cases hj : j = id
   ·subst hj
    rw [if_pos rfl] at h1; cases h1
    refine ⟨hlt, .inl ?_⟩
    rcases hob.2 with ⟨_, base, h1, _⟩ | ⟨b2, ko2, c2, cc, e, k1, k2, k3, k4, k5, k6, k7, k8, k9⟩
    ·rw [hG] at h1; cases h1; exact absurd rfl hc0
    ·rw [hG] at k1; cases k1
     by_cases hck : c = k
     ·refine .inl ⟨List.length_eq_zero_iff.1 (by rw [htl]; omega), some ⟨b, ko, none⟩, ?_, fun a _ => rfl⟩
      rw [hgs, hh, if_pos hck, show es.length - k = 0 by omega, show c - k = 0 by omega]
     ·refine .inr ⟨b, ko + k * esz, c - k, cc, e, by rw [hgs, hh, htl, if_neg hck], by omega, k3, by rw [htl]; omega, ?_, fun i h => by rw [List.getElem_drop]; exact k6 _ _, fun i j h hj => ?_, fun o h => ?_, fun h => by cases h⟩
      ·rw [k5, Nat.add_assoc, ← Nat.add_mul, show k + (c - k) = c by omega]
      ·simp only [List.getElem_drop] at hj ⊢
       obtain ⟨v, q1, q2, q3⟩ := k7 (k + i) j (by rw [htl] at h; omega) hj
       refine ⟨v, ?_, q2, q3.step S fun _ _ => trivial⟩
       rw [← q1, Nat.add_mul]; congr 1; omega
      ·have := (k8 o h).1
       cases this
   ·rw [if_neg hj] at h1
    split at h1
    ·cases h1
    ·exact ⟨(hm.obj j o' h1).1, .inr ⟨h1, hgo j hj, fun b v _ _ => ⟨rfl, fun _ h => h⟩⟩⟩
  ·have back : ∀ {j : Nat} {v : Value}, mlook M1 j ≠ none → G1 j = some v → blkOf v = some b' → (j = id ∧ b' = b) ∨ (j ≠ id ∧ j ≠ i ∧ mlook M j ≠ none ∧ G j = some v) := fun {j v} q1 q2 q3 => by
     by_cases hj : j = id
     ·subst hj
      rw [hgs] at q2; cases q2
      exact .inl ⟨rfl, hbk0 _ q3⟩
     ·rw [hlk, if_neg hj] at q1
      rw [hgo j hj] at q2
      by_cases hi : j = i
      ·rw [if_pos hi] at q1; exact absurd rfl q1
      ·rw [if_neg hi] at q1; exact .inr ⟨hj, hi, q1, q2⟩
   have hio : mlook M i ≠ none := by rw [ho]; simp
   rcases back h1 h3 h5 with ⟨e1, e2⟩ | ⟨q1, q2, q3, q4⟩ <;> rcases back h2 h4 h6 with ⟨e3, e4⟩ | ⟨p1, p2, p3, p4⟩
   ·rw [e1, e3]
   ·subst e2
    exact absurd (hm.inj j' i _ _ _ p3 hio p4 hG h6 hbk) p2
   ·subst e4
    exact absurd (hm.inj j i _ _ _ q3 hio q4 hG h5 hbk) q2
   ·exact hm.inj j j' _ _ _ q3 p3 q4 p4 h5 h6
 exact ⟨hm', S⟩
theorem ok_rest {nx id i n esz : Nat} {nl : Bool} {es : List (List AV)} {t e : TypeId} {v : Value} {lo : Value} {q : IntKind} {k : Int} (hm : SimM P G F M nx w) (hid : G id = none) (hlt : id < nx) (ht : telem P t = some e) (hinf : tinf P e = true) (hv : RV G F M w v (.tl i n nl)) (ho : mlook M i = some (.arr esz es false))
  (hn : n = es.length) (hne : n ≠ 0) (hlo : lo = .int q k) (h0 : 0 ≤ k) (hk : k.toNat ≤ n) (hsz : esz = P.cellsOf e) :
  OpOk P G F M nx w id ((do pure (Next.value (← Instr.sliceAt t v (some lo) none none)) : Sem Next).run P w) (.tl id (n - k.toNat) false) ((id, .arr esz (es.drop k.toNat) false) :: mdel M i) := by
 obtain ⟨hG, hnl, va, vc, rfl, hcase⟩ := tl_handle hm hv ho hn
 rcases hcase with ⟨h1, _⟩ | ⟨b, ko, cc, e0, rfl, k2, k3, k4, _⟩
 ·subst h1; exact absurd hn hne
 rw [← hn] at hG k4
 obtain ⟨hm', S⟩ := simM_cut hm hid hlt ho hG k2 hn hk
 have hun := telem_inv ht
 have hrun : (Instr.sliceAt t (.slice (some ⟨b, ko, none⟩) n vc) (some lo) none none).run P w = .ok (.slice (some ⟨b, if vc = k.toNat then ko else ko + k.toNat * esz, none⟩) (n - k.toNat) (vc - k.toNat)) w := by
  have hb : (Instr.sliceBounds true n vc (some lo) none none).run P w = .ok (k.toNat, n, vc) w := by
   simp [Instr.sliceBounds, hlo, run_bound (P := P) (w := w) (k := q) (i := k) (y := n) (code := .sliceB) h0 (by omega)]
  simp only [Instr.sliceAt, Sem.run_bind, run_under hun, Result.andThen_ok, Instr.slice, hb, info_size (w := w) (show ¬ tinf P e = false by rw [hinf]; simp), Sem.run_pure]
  congr 2
  split
  ·rename_i h; rfl
  ·rename_i h; simp only [Option.map_some, add_eq, ← hsz]
 rw [← hn]
 refine ⟨_, w, _, F, .inl (run_v hrun), hm', S, ?_, fun j hj hG => by rw [upG_other G _ hj]; exact hG⟩
 have hl : n - k.toNat = (es.drop k.toNat).length := by rw [List.length_drop]; omega
 refine .tl id _ false _ (by rw [upG_self]; simp) fun esz' es' fz' ho' => ?_
 rw [mlook_cons, if_pos rfl] at ho'; cases ho'
 exact ⟨by rw [hl]; exact Nat.le_refl _, fun _ => ⟨by rw [upG_self], rfl⟩⟩
end
def R.val1 : R → AV
 | .val v => v
 | .new v _ => v
 | .upd v _ _ => v
 | .key v _ _ => v
def R.memL (id : Nat) (M : Mem) : R → Mem
 | .val _ => M
 | .new _ o => (id, o) :: M
 | .upd _ i o => mset M i o
 | .key _ i o => (id, o) :: mdel M i
def R.stp (fr : Fr) (st : St) (d : Option Nat) (r : R) : St := (⟨st.vars, st.tmps, r.memL st.nx st.mem, st.nx + 1⟩ : St).put fr d r.val1
section
variable {P : Program} {G : Nat → Option Value} {F : Nat → Nat → Prop} {M : Mem} {w : World} {nx id : Nat} {r : R} {o : Oper}
theorem efR_ok {ef : Ef} {run : Result Next} (h : EfOk P G F M nx w id run ef) (hf : EfR ef r) : OpOk P G F M nx w id run r.val1 (r.memL id M) := by
 cases ef <;> cases r <;> first
  | exact hf.elim
  | (obtain ⟨h1, h2⟩ := hf; subst h2; exact h h1)
  | (obtain ⟨h1, h2, h3⟩ := hf; subst h2; subst h3; exact h h1)
  | (obtain ⟨h1, h2, h3, h4⟩ := hf; subst h2; subst h3; subst h4; exact h h1)
theorem OpOk.valR {run : Result Next} {u : Value} {v : AV} (hm : SimM P G F M nx w) (hr : RV G F M w u v) (h : run = .ok (.value u) w) : OpOk P G F M nx w id run v M :=
 ⟨u, w, G, F, .inl h, hm, .refl, hr, fun _ _ h => h⟩
theorem xopT_ok {fr : Fr} {st : St} {ρ : Operand → Value} {ev : Operand → Option AV} {L : Nat → Option RObj} (hm : SimM P G F st.mem nx w) (hρ : ∀ x, RV G F st.mem w (ρ x) (opnd fr st x)) (hc : ∀ v, ρ (.const v) = v) (hid : G id = none) (hn : id < nx)
  (he : EvOk fr st ev) (hL : LOk st L) (hown : o.dst.isSome = true → ownSlot fr o.dst = true) (h : xopT P ev L id o = some r) : OpOk P G F st.mem nx w id ((execOp ρ o).run P w) r.val1 (r.memL id st.mem) := by
 have fin : EfR (xop P fr st true id o) r → OpOk P G F st.mem nx w id ((execOp ρ o).run P w) r.val1 (r.memL id st.mem) := fun hf => efR_ok (xop_ok hm hρ hc hid hn o) hf
 have val : (∃ u, (execOp ρ o).run P w = .ok (.value u) w ∧ r = .val (.sc u)) → OpOk P G F st.mem nx w id ((execOp ρ o).run P w) r.val1 (r.memL id st.mem) := fun ⟨u, h1, h2⟩ => by
  subst h2; exact .valR hm (.imm (.sc _)) h1
 have rd : ∀ {x : Operand} {v : AV}, ev x = some v → RV G F st.mem w (ρ x) v := fun {x v} hx => by
  have e := he.some hx
  rw [← e]; exact (hρ x).unopt
 obtain ⟨dst, op, ty, pos, after, guard⟩ := o
 cases op
 case move x =>
  simp only [xopT] at h; split at h
  ·rename_i v hv; cases h; exact .valR hm (rd hv) rfl
  ·cases h
 case assign x =>
  simp only [xopT] at h; split at h
  ·rename_i v hv; cases h; exact .valR hm (rd hv) rfl
  ·cases h
 case pick c x y =>
  simp only [xopT] at h; split at h
  ·rename_i hc
   have ec := (rd hc).inv_sc
   split at h
   ·rename_i v hv; cases h; exact .valR hm (rd hv) (by simp [execOp, ec, asBool])
   ·cases h
  ·rename_i hc
   have ec := (rd hc).inv_sc
   split at h
   ·rename_i v hv; cases h; exact .valR hm (rd hv) (by simp [execOp, ec, asBool])
   ·cases h
  ·cases h
 case alloc => exact fin (o_alloc h)
 case box => exact fin (o_box he hL h)
 case build => exact fin (o_build he hL h)
 case buildSlice => exact fin (o_buildSlice he hL hown h)
 case load => exact fin (o_load he hL h)
 case store => exact fin (o_store he hL h)
 case nilCheck => exact fin (o_nilCheck he hL h)
 case fieldAddr => exact fin (o_fieldAddr he hL h)
 case field => exact fin (o_field he h)
 case indexAddr => exact fin (o_indexAddr he hL h)
 case index =>
  rcases o_index he h with h | ⟨h1, h2⟩
  ·exact fin h
  ·exact val (run_strIx hρ h1 h2)
 case binOp =>
  rcases o_binOp he hL h with h | ⟨p, q, h1, h2, h3⟩
  ·exact fin h
  ·exact val (run_strT hρ h1 h2 h3)
 case unOp => exact fin (o_unOp he h)
 case convert => exact fin (o_convert he h)
 case makeFunc => exact fin (o_makeFunc he h)
 case extract => exact fin (o_extract he h)
 case makeSlice => exact fin (o_makeSlice he hown h)
 case makeMap => exact fin (o_makeMap he h)
 case lookup => exact fin (o_lookup he hL h)
 case mapUpdate => exact fin (o_mapUpdate he hL h)
 case insert => exact fin (o_insert he hL h)
 case slice t x lo hi mx =>
  rcases o_slice he hL h with h | ⟨h1, h2⟩ | ⟨e, i, n, nl, esz, es, q, k, z, rfl, rfl, rfl, h1, h2, h3, h4, h5, h6, h7, h8, h9, h10, rfl⟩
  ·exact fin h
  ·exact val (run_strSl hρ h1 h2)
  ·have hx : RV G F st.mem w (ρ x) (.tl i n nl) := by rw [← h3]; exact ((hρ x).unopt).snap hm
   have hz : ρ z = .int q k := by
    have := (hρ z).unopt
    rw [show unopt true (opnd fr st z) = .sc (.int q k) from h8] at this
    exact this.inv_sc
   have := ok_rest hm hid hn h1 h2 hx h4 h5 h6 hz h9 (by omega) h7
   rw [h10, List.drop_length, show n - es.length = 0 by omega] at this
   exact this
 case call => exact fin (o_call he hL hown h)
 all_goals (simp only [xopT] at h; cases h)
end
section
variable {base sz : Nat} {s : ES} {st : St} {P : Program} {ds : DS} {G : Nat → Option Value} {F : Nat → Nat → Prop} {a : Act} {w : World} {o : Oper} {r : R}
theorem unopt_ofVal (v : Value) : unopt true (ofVal v) = ofVal v := by
 unfold ofVal
 split
 ·rfl
 ·unfold ofCell; split <;> rfl
theorem Abs.ev (A : Abs (allF base sz) s st) : EvOk (allF base sz) st (opT s.tm) := by
 intro x
 cases h : opT s.tm x with
 | none => exact .inl rfl
 | some v =>
   right
   have e := A.op h
   rw [od, e]
   congr 1
   cases x with
   | tmp t =>
     simp only [opT] at h
     split at h
     ·cases h
     ·cases h
     ·rename_i hj ho
      have h := Option.some.inj h
      rw [h] at ho hj
      cases v <;> first
       | rfl
       | exact (ho _ _ rfl).elim
   | const c => cases h; exact (unopt_ofVal c).symm
   | global g =>
     simp only [opT] at h
     split at h
     ·cases h; rfl
     ·cases h
   | func f => cases h; rfl
theorem Abs.lk (A : Abs (allF base sz) s st) : LOk st (fun i => T.get none s.mem i) := fun i => by
 rcases A.mem i with h | h
 ·exact .inl h
 ·exact .inr h.symm
theorem Abs.eff (A : Abs (allF base sz) s st) {d : Option Nat} (hd : dok (allF base sz) d = true) (r : R) : Abs (allF base sz) (s.eff d r) (r.stp (allF base sz) st d) := by
 have hn : Nat.add s.nx 1 = st.nx + 1 := by rw [A.nx]
 have hnew : ∀ {m : T (Option RObj)} {M : Mem} (ob : RObj), (∀ i, T.get none m i = none ∨ mlook M i = T.get none m i) → ∀ i, T.get none (T.put m (some ob) s.nx) i = none ∨ mlook ((st.nx, ob) :: M) i = T.get none (T.put m (some ob) s.nx) i := fun {m M} ob hm i => by
  rcases T.get_put none (some ob) m s.nx i with h | h
  ·exact .inl h
  ·rw [h]; simp only [mlook, A.nx]
   by_cases hi : i = st.nx
   ·rw [if_pos hi, if_pos hi]; exact .inr rfl
   ·rw [if_neg hi, if_neg hi]; exact hm i
 cases r with
 | val v => exact Abs.put (s := ⟨s.tm, s.mem, Nat.add s.nx 1⟩) (st := ⟨st.vars, st.tmps, st.mem, st.nx + 1⟩) ⟨A.tmps, A.slot, A.mem, hn⟩ hd v
 | new v ob => exact Abs.put (s := ⟨s.tm, T.put s.mem (some ob) s.nx, Nat.add s.nx 1⟩) (st := ⟨st.vars, st.tmps, (st.nx, ob) :: st.mem, st.nx + 1⟩) ⟨A.tmps, A.slot, hnew ob A.mem, hn⟩ hd v
 | upd v j ob =>
   refine Abs.put (s := ⟨s.tm, T.put s.mem (some ob) j, Nat.add s.nx 1⟩) (st := ⟨st.vars, st.tmps, mset st.mem j ob, st.nx + 1⟩) ⟨A.tmps, A.slot, fun i => ?_, hn⟩ hd v
   rcases T.get_put none (some ob) s.mem j i with h | h
   ·exact .inl h
   ·simp only; rw [h, mlook_mset]
    by_cases hi : i = j
    ·rw [if_pos hi, if_pos hi]; exact .inr rfl
    ·rw [if_neg hi, if_neg hi]; exact A.mem i
 | key v j ob =>
   refine Abs.put (s := ⟨s.tm, T.put (T.put s.mem none j) (some ob) s.nx, Nat.add s.nx 1⟩) (st := ⟨st.vars, st.tmps, (st.nx, ob) :: mdel st.mem j, st.nx + 1⟩) ⟨A.tmps, A.slot, hnew ob (fun i => ?_), hn⟩ hd v
   rcases T.get_put none none s.mem j i with h | h
   ·exact .inl h
   ·rw [h, mlook_mdel]
    by_cases hi : i = j
    ·rw [if_pos hi]; exact .inl rfl
    ·rw [if_neg hi, if_neg hi]; exact A.mem i
def OpTo (P : Program) (fr : Fr) (ds : DS) (G : Nat → Option Value) (F : Nat → Nat → Prop) (st : St) (a : Act) (w : World) (o : Oper) (st1 : St) : Prop :=
 ∃ u w' G' F', ((execOp a.eval o).run P w = .ok (.value u) w' ∨ ((execOp a.eval o).run P w = .ok .skip w' ∧ u = undef)) ∧ SimA P fr ds G' F' st1 (a.put o.dst u) w' ∧ Step All G F st.mem w G' F' st1.mem w'
theorem xopT_run (A : Abs (allF base sz) s st) (S : SimA P (allF base sz) ds G F st a w) (hd : dok (allF base sz) o.dst = true)
  (h : xopT P (opT s.tm) (fun i => T.get none s.mem i) s.nx o = some r) : OpTo P (allF base sz) ds G F st a w o (r.stp (allF base sz) st o.dst) := by
 rw [A.nx] at h
 obtain ⟨u, w', G', F', hrun, hm', S', hr, hfr⟩ := xopT_ok (S.sim.mem.more (Nat.le_succ _)) S.eval (fun _ => rfl) (S.fresh _ (Nat.le_refl _)) (Nat.lt_succ_self _) A.ev A.lk (fun h => allF_own hd h) h
 refine ⟨u, w', G', F', hrun, ?_, by rw [R.stp, St.put_mem]; exact S'⟩
 exact S.step_put (st1 := ⟨st.vars, st.tmps, r.memL st.nx st.mem, st.nx + 1⟩) S' hm' rfl rfl (fun j hj => hfr j (by show j ≠ st.nx; have : st.nx + 1 ≤ j := hj; omega) (S.fresh j (by have : st.nx + 1 ≤ j := hj; omega))) (dok_spec hd) hr
end
open Go Go.ChangeShapes Go.RowKit
def Live (w : World) : Nat → Nat → Prop := fun b _ => b < w.heap.size
section
variable {H : Type} {enc : TypeId × Value → H} {P : Program} {w : World} {α β : Type}
def Fits (P : Program) (t : TypeId) (d : DataW H) : Prop := ∀ n ∈ d.weights P t, n ≤ reachBytes
theorem fits_all {P : Program} {e : TypeId} : ∀ {l : List (DataW H)}, (∀ n ∈ DataW.weightsAll P e l, n ≤ reachBytes) → ∀ d ∈ l, Fits P e d
 | [], _, d, hd => by cases hd
 | a :: l, h, d, hd => by
   simp only [DataW.weightsAll, List.mem_append] at h
   rcases List.mem_cons.1 hd with rfl | hd
   ·exact fun n hn => h n (.inl hn)
   ·exact fits_all (fun n hn => h n (.inr hn)) d hd
theorem fits_each {P : Program} : ∀ {ts : List TypeId} {l : List (DataW H)}, (∀ n ∈ DataW.weightsEach P ts l, n ≤ reachBytes) → ∀ (i : Nat) t d, ts[i]? = some t → l[i]? = some d → Fits P t d
 | [], _, _, i, t, d, h1, _ => by simp at h1
 | _ :: _, [], _, i, t, d, _, h2 => by simp at h2
 | a :: ts, b :: l, h, i, t, d, h1, h2 => by
   simp only [DataW.weightsEach, List.mem_append] at h
   cases i with
   | zero =>
     simp only [List.getElem?_cons_zero, Option.some.injEq] at h1 h2
     subst h1; subst h2
     exact fun n hn => h n (.inl hn)
   | succ i => exact fits_each (fun n hn => h n (.inr hn)) i t d (by simpa using h1) (by simpa using h2)
def Reads (enc : TypeId × Value → H) (P : Program) (w : World) (t : TypeId) (f : α → List AV) (Ok : α → Prop) : Prop :=
 ∀ fuel cs x, Fits P t x.1 → DataW.trod enc P w 0 (fun _ => true) true fuel t cs = some x →
   ∃ a, Ok a ∧ Imms (Live w) w cs (f a) ∧ ∀ v ∈ cs, v.oneCell' = true
theorem Imms.one {F : Nat → Nat → Prop} {v : Value} {x : AV} (h : Imm F w v x) : Imms F w [v] [x] :=
 ⟨rfl, fun i h1 _ => by have : i = 0 := by simpa using h1
                        subst this; exact h⟩
theorem Imms.append {F : Nat → Nat → Prop} {vs vs' : List Value} {xs xs' : List AV} (h : Imms F w vs xs) (h' : Imms F w vs' xs') : Imms F w (vs ++ vs') (xs ++ xs') := by
 have e := h.1
 have e' := h'.1
 refine ⟨by simp [e, e'], fun i h1 h2 => ?_⟩
 by_cases hi : i < vs.length
 ·rw [List.getElem_append_left hi, List.getElem_append_left (by omega)]; exact h.2 i _ _
 ·rw [List.getElem_append_right (by omega), List.getElem_append_right (by omega)]
  have := h'.2 (i - vs.length) (by simp at h1; omega) (by simp at h2; omega)
  simpa only [e] using this
theorem Reads.mono {t : TypeId} {f : α → List AV} {Ok : α → Prop} {g : β → List AV} {Ok' : β → Prop} (h : Reads enc P w t f Ok) (hq : ∀ a, Ok a → ∃ b, Ok' b ∧ g b = f a) : Reads enc P w t g Ok' :=
 fun fuel cs x hs ht => let ⟨a, h1, h2, h3⟩ := h fuel cs x hs ht; let ⟨b, k1, k2⟩ := hq a h1; ⟨b, k1, by rw [k2]; exact h2, h3⟩
theorem Reads.int {t : TypeId} {k : IntKind} (ht : P.underlying t = some (.int k)) : Reads enc P w t (fun n : Int => [.sc (.int k n)]) (fun n => (Lit.int k n).wf = true) := fun fuel cs x _ h => by
 obtain ⟨n, rfl, rfl, hw⟩ := DataW.trod_int ht h
 exact ⟨n, hw, .one (.sc _), by simp [Value.oneCell']⟩
theorem Reads.bool {t : TypeId} (ht : P.underlying t = some .bool) : Reads enc P w t (fun b : Bool => [.sc (.bool b)]) (fun _ => True) := fun fuel cs x _ h => by
 obtain ⟨b, rfl, rfl⟩ := DataW.trod_bool ht h
 exact ⟨b, trivial, .one (.sc _), by simp [Value.oneCell']⟩
theorem pick {α : Type} {p : Nat → α → Prop} (n : Nat) (h : ∀ i, i < n → ∃ a, p i a) : ∃ l : List α, l.length = n ∧ ∀ i (hi : i < l.length), p i l[i] := by
 induction n with
 | zero => exact ⟨[], rfl, fun i hi => by simp at hi⟩
 | succ n ih =>
   obtain ⟨l, h1, h2⟩ := ih fun i hi => h i (by omega)
   obtain ⟨a, ha⟩ := h n (by omega)
   refine ⟨l ++ [a], by simp [h1], fun i hi => ?_⟩
   by_cases h3 : i < l.length
   ·rw [List.getElem_append_left h3]; exact h2 i h3
   ·have : i = l.length := by simp at hi; omega
    subst this
    rw [List.getElem_append_right (Nat.le_refl _)]
    simpa [h1] using ha
theorem Reads.slice {t e : TypeId} {f : α → List AV} {Ok : α → Prop} (ht : P.underlying t = some (.slice e)) (he : Reads enc P w e f Ok) (hz : ∀ a, (f a).length = P.cellsOf e) (hz0 : 0 < P.cellsOf e) :
  Reads enc P w t (fun x : Bool × List α => [.sl x.1 (x.2.map f) .unk]) (fun x => (∀ y ∈ x.2, Ok y) ∧ (x.1 = true → x.2 = []) ∧ x.2.length * P.bytesOf e ≤ reachBytes) := fun fuel cs x hs h => by
 rcases DataW.trod_slice ht h with ⟨rfl, rfl⟩ | ⟨a, len, cap, elems, rest, n, rfl, rfl, rfl, _, hlc, hcm, hlen, hel, hrest, _⟩
 ·exact ⟨(true, []), ⟨by simp, fun _ => rfl, by simp⟩, .one (.nil _ (.inl rfl)), by simp [Value.oneCell']⟩
 unfold Fits at hs
 simp only [DataW.weights, ht, List.mem_cons, List.mem_append, List.length_map] at hs
 have hbytes : len * P.bytesOf e ≤ reachBytes := by
  have := hs _ (.inl rfl)
  rw [hlen, Nat.add_mul] at this; omega
 have hfit : ∀ i (hi : i < elems.length), Fits P e elems[i].1 := fun i hi =>
  fits_all (l := elems.map (·.1)) (fun n hn => hs n (.inr (.inl hn))) _ (List.mem_map.2 ⟨_, List.getElem_mem hi, rfl⟩)
 by_cases hc0 : cap = 0
 ·have hl0 : len = 0 := by omega
  subst hc0; subst hl0
  exact ⟨(false, []), ⟨by simp, by simp, by simp⟩, .one (.sz a _ (.inl rfl)), by simp [Value.oneCell']⟩
 have hfirst : ∃ v, w.cell? a = some v := by
  have hcells : ∃ cs', w.cells? 0 a (P.cellsOf e) = some cs' := by
   by_cases hl0 : len = 0
   ·subst hl0
    have h1 := (hrest rfl).2 0 (by omega)
    rw [List.getElem?_eq_getElem (by rw [(hrest rfl).1]; omega)] at h1
    obtain ⟨cs', h2, _⟩ := Option.bind_eq_some_iff.1 h1
    refine ⟨cs', ?_⟩
    simpa [Addr.add] using h2
   ·have h1 := hel 0 (by omega)
    rw [List.getElem?_eq_getElem (by omega)] at h1
    obtain ⟨cs', h2, _⟩ := Option.bind_eq_some_iff.1 h1
    refine ⟨cs', ?_⟩
    simpa [Addr.add] using h2
  obtain ⟨cs', h2⟩ := hcells
  obtain ⟨_, q1, q2⟩ := World.cells?_some h2
  have := q2 0 hz0
  rw [List.getElem?_eq_getElem (by omega)] at this
  exact ⟨_, by simpa [Addr.add] using this⟩
 have hsp : a.spot = none := by
  obtain ⟨v, hv⟩ := hfirst
  unfold World.cell? at hv
  cases hsp : a.spot with
  | none => rfl
  | some k =>
    rw [hsp] at hv
    split at hv <;> simp at hv
 obtain ⟨b, off, spt⟩ := a
 cases hsp
 have key : ∀ i, i < len → ∃ y : α, Ok y ∧ ∃ cs', cs'.length = P.cellsOf e ∧ (∀ j (hj : j < cs'.length), w.cell? ⟨b, off + i * P.cellsOf e + j, none⟩ = some cs'[j]) ∧ Imms (Live w) w cs' (f y) ∧ ∀ v ∈ cs', v.oneCell' = true := fun i hi => by
  have h1 := hel i hi
  rw [List.getElem?_eq_getElem (by omega)] at h1
  obtain ⟨cs', h2, h3⟩ := Option.bind_eq_some_iff.1 h1
  obtain ⟨y, k1, k2, k3⟩ := he _ _ _ (hfit i (by omega)) h3
  obtain ⟨_, q1, q2⟩ := World.cells?_some h2
  refine ⟨y, k1, cs', q1, fun j hj => ?_, k2, k3⟩
  have := q2 j (by omega)
  rw [List.getElem?_eq_getElem hj] at this
  rw [← this]
  congr 1
  unfold Addr.add
  by_cases e1 : i * P.cellsOf e = 0
  ·rw [if_pos e1]
   by_cases e2 : j = 0
   ·subst e2; simp [e1]
   ·rw [if_neg e2]; simp [e1]
  ·rw [if_neg e1]
   by_cases e2 : j = 0
   ·subst e2; simp
   ·rw [if_neg e2]
 obtain ⟨l, hl, hp⟩ := pick len key
 refine ⟨(false, l), ⟨fun y hy => ?_, by simp, by rw [hl]; exact hbytes⟩, .one ?_, by simp [Value.oneCell']⟩
 ·obtain ⟨i, hi, rfl⟩ := List.getElem_of_mem hy
  exact (hp i hi).1
 ·
  have hcell : ∀ i j, i < len → j < P.cellsOf e → ∃ v, w.cell? ⟨b, off + i * P.cellsOf e + j, none⟩ = some v ∧ v.oneCell' = true ∧ ∀ (h : i < l.length) (h' : j < (f l[i]).length), Imm (Live w) w v (f l[i])[j] := fun i j hi hj => by
   obtain ⟨_, cs', q1, q2, q3, q4⟩ := hp i (by omega)
   exact ⟨cs'[j], q2 j (by omega), q4 _ (List.getElem_mem _), fun h h' => q3.2 j (by omega) h'⟩
  have hv := fun i j => show ∃ v, i < len → j < P.cellsOf e → w.cell? ⟨b, off + i * P.cellsOf e + j, none⟩ = some v ∧ v.oneCell' = true ∧ ∀ (h : i < l.length) (h' : j < (f l[i]).length), Imm (Live w) w v (f l[i])[j] from by
   by_cases h : i < len ∧ j < P.cellsOf e
   ·obtain ⟨v, hv⟩ := hcell i j h.1 h.2; exact ⟨v, fun _ _ => hv⟩
   ·exact ⟨undef, fun h1 h2 => absurd ⟨h1, h2⟩ h⟩
  have hvs : ∀ i j, ∃ v, v = Classical.choose (hv i j) := fun i j => ⟨_, rfl⟩
  have e0 : (l.map f).length = len := by simp [hl]
  have := Imm.sl (F := Live w) (w := w) b off cap (P.cellsOf e) (l.map f) .unk (fun i j => Classical.choose (hv i j)) (by rw [e0]; exact hlc) (.inl rfl) (fun i hi => by rw [List.getElem_map]; exact hz _)
   (fun i j hi hj => by
    obtain ⟨k1, k2, _⟩ := Classical.choose_spec (hv i j) (by rw [← e0]; exact hi) hj
    refine ⟨?_, k1, k2⟩
    unfold World.cell? at k1
    show b < w.heap.size
    cases hb : w.heap[b]? with
    | none => simp [hb] at k1
    | some o => exact (Array.getElem?_eq_some_iff.1 hb).1)
   (fun i j h h' => by
    have h'2 := h'
    rw [List.getElem_map, hz] at h'2
    have := (Classical.choose_spec (hv i j) (by rw [← e0]; exact h) h'2).2.2 (by simpa using h) (by rw [hz]; exact h'2)
    simpa only [List.getElem_map] using this)
  rw [e0] at this
  exact this
def RdF (enc : TypeId × Value → H) (P : Program) (w : World) (L : List Field) (k tot : Nat) (f : α → List AV) (Ok : α → Prop) : Prop :=
 ∀ (n : Nat) (cs : List Value), cs.length = tot → (∀ fd ∈ L, ∃ y, DataW.trod enc P w 0 (fun _ => true) true n fd.type ((cs.drop fd.offset).take (P.cellsOf fd.type)) = some y ∧ Fits P fd.type y.1) →
   ∃ a, Ok a ∧ Imms (Live w) w (cs.drop k) (f a) ∧ ∀ v ∈ cs.drop k, v.oneCell' = true
theorem RdF.nil {tot : Nat} : RdF enc P w [] tot tot (fun _ : Unit => []) (fun _ => True) := fun n cs hl _ => by
 have : cs.drop tot = [] := by rw [List.drop_eq_nil_iff]; omega
 rw [this]
 exact ⟨(), trivial, ⟨rfl, fun i h => by simp at h⟩, by simp⟩
theorem RdF.cons {fd : Field} {fs : List Field} {k k' sz tot : Nat} {f : α → List AV} {Ok : α → Prop} {g : β → List AV} {Ok' : β → Prop} (ho : fd.offset = k) (hz : P.cellsOf fd.type = sz) (hk : k + sz = k')
  (h : Reads enc P w fd.type f Ok) (hs : RdF enc P w fs k' tot g Ok') : RdF enc P w (fd :: fs) k tot (fun x : α × β => f x.1 ++ g x.2) (fun x => Ok x.1 ∧ Ok' x.2) := fun n cs hl hf => by
 obtain ⟨y, hy, hyf⟩ := hf fd List.mem_cons_self
 obtain ⟨a, h1, h2, h3⟩ := h _ _ _ hyf hy
 obtain ⟨b, k1, k2, k3⟩ := hs n cs hl fun fd' h' => hf fd' (List.mem_cons_of_mem _ h')
 have e : cs.drop k = (cs.drop k).take sz ++ cs.drop k' := by
  rw [← hk, ← List.drop_drop, List.take_append_drop]
 rw [ho, hz] at h2 h3
 refine ⟨(a, b), ⟨h1, k1⟩, by rw [e]; exact h2.append k2, fun v hv => ?_⟩
 rw [e, List.mem_append] at hv
 rcases hv with hv | hv
 ·exact h3 v hv
 ·exact k3 v hv
theorem Reads.struct {t : TypeId} {fs : Array Field} {tot : Nat} {f : α → List AV} {Ok : α → Prop} (ht : P.underlying t = some (.struct fs)) (hz : P.cellsOf t = tot) (h : RdF enc P w fs.toList 0 tot f Ok) : Reads enc P w t f Ok := fun fuel cs x hs hx => by
 obtain ⟨xs, n, _, rfl, hl, hlen, hf⟩ := DataW.trod_struct ht hx
 unfold Fits at hs
 simp only [DataW.weights, ht] at hs
 obtain ⟨a, h1, h2, h3⟩ := h n cs (hl.trans hz) fun fd hfd => by
  obtain ⟨i, hi, rfl⟩ := List.getElem_of_mem hfd
  have := hf i fs.toList[i] (by simp)
  have hix : i < xs.length := by simp at hi; omega
  rw [List.getElem?_eq_getElem hix] at this
  exact ⟨_, this, fits_each hs i _ _ (by rw [List.getElem?_map, List.getElem?_eq_getElem hi]; rfl) (by rw [List.getElem?_map, List.getElem?_eq_getElem hix]; rfl)⟩
 exact ⟨a, h1, by simpa using h2, by simpa using h3⟩
theorem arr_go {sz : Nat} {f : α → List AV} {Ok : α → Prop} : ∀ (n : Nat) (cs : List Value), cs.length = n * sz →
  (∀ i, i < n → ∃ a, Ok a ∧ Imms (Live w) w ((cs.drop (i * sz)).take sz) (f a) ∧ ∀ v ∈ (cs.drop (i * sz)).take sz, v.oneCell' = true) →
  ∃ l : List α, l.length = n ∧ (∀ a ∈ l, Ok a) ∧ Imms (Live w) w cs (l.map f).flatten ∧ ∀ v ∈ cs, v.oneCell' = true
 | 0, cs, hl, _ => by
   have : cs = [] := by cases cs with
    | nil => rfl
    | cons a l => simp at hl
   subst this
   exact ⟨[], rfl, by simp, ⟨rfl, fun i h => by simp at h⟩, by simp⟩
 | n + 1, cs, hl, h => by
   obtain ⟨a, h1, h2, h3⟩ := h 0 (by omega)
   obtain ⟨l, k1, k2, k3, k4⟩ := arr_go (sz := sz) n (cs.drop sz) (by rw [List.length_drop, hl, Nat.add_mul]; omega) fun i hi => by
    have := h (i + 1) (by omega)
    rwa [List.drop_drop, show sz + i * sz = (i + 1) * sz by rw [Nat.add_mul]; omega]
   simp only [Nat.zero_mul, List.drop_zero] at h2 h3
   have e := List.take_append_drop sz cs
   refine ⟨a :: l, by simp [k1], fun b hb => ?_, ?_, fun v hv => ?_⟩
   ·rcases List.mem_cons.1 hb with rfl | hb
    ·exact h1
    ·exact k2 b hb
   ·rw [← e]; simpa using h2.append k3
   ·rw [← e, List.mem_append] at hv
    rcases hv with hv | hv
    ·exact h3 v hv
    ·exact k4 v hv
theorem Reads.array {t e : TypeId} {n sz : Nat} {f : α → List AV} {Ok : α → Prop} (ht : P.underlying t = some (.array n e)) (hz : P.cellsOf e = sz) (ha : P.cellsOf t = n * sz) (h : Reads enc P w e f Ok) :
  Reads enc P w t (fun l : List α => (l.map f).flatten) (fun l => l.length = n ∧ ∀ a ∈ l, Ok a) := fun fuel cs x hs hx => by
 obtain ⟨xs, m, _, rfl, hl, hlen, hf⟩ := DataW.trod_array ht hx
 rw [ha] at hl
 rw [hz] at hf
 unfold Fits at hs
 simp only [DataW.weights, ht] at hs
 obtain ⟨l, h1, h2, h3, h4⟩ := arr_go n cs hl fun i hi => by
  have := hf i hi
  rw [List.getElem?_eq_getElem (by omega)] at this
  exact h _ _ _ (fits_all hs _ (List.mem_map.2 ⟨_, List.getElem_mem _, rfl⟩)) this
 exact ⟨l, ⟨h1, h2⟩, h3, h4⟩
theorem Reads.imm_struct {t : TypeId} {fs : Array Field} {f : α → List AV} {Ok : α → Prop} {r : Reach} {b0 : Nat} {v : Value} {d : DataW H} {ps : List MemPlace} (ht : P.underlying t = some (.struct fs)) (h : Reads enc P w t f Ok)
  (hv : Value.okWide P w r b0 t v) (hw : Fits P t d) (hd : DataW.Trod enc P w 0 (fun _ => true) true t v d ps) : ∃ a, Ok a ∧ Imm (Live w) w v (.ag (f a)) := by
 obtain ⟨cs, rfl, _⟩ := WideShapes.okWide_struct ht hv
 obtain ⟨fuel, hd⟩ := hd
 obtain ⟨a, h1, h2, _⟩ := h _ _ _ hw hd
 refine ⟨a, h1, ?_⟩
 have : (Value.agg cs) = .agg cs.toList.toArray := by simp
 rw [this]
 exact .ag _ _ h2.1 h2.2
theorem Grown.below {F F' : Nat → Nat → Prop} {w' : World} (g : Avl.Grown F w F' w') : Below w.heap.size w w' := ⟨g.kept.os, g.kept.tape, g.kept.output, g.size, g.old⟩
theorem trodAll_stays (hl : laidOutB P = true) {w' : World} (hb : Below w.heap.size w w') {spf : Nat → Bool} : ∀ {ts : List TypeId} {vs : List Value} {ds : List (DataW H)} {ps : List MemPlace}, (∀ t ∈ ts, P.readableRec t = true ∧ t < P.types.size) →
  DataW.TrodAll enc P w 0 (fun _ => true) true ts vs ds ps → (∀ p ∈ ps, p.block < w.heap.size) → (∀ p ∈ ps, spf p.block = true) → DataW.TrodAll enc P w' 0 spf true ts vs ds ps
 | [], [], [], _, _, h, _, _ => h
 | t :: ts, v :: vs, d :: ds, _, hr, ⟨p, q, h1, h2, e⟩, hlt, hsp => by
   subst e
   refine ⟨p, q, ?_, trodAll_stays hl hb (fun t ht => hr t (List.mem_cons_of_mem _ ht)) h2 (fun x hx => hlt x (List.mem_append_right _ hx)) fun x hx => hsp x (List.mem_append_right _ hx), rfl⟩
   have := hr t List.mem_cons_self
   exact WideElems.Trod_stays hl this.1 this.2 h1 (fun x hx => hb.same (hlt x (List.mem_append_left _ hx))) fun x hx => hsp x (List.mem_append_left _ hx)
 | [], _ :: _, _, _, _, h, _, _ => h.elim
 | [], [], _ :: _, _, _, h, _, _ => h.elim
 | _ :: _, [], _, _, _, h, _, _ => h.elim
 | _ :: _, _ :: _, [], _, _, h, _, _ => h.elim
theorem post_of_below {f : Func} {s : ChangeSpec} {apart fresh handsOn again : Bool} {W W' : World} {args : Array Value} {v : Value} {ds gs : List (DataW H)} {before pa pv : List MemPlace}
  (hW : DataW.Whole enc P f.params.toList s.vars apart W args.toList ds gs before)
  (hres : ∀ (b : Nat) (sp : Nat → Bool) (hd : Bool), DataW.TrodAll enc P W' b sp hd f.resultTypes.toList (v.resultList f.resultTypes.size) (s.fn H (ds ++ gs)).results [])
  (hargs : ∀ sp : Nat → Bool, (∀ p ∈ before, sp p.block = true) → DataW.TrodAll enc P W' 0 sp true f.params.toList args.toList (s.fn H (ds ++ gs)).args pa)
  (hvars : ∀ sp : Nat → Bool, (∀ p ∈ before, sp p.block = true) → DataW.TrodVars enc P W' sp s.vars (s.fn H (ds ++ gs)).vars pv)
  (hps : before = pa ++ pv) (hk : W.keptBut W' (· ∈ before)) (hfz : ∀ a : Addr, a.block < W.heap.size → W'.frozen? a = W.frozen? a)
  (hok : ∀ (j : Nat) (t : TypeId) (r : Value), f.resultTypes[j]? = some t → (v.resultList f.resultTypes.size)[j]? = some r → Value.okWide P W' .any 0 t r) :
  s.post enc P f apart fresh handsOn again W args v W' := by
 have hlt := hW.lt
 have hold : ∀ p ∈ before, (fun b => decide (b < W.heap.size)) p.block = true := fun p hp => by simpa using hW.lt p hp
 refine ⟨ds, gs, before, [], pa, pv, hW, hres _ _ _, hargs _ hold, hvars _ hold, World.keptBut_mono (fun p hp => ⟨hp, ?_⟩) hk, fun _ => ?_⟩
 ·rw [hps, List.mem_append] at hp
  exact Or.inr hp
 ·obtain ⟨_, _, _, _, _, hz, hn⟩ := hW
  refine ⟨hok, _, _, ([] ++ pa) ++ pv, ⟨[] ++ pa, pv, trodAll_append (hargs _ (fun _ _ => rfl)) (hres _ _ _), hvars _ (fun _ _ => rfl), rfl, ?_, ?_⟩, ?_⟩
  ·intro b off hp
   have hp' : .cell b off ∈ before := by rw [hps]; simpa using hp
   rw [hfz _ (hlt _ hp')]
   exact hz b off hp'
  ·intro ha
   have := hn ha
   rw [hps] at this
   simpa using this
  ·intro p hp _
   rw [hps]
   simpa using hp
theorem law_calls {f : FuncId} {fn : Func} {s : ChangeSpec} {apart fresh handsOn again : Bool} {args : Array Value} {avs : List AV} {ds : List (DataW H)} {before : List MemPlace} {tb : TypeId}
  (hl : laidOutB P = true) (hrd : (fn.params.toList.all fun t => P.readableRec t && decide (t < P.types.size)) = true) (hrt : fn.resultTypes = #[tb]) (htb : P.underlying tb = some .bool) (hvars : s.vars = [])
  (hs : s.fn H (ds ++ []) = { results := [.lit (.bool true)], args := ds })
  (h : PureIs P f avs (.sc (.bool true))) (hi : Imms (Live w) w args.toList avs) (hW : DataW.Whole enc P fn.params.toList s.vars apart w args.toList ds [] before) (hgl : Globs (Live w) w := by exact fun g vs hg => by cases hg) :
  Calls P f args w fun e W' => ∃ v, e = .returned v ∧ s.post enc P fn apart fresh handsOn again w args v W' := by
 have hW' := hW
 obtain ⟨p, q, hA, hV, rfl, hfz, hnd⟩ := hW
 rw [hvars] at hV
 obtain ⟨_, rfl⟩ := trodVars_none hV
 have hc := callsIn_wide.1 (h.2 (Live w) w args.toList ⟨fun _ _ h => h, hgl⟩ hi)
 rw [Array.toArray_toList] at hc
 refine hc.mono fun e W' ⟨v, F', he, hr, g⟩ => ?_
 have hv : v = .bool true := by cases hr; rfl
 subst hv
 have hb := Grown.below g
 refine ⟨_, he, post_of_below (pa := p) (pv := []) (by simpa using hW') (fun _ _ _ => ?_) (fun sp hsp => ?_) (fun _ _ => ?_) (by simp) (hb.frame _) (fun a ha => by unfold World.frozen?; rw [g.old _ ha]) ?_⟩
 ·rw [hs, hrt]; exact trodAll_mk1 (shut_bool htb true)
 ·rw [hs]
  refine trodAll_stays hl hb (fun t ht => ?_) hA (fun x hx => hW'.lt x (by simpa using hx)) fun x hx => hsp x (by simpa using hx)
  have := List.all_eq_true.1 hrd t ht
  simpa using this
 ·rw [hvars, hs]; exact rfl
 ·exact ok_one hrt rfl (okWide_bool_mk htb true)
end
open Go Go.Proofs.Tryz
@[go_sem] theorem ty_cellsOf_1 : Program.cellsOf prog 1 = 1 := by kernel_rfl
@[go_sem] theorem ty_cellsOf_112 : Program.cellsOf prog 112 = 1 := by kernel_rfl
@[go_sem] theorem ty_cellsOf_114 : Program.cellsOf prog 114 = 4 := by kernel_rfl
@[go_sem] theorem ty_cellsOf_134 : Program.cellsOf prog 134 = 64 := by kernel_rfl
@[go_sem] theorem ty_cellsOf_156 : Program.cellsOf prog 156 = 4 := by kernel_rfl
@[go_sem] theorem ty_cellsOf_162 : Program.cellsOf prog 162 = 1 := by kernel_rfl
@[go_sem] theorem ty_cellsOf_185 : Program.cellsOf prog 185 = 3 := by kernel_rfl
@[go_sem] theorem ty_cellsOf_194 : Program.cellsOf prog 194 = 4 := by kernel_rfl
@[go_sem] theorem ty_cellsOf_22 : Program.cellsOf prog 22 = 1 := by kernel_rfl
@[go_sem] theorem ty_cellsOf_24 : Program.cellsOf prog 24 = 5 := by kernel_rfl
@[go_sem] theorem ty_cellsOf_240 : Program.cellsOf prog 240 = 1 := by kernel_rfl
@[go_sem] theorem ty_cellsOf_25 : Program.cellsOf prog 25 = 2 := by kernel_rfl
@[go_sem] theorem ty_cellsOf_27 : Program.cellsOf prog 27 = 2 := by kernel_rfl
@[go_sem] theorem ty_cellsOf_297 : Program.cellsOf prog 297 = 2 := by kernel_rfl
@[go_sem] theorem ty_cellsOf_3 : Program.cellsOf prog 3 = 1 := by kernel_rfl
@[go_sem] theorem ty_cellsOf_30 : Program.cellsOf prog 30 = 1 := by kernel_rfl
@[go_sem] theorem ty_cellsOf_33 : Program.cellsOf prog 33 = 1 := by kernel_rfl
@[go_sem] theorem ty_cellsOf_35 : Program.cellsOf prog 35 = 3 := by kernel_rfl
@[go_sem] theorem ty_cellsOf_38 : Program.cellsOf prog 38 = 1 := by kernel_rfl
@[go_sem] theorem ty_cellsOf_39 : Program.cellsOf prog 39 = 1 := by kernel_rfl
@[go_sem] theorem ty_cellsOf_4 : Program.cellsOf prog 4 = 1 := by kernel_rfl
@[go_sem] theorem ty_cellsOf_5 : Program.cellsOf prog 5 = 1 := by kernel_rfl
@[go_sem] theorem ty_cellsOf_58 : Program.cellsOf prog 58 = 1 := by kernel_rfl
@[go_sem] theorem ty_cellsOf_69 : Program.cellsOf prog 69 = 1 := by kernel_rfl
@[go_sem] theorem ty_cellsOf_72 : Program.cellsOf prog 72 = 1 := by kernel_rfl
@[go_sem] theorem ty_cellsOf_77 : Program.cellsOf prog 77 = 1 := by kernel_rfl
@[go_sem] theorem ty_cellsOf_79 : Program.cellsOf prog 79 = 7 := by kernel_rfl
@[go_sem] theorem ty_cellsOf_87 : Program.cellsOf prog 87 = 1 := by kernel_rfl
@[go_sem] theorem ty_cellsOf_9 : Program.cellsOf prog 9 = 1 := by kernel_rfl
@[go_sem] theorem ty_cellsOf_91 : Program.cellsOf prog 91 = 2 := by kernel_rfl
@[go_sem] theorem ty_eqKinds_112 : eqKinds prog 112 = none := by kernel_rfl
@[go_sem] theorem ty_eqKinds_162 : eqKinds prog 162 = none := by kernel_rfl
@[go_sem] theorem ty_eqKinds_2 : eqKinds prog 2 = none := by kernel_rfl
@[go_sem] theorem ty_eqKinds_209 : eqKinds prog 209 = none := by kernel_rfl
@[go_sem] theorem ty_eqKinds_21 : eqKinds prog 21 = none := by kernel_rfl
@[go_sem] theorem ty_eqKinds_237 : eqKinds prog 237 = none := by kernel_rfl
@[go_sem] theorem ty_eqKinds_240 : eqKinds prog 240 = none := by kernel_rfl
@[go_sem] theorem ty_eqKinds_27 : eqKinds prog 27 = some [Kd.int IntKind.i64, Kd.int IntKind.i64] := by kernel_rfl
@[go_sem] theorem ty_eqKinds_271 : eqKinds prog 271 = none := by kernel_rfl
@[go_sem] theorem ty_eqKinds_287 : eqKinds prog 287 = none := by kernel_rfl
@[go_sem] theorem ty_eqKinds_3 : eqKinds prog 3 = none := by kernel_rfl
@[go_sem] theorem ty_eqKinds_38 : eqKinds prog 38 = none := by kernel_rfl
@[go_sem] theorem ty_eqKinds_39 : eqKinds prog 39 = none := by kernel_rfl
@[go_sem] theorem ty_eqKinds_5 : eqKinds prog 5 = none := by kernel_rfl
@[go_sem] theorem ty_eqKinds_58 : eqKinds prog 58 = none := by kernel_rfl
@[go_sem] theorem ty_eqKinds_9 : eqKinds prog 9 = none := by kernel_rfl
@[go_sem] theorem ty_eqKinds_91 : eqKinds prog 91 = some [Kd.int IntKind.i64, Kd.int IntKind.i64] := by kernel_rfl
@[go_sem] theorem ty_kindsOf_229 : kindsOf prog 8 229 = some [Kd.int IntKind.i64, Kd.int IntKind.i64, Kd.int IntKind.i64, Kd.int IntKind.i64, Kd.int IntKind.i64, Kd.int IntKind.i64, Kd.int IntKind.i64, Kd.int IntKind.i64, Kd.int IntKind.i64, Kd.int IntKind.i64, Kd.int IntKind.i64, Kd.int IntKind.i64, Kd.int IntKind.i64, Kd.int IntKind.i64, Kd.int IntKind.i64, Kd.int IntKind.i64, Kd.int IntKind.i64, Kd.int IntKind.i64, Kd.int IntKind.i64, Kd.int IntKind.i64, Kd.int IntKind.i64, Kd.int IntKind.i64, Kd.int IntKind.i64, Kd.int IntKind.i64, Kd.int IntKind.i64, Kd.int IntKind.i64, Kd.int IntKind.i64, Kd.int IntKind.i64, Kd.int IntKind.i64, Kd.int IntKind.i64, Kd.int IntKind.i64, Kd.int IntKind.i64, Kd.int IntKind.i64] := by kernel_rfl
@[go_sem] theorem ty_kindsOf_3 : kindsOf prog 8 3 = some [Kd.int IntKind.i64] := by kernel_rfl
@[go_sem] theorem ty_kindsOf_91 : kindsOf prog 8 91 = some [Kd.int IntKind.i64, Kd.int IntKind.i64] := by kernel_rfl
@[go_sem] theorem ty_nilTy_112 : nilTy prog 112 = 0 := by kernel_rfl
@[go_sem] theorem ty_nilTy_162 : nilTy prog 162 = 3 := by kernel_rfl
@[go_sem] theorem ty_nilTy_2 : nilTy prog 2 = 0 := by kernel_rfl
@[go_sem] theorem ty_nilTy_209 : nilTy prog 209 = 0 := by kernel_rfl
@[go_sem] theorem ty_nilTy_21 : nilTy prog 21 = 0 := by kernel_rfl
@[go_sem] theorem ty_nilTy_237 : nilTy prog 237 = 0 := by kernel_rfl
@[go_sem] theorem ty_nilTy_240 : nilTy prog 240 = 0 := by kernel_rfl
@[go_sem] theorem ty_nilTy_27 : nilTy prog 27 = 0 := by kernel_rfl
@[go_sem] theorem ty_nilTy_271 : nilTy prog 271 = 0 := by kernel_rfl
@[go_sem] theorem ty_nilTy_287 : nilTy prog 287 = 0 := by kernel_rfl
@[go_sem] theorem ty_nilTy_3 : nilTy prog 3 = 0 := by kernel_rfl
@[go_sem] theorem ty_nilTy_38 : nilTy prog 38 = 1 := by kernel_rfl
@[go_sem] theorem ty_nilTy_39 : nilTy prog 39 = 0 := by kernel_rfl
@[go_sem] theorem ty_nilTy_5 : nilTy prog 5 = 0 := by kernel_rfl
@[go_sem] theorem ty_nilTy_58 : nilTy prog 58 = 1 := by kernel_rfl
@[go_sem] theorem ty_nilTy_9 : nilTy prog 9 = 0 := by kernel_rfl
@[go_sem] theorem ty_nilTy_91 : nilTy prog 91 = 0 := by kernel_rfl
@[go_sem] theorem ty_placeOf_100_0 : placeOf prog 100 0 = some (0, 1) := by kernel_rfl
@[go_sem] theorem ty_placeOf_100_1 : placeOf prog 100 1 = some (1, 1) := by kernel_rfl
@[go_sem] theorem ty_placeOf_100_2 : placeOf prog 100 2 = some (2, 2) := by kernel_rfl
@[go_sem] theorem ty_placeOf_100_3 : placeOf prog 100 3 = some (4, 2) := by kernel_rfl
@[go_sem] theorem ty_placeOf_114_0 : placeOf prog 114 0 = some (0, 1) := by kernel_rfl
@[go_sem] theorem ty_placeOf_114_1 : placeOf prog 114 1 = some (1, 1) := by kernel_rfl
@[go_sem] theorem ty_placeOf_120_0 : placeOf prog 120 0 = some (0, 1) := by kernel_rfl
@[go_sem] theorem ty_placeOf_120_1 : placeOf prog 120 1 = some (1, 1) := by kernel_rfl
@[go_sem] theorem ty_placeOf_124_0 : placeOf prog 124 0 = some (0, 1) := by kernel_rfl
@[go_sem] theorem ty_placeOf_156_0 : placeOf prog 156 0 = some (0, 2) := by kernel_rfl
@[go_sem] theorem ty_placeOf_156_1 : placeOf prog 156 1 = some (2, 1) := by kernel_rfl
@[go_sem] theorem ty_placeOf_156_2 : placeOf prog 156 2 = some (3, 1) := by kernel_rfl
@[go_sem] theorem ty_placeOf_185_0 : placeOf prog 185 0 = some (0, 1) := by kernel_rfl
@[go_sem] theorem ty_placeOf_185_1 : placeOf prog 185 1 = some (1, 1) := by kernel_rfl
@[go_sem] theorem ty_placeOf_185_2 : placeOf prog 185 2 = some (2, 1) := by kernel_rfl
@[go_sem] theorem ty_placeOf_194_0 : placeOf prog 194 0 = some (0, 1) := by kernel_rfl
@[go_sem] theorem ty_placeOf_194_1 : placeOf prog 194 1 = some (1, 1) := by kernel_rfl
@[go_sem] theorem ty_placeOf_194_2 : placeOf prog 194 2 = some (2, 1) := by kernel_rfl
@[go_sem] theorem ty_placeOf_229_0 : placeOf prog 229 0 = some (0, 1) := by kernel_rfl
@[go_sem] theorem ty_placeOf_229_1 : placeOf prog 229 1 = some (1, 32) := by kernel_rfl
@[go_sem] theorem ty_placeOf_27_0 : placeOf prog 27 0 = some (0, 1) := by kernel_rfl
@[go_sem] theorem ty_placeOf_27_1 : placeOf prog 27 1 = some (1, 1) := by kernel_rfl
@[go_sem] theorem ty_placeOf_35_0 : placeOf prog 35 0 = some (0, 1) := by kernel_rfl
@[go_sem] theorem ty_placeOf_35_1 : placeOf prog 35 1 = some (1, 1) := by kernel_rfl
@[go_sem] theorem ty_placeOf_35_2 : placeOf prog 35 2 = some (2, 1) := by kernel_rfl
@[go_sem] theorem ty_placeOf_91_0 : placeOf prog 91 0 = some (0, 1) := by kernel_rfl
@[go_sem] theorem ty_placeOf_91_1 : placeOf prog 91 1 = some (1, 1) := by kernel_rfl
@[go_sem] theorem ty_tarr_101 : tarr prog 101 = none := by kernel_rfl
@[go_sem] theorem ty_tarr_125 : tarr prog 125 = none := by kernel_rfl
@[go_sem] theorem ty_tarr_134 : tarr prog 134 = some (64, 38) := by kernel_rfl
@[go_sem] theorem ty_tarr_149 : tarr prog 149 = none := by kernel_rfl
@[go_sem] theorem ty_tarr_187 : tarr prog 187 = some (64, 134) := by kernel_rfl
@[go_sem] theorem ty_tarr_188 : tarr prog 188 = none := by kernel_rfl
@[go_sem] theorem ty_tarr_196 : tarr prog 196 = none := by kernel_rfl
@[go_sem] theorem ty_tarr_219 : tarr prog 219 = some (5, 9) := by kernel_rfl
@[go_sem] theorem ty_tarr_22 : tarr prog 22 = none := by kernel_rfl
@[go_sem] theorem ty_tarr_226 : tarr prog 226 = some (16, 91) := by kernel_rfl
@[go_sem] theorem ty_tarr_232 : tarr prog 232 = none := by kernel_rfl
@[go_sem] theorem ty_tarr_233 : tarr prog 233 = none := by kernel_rfl
@[go_sem] theorem ty_tarr_247 : tarr prog 247 = some (256, 4) := by kernel_rfl
@[go_sem] theorem ty_tarr_25 : tarr prog 25 = some (2, 5) := by kernel_rfl
@[go_sem] theorem ty_tarr_265 : tarr prog 265 = some (24, 5) := by kernel_rfl
@[go_sem] theorem ty_tarr_285 : tarr prog 285 = some (20, 240) := by kernel_rfl
@[go_sem] theorem ty_tarr_286 : tarr prog 286 = some (65, 5) := by kernel_rfl
@[go_sem] theorem ty_tarr_295 : tarr prog 295 = some (256, 5) := by kernel_rfl
@[go_sem] theorem ty_tarr_298 : tarr prog 298 = some (16, 297) := by kernel_rfl
@[go_sem] theorem ty_tarr_30 : tarr prog 30 = none := by kernel_rfl
@[go_sem] theorem ty_tarr_304 : tarr prog 304 = some (32, 5) := by kernel_rfl
@[go_sem] theorem ty_tarr_305 : tarr prog 305 = some (64, 5) := by kernel_rfl
@[go_sem] theorem ty_tarr_33 : tarr prog 33 = none := by kernel_rfl
@[go_sem] theorem ty_tarr_38 : tarr prog 38 = none := by kernel_rfl
@[go_sem] theorem ty_tarr_58 : tarr prog 58 = none := by kernel_rfl
@[go_sem] theorem ty_tarr_61 : tarr prog 61 = none := by kernel_rfl
@[go_sem] theorem ty_tarr_69 : tarr prog 69 = none := by kernel_rfl
@[go_sem] theorem ty_tarr_72 : tarr prog 72 = none := by kernel_rfl
@[go_sem] theorem ty_tarr_77 : tarr prog 77 = none := by kernel_rfl
@[go_sem] theorem ty_tarr_9 : tarr prog 9 = none := by kernel_rfl
@[go_sem] theorem ty_tarr_91 : tarr prog 91 = some (2, 3) := by kernel_rfl
@[go_sem] theorem ty_tbool_112 : tbool prog 112 = false := by kernel_rfl
@[go_sem] theorem ty_tbool_162 : tbool prog 162 = false := by kernel_rfl
@[go_sem] theorem ty_tbool_2 : tbool prog 2 = false := by kernel_rfl
@[go_sem] theorem ty_tbool_209 : tbool prog 209 = false := by kernel_rfl
@[go_sem] theorem ty_tbool_21 : tbool prog 21 = false := by kernel_rfl
@[go_sem] theorem ty_tbool_237 : tbool prog 237 = false := by kernel_rfl
@[go_sem] theorem ty_tbool_240 : tbool prog 240 = false := by kernel_rfl
@[go_sem] theorem ty_tbool_27 : tbool prog 27 = false := by kernel_rfl
@[go_sem] theorem ty_tbool_271 : tbool prog 271 = false := by kernel_rfl
@[go_sem] theorem ty_tbool_287 : tbool prog 287 = false := by kernel_rfl
@[go_sem] theorem ty_tbool_3 : tbool prog 3 = false := by kernel_rfl
@[go_sem] theorem ty_tbool_38 : tbool prog 38 = false := by kernel_rfl
@[go_sem] theorem ty_tbool_39 : tbool prog 39 = false := by kernel_rfl
@[go_sem] theorem ty_tbool_5 : tbool prog 5 = false := by kernel_rfl
@[go_sem] theorem ty_tbool_58 : tbool prog 58 = false := by kernel_rfl
@[go_sem] theorem ty_tbool_9 : tbool prog 9 = false := by kernel_rfl
@[go_sem] theorem ty_tbool_91 : tbool prog 91 = false := by kernel_rfl
@[go_sem] theorem ty_tbuild_100 : tbuild prog 100 = true := by kernel_rfl
@[go_sem] theorem ty_tbuild_114 : tbuild prog 114 = true := by kernel_rfl
@[go_sem] theorem ty_tbuild_120 : tbuild prog 120 = true := by kernel_rfl
@[go_sem] theorem ty_tbuild_124 : tbuild prog 124 = true := by kernel_rfl
@[go_sem] theorem ty_tbuild_156 : tbuild prog 156 = true := by kernel_rfl
@[go_sem] theorem ty_tbuild_185 : tbuild prog 185 = true := by kernel_rfl
@[go_sem] theorem ty_tbuild_187 : tbuild prog 187 = true := by kernel_rfl
@[go_sem] theorem ty_tbuild_194 : tbuild prog 194 = true := by kernel_rfl
@[go_sem] theorem ty_tbuild_229 : tbuild prog 229 = true := by kernel_rfl
@[go_sem] theorem ty_tbuild_27 : tbuild prog 27 = true := by kernel_rfl
@[go_sem] theorem ty_tbuild_35 : tbuild prog 35 = true := by kernel_rfl
@[go_sem] theorem ty_tbuild_79 : tbuild prog 79 = true := by kernel_rfl
@[go_sem] theorem ty_tbuild_91 : tbuild prog 91 = true := by kernel_rfl
@[go_sem] theorem ty_telem_100 : telem prog 100 = none := by kernel_rfl
@[go_sem] theorem ty_telem_101 : telem prog 101 = some 156 := by kernel_rfl
@[go_sem] theorem ty_telem_105 : telem prog 105 = none := by kernel_rfl
@[go_sem] theorem ty_telem_114 : telem prog 114 = none := by kernel_rfl
@[go_sem] theorem ty_telem_122 : telem prog 122 = none := by kernel_rfl
@[go_sem] theorem ty_telem_125 : telem prog 125 = some 1 := by kernel_rfl
@[go_sem] theorem ty_telem_134 : telem prog 134 = none := by kernel_rfl
@[go_sem] theorem ty_telem_135 : telem prog 135 = none := by kernel_rfl
@[go_sem] theorem ty_telem_140 : telem prog 140 = none := by kernel_rfl
@[go_sem] theorem ty_telem_144 : telem prog 144 = none := by kernel_rfl
@[go_sem] theorem ty_telem_149 : telem prog 149 = some 39 := by kernel_rfl
@[go_sem] theorem ty_telem_152 : telem prog 152 = none := by kernel_rfl
@[go_sem] theorem ty_telem_162 : telem prog 162 = none := by kernel_rfl
@[go_sem] theorem ty_telem_164 : telem prog 164 = none := by kernel_rfl
@[go_sem] theorem ty_telem_185 : telem prog 185 = none := by kernel_rfl
@[go_sem] theorem ty_telem_187 : telem prog 187 = none := by kernel_rfl
@[go_sem] theorem ty_telem_188 : telem prog 188 = some 194 := by kernel_rfl
@[go_sem] theorem ty_telem_196 : telem prog 196 = some 77 := by kernel_rfl
@[go_sem] theorem ty_telem_198 : telem prog 198 = none := by kernel_rfl
@[go_sem] theorem ty_telem_2 : telem prog 2 = none := by kernel_rfl
@[go_sem] theorem ty_telem_203 : telem prog 203 = none := by kernel_rfl
@[go_sem] theorem ty_telem_209 : telem prog 209 = none := by kernel_rfl
@[go_sem] theorem ty_telem_21 : telem prog 21 = none := by kernel_rfl
@[go_sem] theorem ty_telem_214 : telem prog 214 = none := by kernel_rfl
@[go_sem] theorem ty_telem_219 : telem prog 219 = none := by kernel_rfl
@[go_sem] theorem ty_telem_22 : telem prog 22 = some 87 := by kernel_rfl
@[go_sem] theorem ty_telem_221 : telem prog 221 = none := by kernel_rfl
@[go_sem] theorem ty_telem_224 : telem prog 224 = none := by kernel_rfl
@[go_sem] theorem ty_telem_226 : telem prog 226 = none := by kernel_rfl
@[go_sem] theorem ty_telem_232 : telem prog 232 = some 4 := by kernel_rfl
@[go_sem] theorem ty_telem_233 : telem prog 233 = some 185 := by kernel_rfl
@[go_sem] theorem ty_telem_237 : telem prog 237 = none := by kernel_rfl
@[go_sem] theorem ty_telem_24 : telem prog 24 = none := by kernel_rfl
@[go_sem] theorem ty_telem_240 : telem prog 240 = none := by kernel_rfl
@[go_sem] theorem ty_telem_247 : telem prog 247 = none := by kernel_rfl
@[go_sem] theorem ty_telem_25 : telem prog 25 = none := by kernel_rfl
@[go_sem] theorem ty_telem_251 : telem prog 251 = none := by kernel_rfl
@[go_sem] theorem ty_telem_252 : telem prog 252 = none := by kernel_rfl
@[go_sem] theorem ty_telem_265 : telem prog 265 = none := by kernel_rfl
@[go_sem] theorem ty_telem_27 : telem prog 27 = none := by kernel_rfl
@[go_sem] theorem ty_telem_285 : telem prog 285 = none := by kernel_rfl
@[go_sem] theorem ty_telem_286 : telem prog 286 = none := by kernel_rfl
@[go_sem] theorem ty_telem_287 : telem prog 287 = none := by kernel_rfl
@[go_sem] theorem ty_telem_29 : telem prog 29 = none := by kernel_rfl
@[go_sem] theorem ty_telem_291 : telem prog 291 = none := by kernel_rfl
@[go_sem] theorem ty_telem_295 : telem prog 295 = none := by kernel_rfl
@[go_sem] theorem ty_telem_298 : telem prog 298 = none := by kernel_rfl
@[go_sem] theorem ty_telem_3 : telem prog 3 = none := by kernel_rfl
@[go_sem] theorem ty_telem_30 : telem prog 30 = some 5 := by kernel_rfl
@[go_sem] theorem ty_telem_304 : telem prog 304 = none := by kernel_rfl
@[go_sem] theorem ty_telem_305 : telem prog 305 = none := by kernel_rfl
@[go_sem] theorem ty_telem_32 : telem prog 32 = none := by kernel_rfl
@[go_sem] theorem ty_telem_33 : telem prog 33 = some 58 := by kernel_rfl
@[go_sem] theorem ty_telem_35 : telem prog 35 = none := by kernel_rfl
@[go_sem] theorem ty_telem_38 : telem prog 38 = some 3 := by kernel_rfl
@[go_sem] theorem ty_telem_39 : telem prog 39 = none := by kernel_rfl
@[go_sem] theorem ty_telem_4 : telem prog 4 = none := by kernel_rfl
@[go_sem] theorem ty_telem_5 : telem prog 5 = none := by kernel_rfl
@[go_sem] theorem ty_telem_58 : telem prog 58 = some 27 := by kernel_rfl
@[go_sem] theorem ty_telem_61 : telem prog 61 = some 91 := by kernel_rfl
@[go_sem] theorem ty_telem_69 : telem prog 69 = some 38 := by kernel_rfl
@[go_sem] theorem ty_telem_72 : telem prog 72 = some 114 := by kernel_rfl
@[go_sem] theorem ty_telem_77 : telem prog 77 = some 9 := by kernel_rfl
@[go_sem] theorem ty_telem_79 : telem prog 79 = none := by kernel_rfl
@[go_sem] theorem ty_telem_9 : telem prog 9 = none := by kernel_rfl
@[go_sem] theorem ty_telem_91 : telem prog 91 = none := by kernel_rfl
@[go_sem] theorem ty_tfield_100_0 : tfield prog 100 0 = some (0, 3) := by kernel_rfl
@[go_sem] theorem ty_tfield_100_1 : tfield prog 100 1 = some (1, 3) := by kernel_rfl
@[go_sem] theorem ty_tfield_100_2 : tfield prog 100 2 = some (2, 27) := by kernel_rfl
@[go_sem] theorem ty_tfield_100_3 : tfield prog 100 3 = some (4, 27) := by kernel_rfl
@[go_sem] theorem ty_tfield_114_0 : tfield prog 114 0 = some (0, 112) := by kernel_rfl
@[go_sem] theorem ty_tfield_114_1 : tfield prog 114 1 = some (1, 9) := by kernel_rfl
@[go_sem] theorem ty_tfield_114_2 : tfield prog 114 2 = some (2, 3) := by kernel_rfl
@[go_sem] theorem ty_tfield_114_3 : tfield prog 114 3 = some (3, 3) := by kernel_rfl
@[go_sem] theorem ty_tfield_120_0 : tfield prog 120 0 = some (0, 3) := by kernel_rfl
@[go_sem] theorem ty_tfield_120_1 : tfield prog 120 1 = some (1, 39) := by kernel_rfl
@[go_sem] theorem ty_tfield_124_0 : tfield prog 124 0 = some (0, 72) := by kernel_rfl
@[go_sem] theorem ty_tfield_124_1 : tfield prog 124 1 = some (1, 3) := by kernel_rfl
@[go_sem] theorem ty_tfield_124_2 : tfield prog 124 2 = some (2, 79) := by kernel_rfl
@[go_sem] theorem ty_tfield_156_0 : tfield prog 156 0 = some (0, 91) := by kernel_rfl
@[go_sem] theorem ty_tfield_156_1 : tfield prog 156 1 = some (2, 3) := by kernel_rfl
@[go_sem] theorem ty_tfield_156_2 : tfield prog 156 2 = some (3, 3) := by kernel_rfl
@[go_sem] theorem ty_tfield_164_0 : tfield prog 164 0 = some (0, 162) := by kernel_rfl
@[go_sem] theorem ty_tfield_164_1 : tfield prog 164 1 = some (1, 30) := by kernel_rfl
@[go_sem] theorem ty_tfield_185_0 : tfield prog 185 0 = some (0, 3) := by kernel_rfl
@[go_sem] theorem ty_tfield_194_0 : tfield prog 194 0 = some (0, 3) := by kernel_rfl
@[go_sem] theorem ty_tfield_194_1 : tfield prog 194 1 = some (1, 3) := by kernel_rfl
@[go_sem] theorem ty_tfield_194_2 : tfield prog 194 2 = some (2, 38) := by kernel_rfl
@[go_sem] theorem ty_tfield_24_0 : tfield prog 24 0 = some (0, 5) := by kernel_rfl
@[go_sem] theorem ty_tfield_24_1 : tfield prog 24 1 = some (1, 5) := by kernel_rfl
@[go_sem] theorem ty_tfield_24_2 : tfield prog 24 2 = some (2, 5) := by kernel_rfl
@[go_sem] theorem ty_tfield_24_3 : tfield prog 24 3 = some (3, 4) := by kernel_rfl
@[go_sem] theorem ty_tfield_24_4 : tfield prog 24 4 = some (4, 22) := by kernel_rfl
@[go_sem] theorem ty_tfield_27_0 : tfield prog 27 0 = some (0, 3) := by kernel_rfl
@[go_sem] theorem ty_tfield_27_1 : tfield prog 27 1 = some (1, 3) := by kernel_rfl
@[go_sem] theorem ty_tfield_29_0 : tfield prog 29 0 = some (0, 24) := by kernel_rfl
@[go_sem] theorem ty_tfield_29_1 : tfield prog 29 1 = some (5, 24) := by kernel_rfl
@[go_sem] theorem ty_tfield_29_2 : tfield prog 29 2 = some (10, 4) := by kernel_rfl
@[go_sem] theorem ty_tfield_29_3 : tfield prog 29 3 = some (11, 25) := by kernel_rfl
@[go_sem] theorem ty_tfield_29_4 : tfield prog 29 4 = some (13, 25) := by kernel_rfl
@[go_sem] theorem ty_tfield_29_5 : tfield prog 29 5 = some (15, 27) := by kernel_rfl
@[go_sem] theorem ty_tfield_297_0 : tfield prog 297 0 = some (0, 5) := by kernel_rfl
@[go_sem] theorem ty_tfield_297_1 : tfield prog 297 1 = some (1, 5) := by kernel_rfl
@[go_sem] theorem ty_tfield_32_0 : tfield prog 32 0 = some (0, 30) := by kernel_rfl
@[go_sem] theorem ty_tfield_35_0 : tfield prog 35 0 = some (0, 3) := by kernel_rfl
@[go_sem] theorem ty_tfield_35_1 : tfield prog 35 1 = some (1, 3) := by kernel_rfl
@[go_sem] theorem ty_tfield_35_2 : tfield prog 35 2 = some (2, 33) := by kernel_rfl
@[go_sem] theorem ty_tfield_79_0 : tfield prog 79 0 = some (0, 9) := by kernel_rfl
@[go_sem] theorem ty_tfield_79_1 : tfield prog 79 1 = some (1, 35) := by kernel_rfl
@[go_sem] theorem ty_tfield_79_2 : tfield prog 79 2 = some (4, 77) := by kernel_rfl
@[go_sem] theorem ty_tfield_79_3 : tfield prog 79 3 = some (5, 77) := by kernel_rfl
@[go_sem] theorem ty_tfield_79_4 : tfield prog 79 4 = some (6, 77) := by kernel_rfl
@[go_sem] theorem ty_tiface_120 : tiface prog 120 = false := by kernel_rfl
@[go_sem] theorem ty_tiface_20 : tiface prog 20 = true := by kernel_rfl
@[go_sem] theorem ty_tiface_9 : tiface prog 9 = false := by kernel_rfl
@[go_sem] theorem ty_tinf_1 : tinf prog 1 = true := by kernel_rfl
@[go_sem] theorem ty_tinf_114 : tinf prog 114 = true := by kernel_rfl
@[go_sem] theorem ty_tinf_134 : tinf prog 134 = true := by kernel_rfl
@[go_sem] theorem ty_tinf_156 : tinf prog 156 = true := by kernel_rfl
@[go_sem] theorem ty_tinf_185 : tinf prog 185 = true := by kernel_rfl
@[go_sem] theorem ty_tinf_194 : tinf prog 194 = true := by kernel_rfl
@[go_sem] theorem ty_tinf_240 : tinf prog 240 = true := by kernel_rfl
@[go_sem] theorem ty_tinf_27 : tinf prog 27 = true := by kernel_rfl
@[go_sem] theorem ty_tinf_297 : tinf prog 297 = true := by kernel_rfl
@[go_sem] theorem ty_tinf_3 : tinf prog 3 = true := by kernel_rfl
@[go_sem] theorem ty_tinf_38 : tinf prog 38 = true := by kernel_rfl
@[go_sem] theorem ty_tinf_39 : tinf prog 39 = true := by kernel_rfl
@[go_sem] theorem ty_tinf_4 : tinf prog 4 = true := by kernel_rfl
@[go_sem] theorem ty_tinf_5 : tinf prog 5 = true := by kernel_rfl
@[go_sem] theorem ty_tinf_58 : tinf prog 58 = true := by kernel_rfl
@[go_sem] theorem ty_tinf_77 : tinf prog 77 = true := by kernel_rfl
@[go_sem] theorem ty_tinf_87 : tinf prog 87 = true := by kernel_rfl
@[go_sem] theorem ty_tinf_9 : tinf prog 9 = true := by kernel_rfl
@[go_sem] theorem ty_tinf_91 : tinf prog 91 = true := by kernel_rfl
@[go_sem] theorem ty_tinfo_1 : tinfo prog 1 = some { size := 1, agg := false, zero := [Value.nilFunc], bytes := 8 } := by kernel_rfl
@[go_sem] theorem ty_tinfo_100 : tinfo prog 100 = some { size := 6, agg := true, zero := [Value.int IntKind.i64 0, Value.int IntKind.i64 0, Value.int IntKind.i64 0, Value.int IntKind.i64 0, Value.int IntKind.i64 0, Value.int IntKind.i64 0], bytes := 48 } := by kernel_rfl
@[go_sem] theorem ty_tinfo_112 : tinfo prog 112 = some { size := 1, agg := false, zero := [Value.int IntKind.u8 0], bytes := 1 } := by kernel_rfl
@[go_sem] theorem ty_tinfo_114 : tinfo prog 114 = some { size := 4, agg := true, zero := [Value.int IntKind.u8 0, Value.string { data := { toList := [] } }, Value.int IntKind.i64 0, Value.int IntKind.i64 0], bytes := 40 } := by kernel_rfl
@[go_sem] theorem ty_tinfo_120 : tinfo prog 120 = some { size := 2, agg := true, zero := [Value.int IntKind.i64 0, Value.int IntKind.i64 0], bytes := 16 } := by kernel_rfl
@[go_sem] theorem ty_tinfo_124 : tinfo prog 124 = some { size := 9, agg := true, zero := [Value.slice none 0 0, Value.int IntKind.i64 0, Value.string { data := { toList := [] } }, Value.int IntKind.i64 0, Value.int IntKind.i64 0, Value.slice none 0 0, Value.slice none 0 0, Value.slice none 0 0, Value.slice none 0 0], bytes := 160 } := by kernel_rfl
@[go_sem] theorem ty_tinfo_134 : tinfo prog 134 = some { size := 64, agg := true, zero := [Value.slice none 0 0, Value.slice none 0 0, Value.slice none 0 0, Value.slice none 0 0, Value.slice none 0 0, Value.slice none 0 0, Value.slice none 0 0, Value.slice none 0 0, Value.slice none 0 0, Value.slice none 0 0, Value.slice none 0 0, Value.slice none 0 0, Value.slice none 0 0, Value.slice none 0 0, Value.slice none 0 0, Value.slice none 0 0, Value.slice none 0 0, Value.slice none 0 0, Value.slice none 0 0, Value.slice none 0 0, Value.slice none 0 0, Value.slice none 0 0, Value.slice none 0 0, Value.slice none 0 0, Value.slice none 0 0, Value.slice none 0 0, Value.slice none 0 0, Value.slice none 0 0, Value.slice none 0 0, Value.slice none 0 0, Value.slice none 0 0, Value.slice none 0 0, Value.slice none 0 0, Value.slice none 0 0, Value.slice none 0 0, Value.slice none 0 0, Value.slice none 0 0, Value.slice none 0 0, Value.slice none 0 0, Value.slice none 0 0, Value.slice none 0 0, Value.slice none 0 0, Value.slice none 0 0, Value.slice none 0 0, Value.slice none 0 0, Value.slice none 0 0, Value.slice none 0 0, Value.slice none 0 0, Value.slice none 0 0, Value.slice none 0 0, Value.slice none 0 0, Value.slice none 0 0, Value.slice none 0 0, Value.slice none 0 0, Value.slice none 0 0, Value.slice none 0 0, Value.slice none 0 0, Value.slice none 0 0, Value.slice none 0 0, Value.slice none 0 0, Value.slice none 0 0, Value.slice none 0 0, Value.slice none 0 0, Value.slice none 0 0], bytes := 1536 } := by kernel_rfl
@[go_sem] theorem ty_tinfo_135 : tinfo prog 135 = some { size := 1, agg := false, zero := [Value.pointer none], bytes := 8 } := by kernel_rfl
@[go_sem] theorem ty_tinfo_156 : tinfo prog 156 = some { size := 4, agg := true, zero := [Value.int IntKind.i64 0, Value.int IntKind.i64 0, Value.int IntKind.i64 0, Value.int IntKind.i64 0], bytes := 32 } := by kernel_rfl
@[go_sem] theorem ty_tinfo_162 : tinfo prog 162 = some { size := 1, agg := false, zero := [Value.pointer none], bytes := 8 } := by kernel_rfl
@[go_sem] theorem ty_tinfo_164 : tinfo prog 164 = some { size := 2, agg := true, zero := [Value.pointer none, Value.slice none 0 0], bytes := 32 } := by kernel_rfl
@[go_sem] theorem ty_tinfo_179 : tinfo prog 179 = some { size := 1, agg := false, zero := [Value.map none], bytes := 8 } := by kernel_rfl
@[go_sem] theorem ty_tinfo_185 : tinfo prog 185 = some { size := 3, agg := true, zero := [Value.int IntKind.i64 0, Value.int IntKind.i64 0, Value.int IntKind.i64 0], bytes := 24 } := by kernel_rfl
@[go_sem] theorem ty_tinfo_188 : tinfo prog 188 = some { size := 1, agg := false, zero := [Value.slice none 0 0], bytes := 24 } := by kernel_rfl
@[go_sem] theorem ty_tinfo_194 : tinfo prog 194 = some { size := 4, agg := true, zero := [Value.int IntKind.i64 0, Value.int IntKind.i64 0, Value.slice none 0 0, Value.bool false], bytes := 48 } := by kernel_rfl
@[go_sem] theorem ty_tinfo_20 : tinfo prog 20 = some { size := 1, agg := false, zero := [Value.nilIface], bytes := 16 } := by kernel_rfl
@[go_sem] theorem ty_tinfo_219 : tinfo prog 219 = some { size := 5, agg := true, zero := [Value.string { data := { toList := [] } }, Value.string { data := { toList := [] } }, Value.string { data := { toList := [] } }, Value.string { data := { toList := [] } }, Value.string { data := { toList := [] } }], bytes := 80 } := by kernel_rfl
@[go_sem] theorem ty_tinfo_22 : tinfo prog 22 = some { size := 1, agg := false, zero := [Value.slice none 0 0], bytes := 24 } := by kernel_rfl
@[go_sem] theorem ty_tinfo_226 : tinfo prog 226 = some { size := 32, agg := true, zero := [Value.int IntKind.i64 0, Value.int IntKind.i64 0, Value.int IntKind.i64 0, Value.int IntKind.i64 0, Value.int IntKind.i64 0, Value.int IntKind.i64 0, Value.int IntKind.i64 0, Value.int IntKind.i64 0, Value.int IntKind.i64 0, Value.int IntKind.i64 0, Value.int IntKind.i64 0, Value.int IntKind.i64 0, Value.int IntKind.i64 0, Value.int IntKind.i64 0, Value.int IntKind.i64 0, Value.int IntKind.i64 0, Value.int IntKind.i64 0, Value.int IntKind.i64 0, Value.int IntKind.i64 0, Value.int IntKind.i64 0, Value.int IntKind.i64 0, Value.int IntKind.i64 0, Value.int IntKind.i64 0, Value.int IntKind.i64 0, Value.int IntKind.i64 0, Value.int IntKind.i64 0, Value.int IntKind.i64 0, Value.int IntKind.i64 0, Value.int IntKind.i64 0, Value.int IntKind.i64 0, Value.int IntKind.i64 0, Value.int IntKind.i64 0], bytes := 256 } := by kernel_rfl
@[go_sem] theorem ty_tinfo_229 : tinfo prog 229 = some { size := 33, agg := true, zero := [Value.int IntKind.i64 0, Value.int IntKind.i64 0, Value.int IntKind.i64 0, Value.int IntKind.i64 0, Value.int IntKind.i64 0, Value.int IntKind.i64 0, Value.int IntKind.i64 0, Value.int IntKind.i64 0, Value.int IntKind.i64 0, Value.int IntKind.i64 0, Value.int IntKind.i64 0, Value.int IntKind.i64 0, Value.int IntKind.i64 0, Value.int IntKind.i64 0, Value.int IntKind.i64 0, Value.int IntKind.i64 0, Value.int IntKind.i64 0, Value.int IntKind.i64 0, Value.int IntKind.i64 0, Value.int IntKind.i64 0, Value.int IntKind.i64 0, Value.int IntKind.i64 0, Value.int IntKind.i64 0, Value.int IntKind.i64 0, Value.int IntKind.i64 0, Value.int IntKind.i64 0, Value.int IntKind.i64 0, Value.int IntKind.i64 0, Value.int IntKind.i64 0, Value.int IntKind.i64 0, Value.int IntKind.i64 0, Value.int IntKind.i64 0, Value.int IntKind.i64 0], bytes := 264 } := by kernel_rfl
@[go_sem] theorem ty_tinfo_24 : tinfo prog 24 = some { size := 5, agg := true, zero := [Value.int IntKind.u8 0, Value.int IntKind.u8 0, Value.int IntKind.u8 0, Value.bool false, Value.slice none 0 0], bytes := 32 } := by kernel_rfl
@[go_sem] theorem ty_tinfo_240 : tinfo prog 240 = some { size := 1, agg := false, zero := [Value.int IntKind.u64 0], bytes := 8 } := by kernel_rfl
@[go_sem] theorem ty_tinfo_247 : tinfo prog 247 = some { size := 256, agg := true, zero := [Value.bool false, Value.bool false, Value.bool false, Value.bool false, Value.bool false, Value.bool false, Value.bool false, Value.bool false, Value.bool false, Value.bool false, Value.bool false, Value.bool false, Value.bool false, Value.bool false, Value.bool false, Value.bool false, Value.bool false, Value.bool false, Value.bool false, Value.bool false, Value.bool false, Value.bool false, Value.bool false, Value.bool false, Value.bool false, Value.bool false, Value.bool false, Value.bool false, Value.bool false, Value.bool false, Value.bool false, Value.bool false, Value.bool false, Value.bool false, Value.bool false, Value.bool false, Value.bool false, Value.bool false, Value.bool false, Value.bool false, Value.bool false, Value.bool false, Value.bool false, Value.bool false, Value.bool false, Value.bool false, Value.bool false, Value.bool false, Value.bool false, Value.bool false, Value.bool false, Value.bool false, Value.bool false, Value.bool false, Value.bool false, Value.bool false, Value.bool false, Value.bool false, Value.bool false, Value.bool false, Value.bool false, Value.bool false, Value.bool false, Value.bool false, Value.bool false, Value.bool false, Value.bool false, Value.bool false, Value.bool false, Value.bool false, Value.bool false, Value.bool false, Value.bool false, Value.bool false, Value.bool false, Value.bool false, Value.bool false, Value.bool false, Value.bool false, Value.bool false, Value.bool false, Value.bool false, Value.bool false, Value.bool false, Value.bool false, Value.bool false, Value.bool false, Value.bool false, Value.bool false, Value.bool false, Value.bool false, Value.bool false, Value.bool false, Value.bool false, Value.bool false, Value.bool false, Value.bool false, Value.bool false, Value.bool false, Value.bool false, Value.bool false, Value.bool false, Value.bool false, Value.bool false, Value.bool false, Value.bool false, Value.bool false, Value.bool false, Value.bool false, Value.bool false, Value.bool false, Value.bool false, Value.bool false, Value.bool false, Value.bool false, Value.bool false, Value.bool false, Value.bool false, Value.bool false, Value.bool false, Value.bool false, Value.bool false, Value.bool false, Value.bool false, Value.bool false, Value.bool false, Value.bool false, Value.bool false, Value.bool false, Value.bool false, Value.bool false, Value.bool false, Value.bool false, Value.bool false, Value.bool false, Value.bool false, Value.bool false, Value.bool false, Value.bool false, Value.bool false, Value.bool false, Value.bool false, Value.bool false, Value.bool false, Value.bool false, Value.bool false, Value.bool false, Value.bool false, Value.bool false, Value.bool false, Value.bool false, Value.bool false, Value.bool false, Value.bool false, Value.bool false, Value.bool false, Value.bool false, Value.bool false, Value.bool false, Value.bool false, Value.bool false, Value.bool false, Value.bool false, Value.bool false, Value.bool false, Value.bool false, Value.bool false, Value.bool false, Value.bool false, Value.bool false, Value.bool false, Value.bool false, Value.bool false, Value.bool false, Value.bool false, Value.bool false, Value.bool false, Value.bool false, Value.bool false, Value.bool false, Value.bool false, Value.bool false, Value.bool false, Value.bool false, Value.bool false, Value.bool false, Value.bool false, Value.bool false, Value.bool false, Value.bool false, Value.bool false, Value.bool false, Value.bool false, Value.bool false, Value.bool false, Value.bool false, Value.bool false, Value.bool false, Value.bool false, Value.bool false, Value.bool false, Value.bool false, Value.bool false, Value.bool false, Value.bool false, Value.bool false, Value.bool false, Value.bool false, Value.bool false, Value.bool false, Value.bool false, Value.bool false, Value.bool false, Value.bool false, Value.bool false, Value.bool false, Value.bool false, Value.bool false, Value.bool false, Value.bool false, Value.bool false, Value.bool false, Value.bool false, Value.bool false, Value.bool false, Value.bool false, Value.bool false, Value.bool false, Value.bool false, Value.bool false, Value.bool false, Value.bool false, Value.bool false, Value.bool false, Value.bool false, Value.bool false, Value.bool false, Value.bool false, Value.bool false, Value.bool false, Value.bool false, Value.bool false, Value.bool false, Value.bool false, Value.bool false, Value.bool false, Value.bool false, Value.bool false, Value.bool false, Value.bool false, Value.bool false, Value.bool false, Value.bool false, Value.bool false, Value.bool false, Value.bool false], bytes := 256 } := by kernel_rfl
@[go_sem] theorem ty_tinfo_25 : tinfo prog 25 = some { size := 2, agg := true, zero := [Value.int IntKind.u8 0, Value.int IntKind.u8 0], bytes := 2 } := by kernel_rfl
@[go_sem] theorem ty_tinfo_265 : tinfo prog 265 = some { size := 24, agg := true, zero := [Value.int IntKind.u8 0, Value.int IntKind.u8 0, Value.int IntKind.u8 0, Value.int IntKind.u8 0, Value.int IntKind.u8 0, Value.int IntKind.u8 0, Value.int IntKind.u8 0, Value.int IntKind.u8 0, Value.int IntKind.u8 0, Value.int IntKind.u8 0, Value.int IntKind.u8 0, Value.int IntKind.u8 0, Value.int IntKind.u8 0, Value.int IntKind.u8 0, Value.int IntKind.u8 0, Value.int IntKind.u8 0, Value.int IntKind.u8 0, Value.int IntKind.u8 0, Value.int IntKind.u8 0, Value.int IntKind.u8 0, Value.int IntKind.u8 0, Value.int IntKind.u8 0, Value.int IntKind.u8 0, Value.int IntKind.u8 0], bytes := 24 } := by kernel_rfl
@[go_sem] theorem ty_tinfo_27 : tinfo prog 27 = some { size := 2, agg := true, zero := [Value.int IntKind.i64 0, Value.int IntKind.i64 0], bytes := 16 } := by kernel_rfl
@[go_sem] theorem ty_tinfo_286 : tinfo prog 286 = some { size := 65, agg := true, zero := [Value.int IntKind.u8 0, Value.int IntKind.u8 0, Value.int IntKind.u8 0, Value.int IntKind.u8 0, Value.int IntKind.u8 0, Value.int IntKind.u8 0, Value.int IntKind.u8 0, Value.int IntKind.u8 0, Value.int IntKind.u8 0, Value.int IntKind.u8 0, Value.int IntKind.u8 0, Value.int IntKind.u8 0, Value.int IntKind.u8 0, Value.int IntKind.u8 0, Value.int IntKind.u8 0, Value.int IntKind.u8 0, Value.int IntKind.u8 0, Value.int IntKind.u8 0, Value.int IntKind.u8 0, Value.int IntKind.u8 0, Value.int IntKind.u8 0, Value.int IntKind.u8 0, Value.int IntKind.u8 0, Value.int IntKind.u8 0, Value.int IntKind.u8 0, Value.int IntKind.u8 0, Value.int IntKind.u8 0, Value.int IntKind.u8 0, Value.int IntKind.u8 0, Value.int IntKind.u8 0, Value.int IntKind.u8 0, Value.int IntKind.u8 0, Value.int IntKind.u8 0, Value.int IntKind.u8 0, Value.int IntKind.u8 0, Value.int IntKind.u8 0, Value.int IntKind.u8 0, Value.int IntKind.u8 0, Value.int IntKind.u8 0, Value.int IntKind.u8 0, Value.int IntKind.u8 0, Value.int IntKind.u8 0, Value.int IntKind.u8 0, Value.int IntKind.u8 0, Value.int IntKind.u8 0, Value.int IntKind.u8 0, Value.int IntKind.u8 0, Value.int IntKind.u8 0, Value.int IntKind.u8 0, Value.int IntKind.u8 0, Value.int IntKind.u8 0, Value.int IntKind.u8 0, Value.int IntKind.u8 0, Value.int IntKind.u8 0, Value.int IntKind.u8 0, Value.int IntKind.u8 0, Value.int IntKind.u8 0, Value.int IntKind.u8 0, Value.int IntKind.u8 0, Value.int IntKind.u8 0, Value.int IntKind.u8 0, Value.int IntKind.u8 0, Value.int IntKind.u8 0, Value.int IntKind.u8 0, Value.int IntKind.u8 0], bytes := 65 } := by kernel_rfl
@[go_sem] theorem ty_tinfo_287 : tinfo prog 287 = some { size := 1, agg := false, zero := [Value.int IntKind.u64 0], bytes := 8 } := by kernel_rfl
@[go_sem] theorem ty_tinfo_29 : tinfo prog 29 = some { size := 17, agg := true, zero := [Value.int IntKind.u8 0, Value.int IntKind.u8 0, Value.int IntKind.u8 0, Value.bool false, Value.slice none 0 0, Value.int IntKind.u8 0, Value.int IntKind.u8 0, Value.int IntKind.u8 0, Value.bool false, Value.slice none 0 0, Value.bool false, Value.int IntKind.u8 0, Value.int IntKind.u8 0, Value.int IntKind.u8 0, Value.int IntKind.u8 0, Value.int IntKind.i64 0, Value.int IntKind.i64 0], bytes := 88 } := by kernel_rfl
@[go_sem] theorem ty_tinfo_297 : tinfo prog 297 = some { size := 2, agg := true, zero := [Value.int IntKind.u8 0, Value.int IntKind.u8 0], bytes := 2 } := by kernel_rfl
@[go_sem] theorem ty_tinfo_3 : tinfo prog 3 = some { size := 1, agg := false, zero := [Value.int IntKind.i64 0], bytes := 8 } := by kernel_rfl
@[go_sem] theorem ty_tinfo_30 : tinfo prog 30 = some { size := 1, agg := false, zero := [Value.slice none 0 0], bytes := 24 } := by kernel_rfl
@[go_sem] theorem ty_tinfo_32 : tinfo prog 32 = some { size := 1, agg := true, zero := [Value.slice none 0 0], bytes := 24 } := by kernel_rfl
@[go_sem] theorem ty_tinfo_33 : tinfo prog 33 = some { size := 1, agg := false, zero := [Value.slice none 0 0], bytes := 24 } := by kernel_rfl
@[go_sem] theorem ty_tinfo_35 : tinfo prog 35 = some { size := 3, agg := true, zero := [Value.int IntKind.i64 0, Value.int IntKind.i64 0, Value.slice none 0 0], bytes := 40 } := by kernel_rfl
@[go_sem] theorem ty_tinfo_38 : tinfo prog 38 = some { size := 1, agg := false, zero := [Value.slice none 0 0], bytes := 24 } := by kernel_rfl
@[go_sem] theorem ty_tinfo_39 : tinfo prog 39 = some { size := 1, agg := false, zero := [Value.int IntKind.i64 0], bytes := 8 } := by kernel_rfl
@[go_sem] theorem ty_tinfo_4 : tinfo prog 4 = some { size := 1, agg := false, zero := [Value.bool false], bytes := 1 } := by kernel_rfl
@[go_sem] theorem ty_tinfo_5 : tinfo prog 5 = some { size := 1, agg := false, zero := [Value.int IntKind.u8 0], bytes := 1 } := by kernel_rfl
@[go_sem] theorem ty_tinfo_58 : tinfo prog 58 = some { size := 1, agg := false, zero := [Value.slice none 0 0], bytes := 24 } := by kernel_rfl
@[go_sem] theorem ty_tinfo_61 : tinfo prog 61 = some { size := 1, agg := false, zero := [Value.slice none 0 0], bytes := 24 } := by kernel_rfl
@[go_sem] theorem ty_tinfo_72 : tinfo prog 72 = some { size := 1, agg := false, zero := [Value.slice none 0 0], bytes := 24 } := by kernel_rfl
@[go_sem] theorem ty_tinfo_77 : tinfo prog 77 = some { size := 1, agg := false, zero := [Value.slice none 0 0], bytes := 24 } := by kernel_rfl
@[go_sem] theorem ty_tinfo_79 : tinfo prog 79 = some { size := 7, agg := true, zero := [Value.string { data := { toList := [] } }, Value.int IntKind.i64 0, Value.int IntKind.i64 0, Value.slice none 0 0, Value.slice none 0 0, Value.slice none 0 0, Value.slice none 0 0], bytes := 128 } := by kernel_rfl
@[go_sem] theorem ty_tinfo_87 : tinfo prog 87 = some { size := 1, agg := false, zero := [Value.int IntKind.u16 0], bytes := 2 } := by kernel_rfl
@[go_sem] theorem ty_tinfo_9 : tinfo prog 9 = some { size := 1, agg := false, zero := [Value.string { data := { toList := [] } }], bytes := 16 } := by kernel_rfl
@[go_sem] theorem ty_tinfo_91 : tinfo prog 91 = some { size := 2, agg := true, zero := [Value.int IntKind.i64 0, Value.int IntKind.i64 0], bytes := 16 } := by kernel_rfl
@[go_sem] theorem ty_tint_162 : tint prog 162 = none := by kernel_rfl
@[go_sem] theorem ty_tint_209 : tint prog 209 = some IntKind.u64 := by kernel_rfl
@[go_sem] theorem ty_tint_21 : tint prog 21 = some IntKind.i32 := by kernel_rfl
@[go_sem] theorem ty_tint_237 : tint prog 237 = some IntKind.u32 := by kernel_rfl
@[go_sem] theorem ty_tint_240 : tint prog 240 = some IntKind.u64 := by kernel_rfl
@[go_sem] theorem ty_tint_252 : tint prog 252 = none := by kernel_rfl
@[go_sem] theorem ty_tint_287 : tint prog 287 = some IntKind.u64 := by kernel_rfl
@[go_sem] theorem ty_tint_3 : tint prog 3 = some IntKind.i64 := by kernel_rfl
@[go_sem] theorem ty_tint_5 : tint prog 5 = some IntKind.u8 := by kernel_rfl
@[go_sem] theorem ty_tint_9 : tint prog 9 = none := by kernel_rfl
@[go_sem] theorem ty_tknown_120 : tknown prog 120 = true := by kernel_rfl
@[go_sem] theorem ty_tknown_162 : tknown prog 162 = true := by kernel_rfl
@[go_sem] theorem ty_tknown_2 : tknown prog 2 = true := by kernel_rfl
@[go_sem] theorem ty_tknown_20 : tknown prog 20 = true := by kernel_rfl
@[go_sem] theorem ty_tknown_209 : tknown prog 209 = true := by kernel_rfl
@[go_sem] theorem ty_tknown_21 : tknown prog 21 = true := by kernel_rfl
@[go_sem] theorem ty_tknown_237 : tknown prog 237 = true := by kernel_rfl
@[go_sem] theorem ty_tknown_240 : tknown prog 240 = true := by kernel_rfl
@[go_sem] theorem ty_tknown_252 : tknown prog 252 = true := by kernel_rfl
@[go_sem] theorem ty_tknown_3 : tknown prog 3 = true := by kernel_rfl
@[go_sem] theorem ty_tknown_30 : tknown prog 30 = true := by kernel_rfl
@[go_sem] theorem ty_tknown_5 : tknown prog 5 = true := by kernel_rfl
@[go_sem] theorem ty_tknown_87 : tknown prog 87 = true := by kernel_rfl
@[go_sem] theorem ty_tknown_9 : tknown prog 9 = true := by kernel_rfl
@[go_sem] theorem ty_tmap_100 : tmap prog 100 = none := by kernel_rfl
@[go_sem] theorem ty_tmap_101 : tmap prog 101 = none := by kernel_rfl
@[go_sem] theorem ty_tmap_105 : tmap prog 105 = none := by kernel_rfl
@[go_sem] theorem ty_tmap_114 : tmap prog 114 = none := by kernel_rfl
@[go_sem] theorem ty_tmap_122 : tmap prog 122 = none := by kernel_rfl
@[go_sem] theorem ty_tmap_125 : tmap prog 125 = none := by kernel_rfl
@[go_sem] theorem ty_tmap_135 : tmap prog 135 = none := by kernel_rfl
@[go_sem] theorem ty_tmap_140 : tmap prog 140 = none := by kernel_rfl
@[go_sem] theorem ty_tmap_144 : tmap prog 144 = none := by kernel_rfl
@[go_sem] theorem ty_tmap_145 : tmap prog 145 = some (91, 3) := by kernel_rfl
@[go_sem] theorem ty_tmap_149 : tmap prog 149 = none := by kernel_rfl
@[go_sem] theorem ty_tmap_152 : tmap prog 152 = none := by kernel_rfl
@[go_sem] theorem ty_tmap_154 : tmap prog 154 = some (91, 4) := by kernel_rfl
@[go_sem] theorem ty_tmap_162 : tmap prog 162 = none := by kernel_rfl
@[go_sem] theorem ty_tmap_164 : tmap prog 164 = none := by kernel_rfl
@[go_sem] theorem ty_tmap_179 : tmap prog 179 = some (3, 3) := by kernel_rfl
@[go_sem] theorem ty_tmap_185 : tmap prog 185 = none := by kernel_rfl
@[go_sem] theorem ty_tmap_188 : tmap prog 188 = none := by kernel_rfl
@[go_sem] theorem ty_tmap_196 : tmap prog 196 = none := by kernel_rfl
@[go_sem] theorem ty_tmap_198 : tmap prog 198 = none := by kernel_rfl
@[go_sem] theorem ty_tmap_2 : tmap prog 2 = none := by kernel_rfl
@[go_sem] theorem ty_tmap_203 : tmap prog 203 = none := by kernel_rfl
@[go_sem] theorem ty_tmap_209 : tmap prog 209 = none := by kernel_rfl
@[go_sem] theorem ty_tmap_21 : tmap prog 21 = none := by kernel_rfl
@[go_sem] theorem ty_tmap_214 : tmap prog 214 = none := by kernel_rfl
@[go_sem] theorem ty_tmap_22 : tmap prog 22 = none := by kernel_rfl
@[go_sem] theorem ty_tmap_221 : tmap prog 221 = none := by kernel_rfl
@[go_sem] theorem ty_tmap_224 : tmap prog 224 = some (229, 3) := by kernel_rfl
@[go_sem] theorem ty_tmap_233 : tmap prog 233 = none := by kernel_rfl
@[go_sem] theorem ty_tmap_237 : tmap prog 237 = none := by kernel_rfl
@[go_sem] theorem ty_tmap_24 : tmap prog 24 = none := by kernel_rfl
@[go_sem] theorem ty_tmap_240 : tmap prog 240 = none := by kernel_rfl
@[go_sem] theorem ty_tmap_251 : tmap prog 251 = none := by kernel_rfl
@[go_sem] theorem ty_tmap_252 : tmap prog 252 = none := by kernel_rfl
@[go_sem] theorem ty_tmap_27 : tmap prog 27 = none := by kernel_rfl
@[go_sem] theorem ty_tmap_287 : tmap prog 287 = none := by kernel_rfl
@[go_sem] theorem ty_tmap_29 : tmap prog 29 = none := by kernel_rfl
@[go_sem] theorem ty_tmap_291 : tmap prog 291 = none := by kernel_rfl
@[go_sem] theorem ty_tmap_3 : tmap prog 3 = none := by kernel_rfl
@[go_sem] theorem ty_tmap_30 : tmap prog 30 = none := by kernel_rfl
@[go_sem] theorem ty_tmap_32 : tmap prog 32 = none := by kernel_rfl
@[go_sem] theorem ty_tmap_33 : tmap prog 33 = none := by kernel_rfl
@[go_sem] theorem ty_tmap_35 : tmap prog 35 = none := by kernel_rfl
@[go_sem] theorem ty_tmap_38 : tmap prog 38 = none := by kernel_rfl
@[go_sem] theorem ty_tmap_39 : tmap prog 39 = none := by kernel_rfl
@[go_sem] theorem ty_tmap_4 : tmap prog 4 = none := by kernel_rfl
@[go_sem] theorem ty_tmap_5 : tmap prog 5 = none := by kernel_rfl
@[go_sem] theorem ty_tmap_58 : tmap prog 58 = none := by kernel_rfl
@[go_sem] theorem ty_tmap_61 : tmap prog 61 = none := by kernel_rfl
@[go_sem] theorem ty_tmap_69 : tmap prog 69 = none := by kernel_rfl
@[go_sem] theorem ty_tmap_72 : tmap prog 72 = none := by kernel_rfl
@[go_sem] theorem ty_tmap_77 : tmap prog 77 = none := by kernel_rfl
@[go_sem] theorem ty_tmap_79 : tmap prog 79 = none := by kernel_rfl
@[go_sem] theorem ty_tmap_9 : tmap prog 9 = none := by kernel_rfl
@[go_sem] theorem ty_tmap_91 : tmap prog 91 = none := by kernel_rfl
@[go_sem] theorem ty_tstr_100 : tstr prog 100 = false := by kernel_rfl
@[go_sem] theorem ty_tstr_101 : tstr prog 101 = false := by kernel_rfl
@[go_sem] theorem ty_tstr_105 : tstr prog 105 = false := by kernel_rfl
@[go_sem] theorem ty_tstr_114 : tstr prog 114 = false := by kernel_rfl
@[go_sem] theorem ty_tstr_122 : tstr prog 122 = false := by kernel_rfl
@[go_sem] theorem ty_tstr_125 : tstr prog 125 = false := by kernel_rfl
@[go_sem] theorem ty_tstr_135 : tstr prog 135 = false := by kernel_rfl
@[go_sem] theorem ty_tstr_140 : tstr prog 140 = false := by kernel_rfl
@[go_sem] theorem ty_tstr_144 : tstr prog 144 = false := by kernel_rfl
@[go_sem] theorem ty_tstr_149 : tstr prog 149 = false := by kernel_rfl
@[go_sem] theorem ty_tstr_152 : tstr prog 152 = false := by kernel_rfl
@[go_sem] theorem ty_tstr_162 : tstr prog 162 = false := by kernel_rfl
@[go_sem] theorem ty_tstr_164 : tstr prog 164 = false := by kernel_rfl
@[go_sem] theorem ty_tstr_185 : tstr prog 185 = false := by kernel_rfl
@[go_sem] theorem ty_tstr_188 : tstr prog 188 = false := by kernel_rfl
@[go_sem] theorem ty_tstr_196 : tstr prog 196 = false := by kernel_rfl
@[go_sem] theorem ty_tstr_198 : tstr prog 198 = false := by kernel_rfl
@[go_sem] theorem ty_tstr_2 : tstr prog 2 = false := by kernel_rfl
@[go_sem] theorem ty_tstr_203 : tstr prog 203 = false := by kernel_rfl
@[go_sem] theorem ty_tstr_209 : tstr prog 209 = false := by kernel_rfl
@[go_sem] theorem ty_tstr_21 : tstr prog 21 = false := by kernel_rfl
@[go_sem] theorem ty_tstr_214 : tstr prog 214 = false := by kernel_rfl
@[go_sem] theorem ty_tstr_22 : tstr prog 22 = false := by kernel_rfl
@[go_sem] theorem ty_tstr_221 : tstr prog 221 = false := by kernel_rfl
@[go_sem] theorem ty_tstr_224 : tstr prog 224 = false := by kernel_rfl
@[go_sem] theorem ty_tstr_233 : tstr prog 233 = false := by kernel_rfl
@[go_sem] theorem ty_tstr_237 : tstr prog 237 = false := by kernel_rfl
@[go_sem] theorem ty_tstr_24 : tstr prog 24 = false := by kernel_rfl
@[go_sem] theorem ty_tstr_240 : tstr prog 240 = false := by kernel_rfl
@[go_sem] theorem ty_tstr_251 : tstr prog 251 = false := by kernel_rfl
@[go_sem] theorem ty_tstr_252 : tstr prog 252 = false := by kernel_rfl
@[go_sem] theorem ty_tstr_27 : tstr prog 27 = false := by kernel_rfl
@[go_sem] theorem ty_tstr_287 : tstr prog 287 = false := by kernel_rfl
@[go_sem] theorem ty_tstr_29 : tstr prog 29 = false := by kernel_rfl
@[go_sem] theorem ty_tstr_291 : tstr prog 291 = false := by kernel_rfl
@[go_sem] theorem ty_tstr_3 : tstr prog 3 = false := by kernel_rfl
@[go_sem] theorem ty_tstr_30 : tstr prog 30 = false := by kernel_rfl
@[go_sem] theorem ty_tstr_32 : tstr prog 32 = false := by kernel_rfl
@[go_sem] theorem ty_tstr_33 : tstr prog 33 = false := by kernel_rfl
@[go_sem] theorem ty_tstr_35 : tstr prog 35 = false := by kernel_rfl
@[go_sem] theorem ty_tstr_38 : tstr prog 38 = false := by kernel_rfl
@[go_sem] theorem ty_tstr_39 : tstr prog 39 = false := by kernel_rfl
@[go_sem] theorem ty_tstr_4 : tstr prog 4 = false := by kernel_rfl
@[go_sem] theorem ty_tstr_5 : tstr prog 5 = false := by kernel_rfl
@[go_sem] theorem ty_tstr_58 : tstr prog 58 = false := by kernel_rfl
@[go_sem] theorem ty_tstr_61 : tstr prog 61 = false := by kernel_rfl
@[go_sem] theorem ty_tstr_69 : tstr prog 69 = false := by kernel_rfl
@[go_sem] theorem ty_tstr_72 : tstr prog 72 = false := by kernel_rfl
@[go_sem] theorem ty_tstr_77 : tstr prog 77 = false := by kernel_rfl
@[go_sem] theorem ty_tstr_79 : tstr prog 79 = false := by kernel_rfl
@[go_sem] theorem ty_tstr_9 : tstr prog 9 = true := by kernel_rfl
@[go_sem] theorem ty_tstr_91 : tstr prog 91 = false := by kernel_rfl
end Go.Avl
