/-
  The package-level variables that are known to hold plain values.
  Abstract values and the abstract evaluation of a region's operations: definitions only. Nothing is assumed.
  What abstract values and states say of a frame and a world.
  Readings carried along: inversions, what a step keeps.
  The model's operations, run: loads, stores, new blocks; each operation of a region does what its abstract evaluation says.
  New objects, new frozen rows, changed objects: what they leave of the reading.
  Each operation of a region does what its abstract evaluation says: plain operations and loads.
  Loads, stores, new variables, addresses: each as its abstract evaluation says.
  Stores; new rows; appends.
  Structs and rows that are built; appends; made slices.
  Rows that are built, appends.
  Rows that are built; made slices; appends.
-/
import Derived.OrdersIn
import Derived.TacticsIn
import Derived.RangeFuncLeaves
import Derived.RangeFuncOwn
import Derived.Laws.StructEq
import Derived.KernelRfl
import Derived.IntWalk
set_option linter.unusedSimpArgs false
set_option linter.unusedVariables false
set_option linter.unnecessarySimpa false
set_option linter.deprecated false
namespace Go.Avl
open Go
def pairTab : List Value := [.string ⟨#[45, 62]⟩, .string ⟨#[60, 61]⟩, .string ⟨#[62, 61]⟩, .string ⟨#[33, 61]⟩, .string ⟨#[58, 61]⟩]
def laidAt : Nat → Option (List Value)
 | 1 => some pairTab
 | _ => none
@[go_sem] theorem laidAt_1 : laidAt 1 = some pairTab := rfl
inductive Cp where
 | unk | zer | full | rest
 | val (c : Nat)
 deriving Inhabited
inductive AV where
 | sc (v : Value)
 | ag (cs : List AV)
 | tu (vs : List AV)
 | sl (nil : Bool) (es : List (List AV)) (cap : Cp)
 | ia (cs : List AV)
 | rf (id off : Nat)
 | tl (id len : Nat) (nil : Bool)
 | tv (id n off len : Nat) (cap : Cp)
 | ea (id n i off : Nat)
 | mp (id : Nat)
 | fn (f : FuncId) (caps : List AV)
 | ifc (t : TypeId) (v : AV)
 | yl (id : Nat)
 | opt (b : Bool) (v : AV)
 | junk
 deriving Inhabited
inductive RObj where
 | cells (cs : List AV)
 | arr (esz : Nat) (es : List (List AV)) (fz : Bool)
 | map (kt : TypeId) (es : List (Value × AV))
 deriving Inhabited
def ofCell : Value → AV
 | .slice none 0 0 => .sl true [] .zer
 | v => .sc v
def ofVal : Value → AV
 | .agg cs => .ag (cs.toList.map ofCell)
 | v => ofCell v
structure TI where
 size : Nat
 agg : Bool
 zero : List Value
 bytes : Nat
def descAgg : TypeDesc → Bool
 | .struct _ | .array _ _ => true
 | _ => false
def isAggV : Value → Bool
 | .agg _ => true
 | _ => false
def tinfo (P : Program) (t : TypeId) : Option TI :=
 match P.info? t, P.underlying t with
 | some i, some d => match i.zero with
   | some z => if (z.cells.toList.all Value.oneCell') = true ∧ isAggV z = descAgg d then some ⟨i.size, descAgg d, z.cells.toList, i.bytes⟩ else none
   | none => none
 | _, _ => none
def tfield (P : Program) (t : TypeId) (f : Nat) : Option (Nat × TypeId) :=
 match P.underlying t with
 | some (.struct fs) => (fs[f]?).map fun x => (x.offset, x.type)
 | _ => none
def telem (P : Program) (t : TypeId) : Option TypeId :=
 match P.underlying t with
 | some (.slice e) => some e
 | _ => none
def tarr (P : Program) (t : TypeId) : Option (Nat × TypeId) :=
 match P.underlying t with
 | some (.array n e) => some (n, e)
 | _ => none
def tint (P : Program) (t : TypeId) : Option IntKind :=
 match P.underlying t with
 | some (.int k) => some k
 | _ => none
def tstr (P : Program) (t : TypeId) : Bool :=
 match P.underlying t with
 | some .string => true
 | _ => false
def tmap (P : Program) (t : TypeId) : Option (TypeId × TypeId) :=
 match P.underlying t with
 | some (.map k e) => some (k, e)
 | _ => none
def tiface (P : Program) (t : TypeId) : Bool :=
 match P.underlying t with
 | some (.interface _) => true
 | _ => false
def tknown (P : Program) (t : TypeId) : Bool := (P.underlying t).isSome
def tinf (P : Program) (t : TypeId) : Bool := (P.info? t).isSome
inductive Kd where
 | int (k : IntKind)
 | bool
 | str
 deriving DecidableEq
def contig (P : Program) : List Field → Nat → Option Nat
 | [], n => some n
 | f :: fs, n => if f.offset = n ∧ f.name ≠ "_" then contig P fs (n + P.cellsOf f.type) else none
def kindsF (g : TypeId → Option (List Kd)) : List Field → Option (List Kd)
 | [] => some []
 | f :: fs => match g f.type, kindsF g fs with
   | some a, some b => some (a ++ b)
   | _, _ => none
def kindsOf (P : Program) : Nat → TypeId → Option (List Kd)
 | 0, _ => none
 | d + 1, t =>
   if (P.info? t).isSome = true then
   match P.underlying t with
   | some (.int k) => if P.cellsOf t = 1 then some [.int k] else none
   | some .bool => if P.cellsOf t = 1 then some [.bool] else none
   | some .string => if P.cellsOf t = 1 then some [.str] else none
   | some (.struct fs) => if P.stoodInHeld t = false ∧ contig P fs.toList 0 = some (P.cellsOf t) then kindsF (kindsOf P d) fs.toList else none
   | some (.array n e) => match kindsOf P d e with
     | some ks => if n * P.cellsOf e = P.cellsOf t then some (List.replicate n ks).flatten else none
     | none => none
   | _ => none
   else none
def matchKind : Kd → Value → Bool
 | .int k, .int k' _ => k == k'
 | .bool, .bool _ => true
 | .str, .string _ => true
 | _, _ => false
def matchKinds : List Kd → List Value → Bool
 | [], [] => true
 | k :: ks, v :: vs => matchKind k v && matchKinds ks vs
 | _, _ => false
def eqKinds (P : Program) (t : TypeId) : Option (List Kd) :=
 if P.eqGuardType P.depth t = false ∧ descAgg ((P.underlying t).getD .invalid) = true then kindsOf P 8 t else none
structure Fr where
 base : Nat
 nv : Nat
 hid : List Nat
 sz : Nat
structure St where
 vars : List (Nat × AV)
 tmps : List (Nat × AV)
 mem : List (Nat × RObj)
 nx : Nat
def alook : List (Nat × AV) → Nat → AV
 | [], _ => .junk
 | (k, v) :: r, i => if i = k then v else alook r i
def aset : List (Nat × AV) → Nat → AV → List (Nat × AV)
 | [], i, v => [(i, v)]
 | (k, u) :: r, i, v => if i = k then (k, v) :: r else (k, u) :: aset r i v
def mlook : List (Nat × RObj) → Nat → Option RObj
 | [], _ => none
 | (k, v) :: r, i => if i = k then some v else mlook r i
def mset : List (Nat × RObj) → Nat → RObj → List (Nat × RObj)
 | [], i, v => [(i, v)]
 | (k, u) :: r, i, v => if i = k then (k, v) :: r else (k, u) :: mset r i v
def mdel : List (Nat × RObj) → Nat → List (Nat × RObj)
 | [], _ => []
 | (k, u) :: r, i => if i = k then mdel r i else (k, u) :: mdel r i
def Fr.isG (fr : Fr) (k : Nat) : Bool := decide (k < fr.nv) || fr.hid.contains k
def St.get (fr : Fr) (st : St) (k : Nat) : AV := if fr.isG k = true then alook st.vars k else alook st.tmps k
def St.put (fr : Fr) (st : St) (d : Option Nat) (v : AV) : St :=
 match d with
 | none => st
 | some d => if fr.isG d = true then ⟨aset st.vars d v, st.tmps, st.mem, st.nx⟩ else ⟨st.vars, (d, v) :: st.tmps, st.mem, st.nx⟩
def opnd (fr : Fr) (st : St) : Operand → AV
 | .tmp t => st.get fr t
 | .const v => ofVal v
 | .global g => match laidAt g with
   | some vs => .ia (vs.map AV.sc)
   | none => .sc (.pointer (some ⟨g, 0, none⟩))
 | .func f => .fn f []
def unopt (g : Bool) : AV → AV
 | .opt b v => if (!g || b) = true then v else .junk
 | v => v
def od (fr : Fr) (st : St) (g : Bool) (x : Operand) : AV := unopt g (opnd fr st x)
theorem ex_bool (b : Bool) : ∃ c : Bool, c = b := ⟨b, rfl⟩
noncomputable def inI64 (x : Int) : Bool := Classical.choose (ex_bool (decide (-9223372036854775808 ≤ x) && decide (x ≤ 9223372036854775807)))
theorem inI64_eq (x : Int) : inI64 x = (decide (-9223372036854775808 ≤ x) && decide (x ≤ 9223372036854775807)) := Classical.choose_spec (ex_bool _)
inductive Ef where
 | bad
 | val (ok : Bool) (v : AV)
 | new (ok : Bool) (v : AV) (o : RObj)
 | upd (ok : Bool) (v : AV) (id : Nat) (o : RObj)
 | key (ok : Bool) (v : AV) (old : Nat) (o : RObj)
def mkv (agg : Bool) (cs : List AV) : AV :=
 if agg = true then .ag cs else match cs with
  | [c] => c
  | _ => .junk
def acells : AV → List AV
 | .ag cs => cs
 | v => [v]
def awrite (l : List AV) (off : Nat) (cs : List AV) : List AV := l.take off ++ cs ++ l.drop (off + cs.length)
mutual
def AV.noref : AV → Bool
 | .sc _ => true
 | .ag cs => AV.norefs cs
 | .tu cs => AV.norefs cs
 | .sl _ _ _ => true
 | .ia _ => true
 | .ifc _ v => v.noref
 | .fn _ cs => AV.norefs cs
 | .opt _ v => v.noref
 | _ => false
def AV.norefs : List AV → Bool
 | [] => true
 | c :: cs => c.noref && AV.norefs cs
end
def AV.cell1 : AV → Bool
 | .sc (.agg _) => false
 | .sc (.tuple _) => false
 | .sc _ => true
 | .sl _ _ _ => true
 | .ia _ => true
 | .rf _ _ => true
 | .mp _ => true
 | .fn _ _ => true
 | .ifc _ _ => true
 | _ => false
def acell (mem : List (Nat × RObj)) : AV → Bool
 | .tl i n _ => match mlook mem i with
   | some (.arr _ es _) => decide (n = es.length)
   | _ => false
 | .tv i n _ _ _ => match mlook mem i with
   | some (.arr _ es _) => decide (n = es.length)
   | _ => false
 | v => v.cell1
def cellVal : AV → Option Value
 | .sc (.int k n) => some (.int k n)
 | .sc (.bool b) => some (.bool b)
 | .sc (.string s) => some (.string s)
 | _ => none
def cellVals : List AV → Option (List Value)
 | [] => some []
 | c :: cs => match cellVal c, cellVals cs with
   | some v, some vs => some (v :: vs)
   | _, _ => none
def toVal : AV → Option Value
 | .ag cs => (cellVals cs).map fun vs => .agg vs.toArray
 | v => cellVal v
def eqCell : Value → Value → Bool
 | .int _ a, .int _ b => decide (a = b)
 | .bool a, .bool b => a == b
 | .string a, .string b => a.toList == b.toList
 | _, _ => false
def eqCells : List Value → List Value → Bool
 | [], [] => true
 | a :: as, b :: bs => eqCell a b && eqCells as bs
 | _, _ => false
def eqVal (a b : Value) : Bool := eqCells a.cells.toList b.cells.toList
def elook : List (Value × AV) → Value → Option AV
 | [], _ => none
 | (k, v) :: r, x => if eqVal x k = true then some v else elook r x
def eset : List (Value × AV) → Value → AV → List (Value × AV)
 | [], x, v => [(x, v)]
 | (k, u) :: r, x, v => if eqVal x k = true then (x, v) :: r else (k, u) :: eset r x v
def isKey (P : Program) (t : TypeId) (k : Value) : Bool :=
 match kindsOf P 8 t, P.underlying t with
 | some ks, some d => match k with
   | .agg cs => descAgg d && matchKinds ks cs.toList
   | v => !descAgg d && matchKinds ks [v]
 | _, _ => false
def isShift : BinOp → Bool
 | .shl => true
 | .shr => true
 | _ => false
def shiftOf (op : BinOp) (k : IntKind) (a : Int) (n : Nat) : Int :=
 match op with
 | .shl => k.wrap (a * 2 ^ min n k.bits)
 | _ => a.fdiv (2 ^ min n k.bits)
def bitsOf (op : BinOp) (k : IntKind) (a b : Int) : Int :=
 match op with
 | .and => k.wrap (BitVec.ofInt k.bits a &&& BitVec.ofInt k.bits b).toNat
 | .or => k.wrap (BitVec.ofInt k.bits a ||| BitVec.ofInt k.bits b).toNat
 | .xor => k.wrap (BitVec.ofInt k.bits a ^^^ BitVec.ofInt k.bits b).toNat
 | _ => k.wrap (BitVec.ofInt k.bits a &&& ~~~BitVec.ofInt k.bits b).toNat
noncomputable def intBin (op : BinOp) (k : IntKind) (a b : Int) : Ef :=
 match op, k with
 | .add, .i64 => .val (inI64 (a + b)) (.sc (.int .i64 (a + b)))
 | .sub, .i64 => .val (inI64 (a - b)) (.sc (.int .i64 (a - b)))
 | .mul, .i64 => .val (inI64 (a * b)) (.sc (.int .i64 (a * b)))
 | .add, k => .val true (.sc (.int k (k.wrap (a + b))))
 | .sub, k => .val true (.sc (.int k (k.wrap (a - b))))
 | .mul, k => .val true (.sc (.int k (k.wrap (a * b))))
 | .quo, .i64 => .val (decide (0 ≤ a) && decide (0 < b) && inI64 (a / b)) (.sc (.int .i64 (a / b)))
 | .quo, k => .val (decide (0 ≤ a) && decide (0 < b)) (.sc (.int k (k.wrap (a / b))))
 | .rem, k => .val (decide (0 ≤ a) && decide (0 < b)) (.sc (.int k (a % b)))
 | .eql, _ => .val true (.sc (.bool (decide (a = b))))
 | .neq, _ => .val true (.sc (.bool (!decide (a = b))))
 | .lss, _ => .val true (.sc (.bool (decide (a < b))))
 | .leq, _ => .val true (.sc (.bool (decide (a ≤ b))))
 | .gtr, _ => .val true (.sc (.bool (decide (b < a))))
 | .geq, _ => .val true (.sc (.bool (decide (b ≤ a))))
 | .and, k => .val true (.sc (.int k (bitsOf .and k a b)))
 | .or, k => .val true (.sc (.int k (bitsOf .or k a b)))
 | .xor, k => .val true (.sc (.int k (bitsOf .xor k a b)))
 | .andNot, k => .val true (.sc (.int k (bitsOf .andNot k a b)))
 | _, _ => .bad
def nilOf (mem : List (Nat × RObj)) : AV → Option (Nat × Bool)
 | .sl n _ _ => some (1, n)
 | .tl i n b => match mlook mem i with
   | some (.arr _ es _) => if n = es.length then some (1, b) else none
   | _ => none
 | .tv i n _ _ _ => match mlook mem i with
   | some (.arr _ es _) => if n = es.length then some (1, false) else none
   | _ => none
 | .sc .nilFunc => some (2, true)
 | .fn _ _ => some (2, false)
 | .sc (.pointer none) => some (3, true)
 | .rf _ _ => some (3, false)
 | _ => none
def nilTy (P : Program) (t : TypeId) : Nat :=
 match P.underlying t with
 | some (.slice _) => 1
 | some (.func _ _ _) => 2
 | some (.pointer _) => 3
 | _ => 0
def nilEf (P : Program) (t : TypeId) (op : BinOp) (a b : Nat × Bool) : Ef :=
 match op with
 | .eql => .val ((a.2 || b.2) && decide (a.1 = nilTy P t) && decide (b.1 = nilTy P t)) (.sc (.bool (a.2 && b.2)))
 | .neq => .val ((a.2 || b.2) && decide (a.1 = nilTy P t) && decide (b.1 = nilTy P t)) (.sc (.bool (!(a.2 && b.2))))
 | _ => .bad
def tbool (P : Program) (t : TypeId) : Bool :=
 match P.underlying t with
 | some .bool => true
 | _ => false
noncomputable def binEf (P : Program) (op : BinOp) (t : TypeId) (x y : AV) : Ef :=
 match x, y with
 | .sc (.int k a), .sc (.int k' b) => if isShift op = true then .val (decide (0 ≤ b)) (.sc (.int k (shiftOf op k a b.toNat))) else if k = k' then intBin op k a b else .bad
 | .sc (.bool a), .sc (.bool b) => match op with
   | .eql => .val (tbool P t) (.sc (.bool (a == b)))
   | .neq => .val (tbool P t) (.sc (.bool (!(a == b))))
   | _ => .bad
 | .sc (.string a), .sc (.string b) => match op with
   | .eql => .val true (.sc (.bool (a.toList == b.toList)))
   | .neq => .val true (.sc (.bool (!(a.toList == b.toList))))
   | _ => .bad
 | .ag xs, .ag ys => match cellVals xs, cellVals ys with
   | some vs, some us => match eqKinds P t with
     | some ks => match op with
       | .eql => .val (matchKinds ks vs && matchKinds ks us) (.sc (.bool (eqCells vs us)))
       | .neq => .val (matchKinds ks vs && matchKinds ks us) (.sc (.bool (!eqCells vs us)))
       | _ => .bad
     | none => .bad
   | _, _ => .bad
 | _, _ => .bad
def zeroOf (ti : TI) : List AV := ti.zero.map ofCell
def placeOf (P : Program) (t : TypeId) (i : Nat) : Option (Nat × Nat) :=
 match P.underlying t with
 | some (.struct fs) => if (fs.all fun f => (P.info? f.type).isSome) = true then (fs[i]?).map fun f => (f.offset, P.cellsOf f.type) else none
 | some (.array _ e) => if (P.info? e).isSome = true then some (i * P.cellsOf e, P.cellsOf e) else none
 | _ => none
def tbuild (P : Program) (t : TypeId) : Bool :=
 match P.underlying t with
 | some (.struct fs) => fs.all fun f => (P.info? f.type).isSome
 | some (.array _ e) => (P.info? e).isSome
 | _ => false
def fillAV (mem : List (Nat × RObj)) (place : Nat → Option (Nat × Nat)) (cells : List AV) : List (Nat × AV) → Option (List AV)
 | [] => some cells
 | (i, v) :: r => match place i with
   | none => none
   | some (off, size) => if (acells v).length = size ∧ off + size ≤ cells.length ∧ (acells v).all (acell mem) = true then fillAV mem place (awrite cells off (acells v)) r else none
def fillEs (mem : List (Nat × RObj)) (size : Nat) (es : List (List AV)) : List (Nat × AV) → Option (List (List AV))
 | [] => some es
 | (i, v) :: r => if (acells v).length = size ∧ i < es.length ∧ (acells v).all (acell mem) = true then fillEs mem size (es.set i (acells v)) r else none
noncomputable def room (n bytes : Nat) : Bool := Classical.choose (ex_bool (decide (n * (bytes + 1) ≤ 35184372088832)))
theorem room_eq (n bytes : Nat) : room n bytes = decide (n * (bytes + 1) ≤ 35184372088832) := Classical.choose_spec (ex_bool _)
def elemsOf (mem : List (Nat × RObj)) : AV → Option (List (List AV))
 | .sl _ es _ => some es
 | .tl i n _ => match mlook mem i with
   | some (.arr _ es _) => if n = es.length then some es else none
   | _ => none
 | .tv i n off len _ => match mlook mem i with
   | some (.arr _ es _) => if n = es.length then some ((es.drop off).take len) else none
   | _ => none
 | _ => none
def tvCap (len : Nat) : Cp → Cp
 | .val c => if c = len then .full else .unk
 | _ => .unk
def tvEs (es : List (List AV)) (n off len : Nat) : List (List AV) := if off = 0 ∧ len = n then es else (es.drop off).take len
def snap (mem : List (Nat × RObj)) : AV → AV
 | .tl i n b => match mlook mem i with
   | some (.arr _ es true) => if n = es.length then .sl b es .unk else .tl i n b
   | _ => .tl i n b
 | .tv i n off len cap => match mlook mem i with
   | some (.arr _ es true) => if n = es.length then .sl false (tvEs es n off len) (tvCap len cap) else .tv i n off len cap
   | _ => .tv i n off len cap
 | v => v
def viewOf (mem : List (Nat × RObj)) : AV → Option (Nat × Nat × Nat × Nat × Nat × Cp)
 | .tl i n _ => match mlook mem i with
   | some (.arr esz es _) => if n = es.length then some (i, esz, n, 0, n, .rest) else none
   | _ => none
 | .tv i n off len cap => match mlook mem i with
   | some (.arr esz es _) => if n = es.length then some (i, esz, n, off, len, cap) else none
   | _ => none
 | _ => none
def ownSlot (fr : Fr) : Option Nat → Bool
 | some d => fr.hid.contains d
 | none => false
noncomputable def appendEf (P : Program) (mem : List (Nat × RObj)) (id : Nat) (own : Bool) (t : TypeId) (x : AV) (ys : List (List AV)) : Ef :=
 match telem P t with
 | none => .bad
 | some e => match tinfo P e with
   | none => .bad
   | some ti => match x with
     | .tl i n nl => match mlook mem i with
       | some (.arr esz es fz) =>
         .upd (decide (n = es.length) && decide (esz = ti.size) && decide (ti.zero.length = ti.size) && room (es.length + ys.length) ti.bytes && (ys.all fun y => decide (y.length = esz)) && (!fz || ys.all AV.norefs))
          (.tl i (es ++ ys).length (nl && ys.isEmpty)) i (.arr esz (es ++ ys) fz)
       | _ => .bad
     | .tv i n 0 len (.val c) => match mlook mem i with
       | some (.arr esz es fz) =>
         .upd (!fz && decide (n = es.length) && decide (esz = ti.size) && decide (ti.zero.length = ti.size) && decide (len + ys.length ≤ c) && decide (c ≤ n) && room (len + ys.length) ti.bytes && (ys.all fun y => decide (y.length = esz)))
          (.tv i n 0 (len + ys.length) (.val c)) i (.arr esz (es.take len ++ (ys ++ es.drop (len + ys.length))) false)
       | _ => .bad
     | .tv i n 0 len .rest => match mlook mem i with
       | some (.arr esz es fz) =>
         if len = n then .upd (!fz && decide (n ≠ 0) && decide (n = es.length) && decide (esz = ti.size) && decide (ti.zero.length = ti.size) && room (es.length + ys.length) ti.bytes && (ys.all fun y => decide (y.length = esz)))
          (.tv i (es ++ ys).length 0 (es ++ ys).length .rest) i (.arr esz (es ++ ys) false)
         else .upd (!fz && decide (n = es.length) && decide (esz = ti.size) && decide (ti.zero.length = ti.size) && decide (len + ys.length ≤ n) && (ys.all fun y => decide (y.length = esz)))
          (.tv i n 0 (len + ys.length) .rest) i (.arr esz (es.take len ++ (ys ++ es.drop (len + ys.length))) false)
       | _ => .bad
     | .sl nl es .zer =>
       .new (decide (es.length = 0) && decide (ti.zero.length = ti.size) && room ys.length ti.bytes && ys.all fun y => decide (y.length = ti.size))
        (.tl id ys.length (nl && ys.isEmpty)) (.arr ti.size ys false)
     | .sl nl es .full =>
       if own = true then
        .new (!ys.isEmpty && room (es.length + ys.length) ti.bytes && decide (ti.zero.length = ti.size) && (ys.all fun y => decide (y.length = ti.size)) && (es.all fun y => decide (y.length = ti.size)))
         (.tl id (es ++ ys).length false) (.arr ti.size (es ++ ys) false)
       else
       .val (room (es.length + ys.length) ti.bytes && decide (ti.zero.length = ti.size) && (ys.all fun y => decide (y.length = ti.size) && AV.norefs y) && (es.all fun y => decide (y.length = ti.size) && AV.norefs y))
        (.sl (nl && ys.isEmpty) (es ++ ys) .unk)
     | _ => .bad
noncomputable def appendN (P : Program) (id : Nat) (t t' : TypeId) (x y : AV) : Ef :=
 match tint P t', telem P t with
 | some _, some e => match tinfo P e, x, y with
   | some ti, .sl nl es .zer, .sc (.int _ n) => .new (decide (es.length = 0) && decide (0 < n) && room n.toNat ti.bytes && decide (ti.zero.length = ti.size) && decide (0 < ti.size)) (.tl id n.toNat false) (.arr ti.size (List.replicate n.toNat (zeroOf ti)) false)
   | _, _, _ => .bad
 | _, _ => .bad
def copyEf (P : Program) (mem : List (Nat × RObj)) (t : TypeId) (x y : AV) : Ef :=
 match telem P t with
 | none => .bad
 | some e => match tinfo P e, viewOf mem x, elemsOf mem y with
   | some ti, some (i, esz, n, off, len, _), some ys => match mlook mem i with
     | some (.arr _ es fz) =>
       .upd (!fz && decide (esz = ti.size) && decide (n ≠ 0) && (ys.all fun y => decide (y.length = esz)) && ys.all AV.norefs) (.sc (.int .i64 (min ys.length len : Nat))) i (.arr esz (es.take off ++ (ys.take (min ys.length len) ++ es.drop (off + min ys.length len))) false)
     | _ => .bad
   | _, _, _ => .bad
def cutTail : Cp → Cp
 | .full => .full
 | .zer => .zer
 | _ => .unk
def cutHead : Cp → Cp
 | .zer => .zer
 | _ => .unk
def sliceEf (size : Nat) (x : AV) (lo hi mx : Option Int) : Ef :=
 match x with
 | .sl nl es cap =>
   match hi, mx with
   | none, none => .val ((es.all fun y => decide (y.length = size)) && decide (0 ≤ lo.getD 0) && decide (lo.getD 0 ≤ es.length)) (.sl nl (es.drop (lo.getD 0).toNat) (cutTail cap))
   | some h, none => .val ((es.all fun y => decide (y.length = size)) && decide (0 ≤ lo.getD 0) && decide (lo.getD 0 ≤ h) && decide (h ≤ es.length)) (.sl nl ((es.take h.toNat).drop (lo.getD 0).toNat) (cutHead cap))
   | some h, some m => .val ((es.all fun y => decide (y.length = size)) && decide (0 ≤ lo.getD 0) && decide (lo.getD 0 ≤ h) && decide (h ≤ m) && decide (m ≤ es.length)) (.sl nl ((es.take h.toNat).drop (lo.getD 0).toNat) (if h = m then .full else .val (m - lo.getD 0).toNat))
   | _, _ => .bad
 | .sc (.slice (some a) _ c) => match lo, hi, mx with
   | none, some h, some m => .val (decide (0 ≤ h) && decide (h ≤ m) && decide (m ≤ c)) (.sc (.slice (some a) h.toNat m.toNat))
   | _, _, _ => .bad
 | _ => .bad
def cutV (l : Nat) : Cp → Cp
 | .val k => .val (k - l)
 | .rest => .rest
 | _ => .unk
def vEf (size i esz n off len l h : Nat) (ok : Bool) (cap : Cp) : Ef :=
 .val (ok && decide (esz = size) && decide (n ≠ 0) && decide (l ≤ h) && decide (h ≤ len) && (decide (l = 0) || decide (l < h))) (.tv i n (off + l) (h - l) cap)
def sliceV (size i esz n off len : Nat) (cap : Cp) : Option Int → Option Int → Option Int → Ef
 | none, none, none => vEf size i esz n off len 0 len true (cutV 0 cap)
 | none, some h, none => vEf size i esz n off len 0 h.toNat (decide (0 ≤ h)) (cutV 0 cap)
 | some l, none, none => vEf size i esz n off len l.toNat len (decide (0 ≤ l)) (cutV l.toNat cap)
 | some l, some h, none => vEf size i esz n off len l.toNat h.toNat (decide (0 ≤ l) && decide (0 ≤ h)) (cutV l.toNat cap)
 | none, some h, some m => vEf size i esz n off len 0 h.toNat (decide (0 ≤ h) && decide (h ≤ m) && decide (m.toNat ≤ len)) (.val m.toNat)
 | some l, some h, some m => vEf size i esz n off len l.toNat h.toNat (decide (0 ≤ l) && decide (0 ≤ h) && decide (h ≤ m) && decide (m.toNat ≤ len)) (.val (m.toNat - l.toNat))
 | _, _, _ => .bad
def bound : Option AV → Option (Option Int)
 | none => some none
 | some (.sc (.int _ i)) => some (some i)
 | _ => none
noncomputable def xop (P : Program) (fr : Fr) (st : St) (g : Bool) (id : Nat) (o : Oper) : Ef :=
 match o.op with
 | .move x => .val true (od fr st g x)
 | .assign x => match x with
   | .const (.slice none 0 0) => match telem P o.type with
     | some e => .new true (.tl id 0 true) (.arr (P.cellsOf e) [] true)
     | none => .bad
   | _ => .val true (od fr st g x)
 | .pick c a b => match unopt g (opnd fr st c), opnd fr st a, opnd fr st b with
   | .sc (.bool k), x, y => match unopt (g && k) x, unopt (g && !k) y with
     | .sc (.bool p), .sc (.bool q) => .val true (.sc (.bool (if k = true then p else q)))
     | _, _ => .bad
   | _, _, _ => .bad
 | .alloc t => match tinfo P t with
   | some ti => .new true (.rf id 0) (.cells (zeroOf ti))
   | none => .bad
 | .box _ x => .new ((acells (od fr st g x)).all (acell st.mem)) (.rf id 0) (.cells (acells (od fr st g x)))
 | .build t parts => match tinfo P t with
   | some ti => match fillAV st.mem (placeOf P t) (zeroOf ti) (parts.toList.map fun p => (p.1, od fr st g p.2)) with
     | some cs => .val (tbuild P t) (.ag cs)
     | none => .bad
   | none => .bad
 | .buildSlice t n parts => match telem P t with
   | some e => match tinfo P e with
     | some ti => match fillEs st.mem ti.size (List.replicate n (zeroOf ti)) (parts.toList.map fun p => (p.1, snap st.mem (od fr st g p.2))) with
       | some es => if ownSlot fr o.dst = true then .new (decide (n * ti.size ≤ 16777216) && decide (ti.zero.length = ti.size)) (.tl id n false) (.arr ti.size es false)
         else .val (decide (n * ti.size ≤ 16777216) && decide (ti.zero.length = ti.size) && es.all AV.norefs) (.sl false es (if n = 0 then .zer else .full))
       | none => .bad
     | none => .bad
   | none => .bad
 | .load t x => match tinfo P t with
   | some ti => match od fr st g x with
     | .rf i off => match mlook st.mem i with
       | some (.cells cs) => .val (decide (off + ti.size ≤ cs.length) && (ti.agg || decide (ti.size = 1))) (mkv ti.agg ((cs.drop off).take ti.size))
       | _ => .bad
     | .ia cs => .val (decide (ti.size ≤ cs.length) && (ti.agg || decide (ti.size = 1))) (mkv ti.agg (cs.take ti.size))
     | .ea i n k off => match mlook st.mem i with
       | some (.arr _ es _) => match es[k]? with
         | some c => .val (decide (n = es.length) && decide (off + ti.size ≤ c.length) && (ti.agg || decide (ti.size = 1))) (mkv ti.agg ((c.drop off).take ti.size))
         | none => .bad
       | _ => .bad
     | _ => .bad
   | none => .bad
 | .store t a x => match tinfo P t with
   | some ti => match od fr st g a with
     | .rf i off => match mlook st.mem i with
       | some (.cells cs) => .upd (decide ((acells (od fr st g x)).length = ti.size) && decide (off + ti.size ≤ cs.length) && (acells (od fr st g x)).all (acell st.mem)) .junk i (.cells (awrite cs off (acells (od fr st g x))))
       | _ => .bad
     | .ea i n k off => match mlook st.mem i with
       | some (.arr esz es fz) => match es[k]? with
         | some c => .upd (!fz && decide (n = es.length) && decide ((acells (snap st.mem (od fr st g x))).length = ti.size) && decide (off + ti.size ≤ c.length) && (acells (snap st.mem (od fr st g x))).all (acell st.mem)) .junk i (.arr esz (es.set k (awrite c off (acells (snap st.mem (od fr st g x))))) fz)
         | none => .bad
       | _ => .bad
     | _ => .bad
   | none => .bad
 | .nilCheck x => match od fr st g x with
   | .rf i off => .val true (.rf i off)
   | .ia cs => .val true (.ia cs)
   | .ea i n k off => match mlook st.mem i with
     | some (.arr _ es _) => .val (decide (n = es.length)) (.ea i n k off)
     | _ => .bad
   | _ => .bad
 | .fieldAddr t x f => match tfield P t f with
   | some (off, ft) => match od fr st g x with
     | .rf i o => .val (decide (P.cellsOf ft ≠ 0)) (.rf i (o + off))
     | .ia cs => .val (decide (P.cellsOf ft ≠ 0)) (.ia (cs.drop off))
     | .ea i n k o => match mlook st.mem i with
       | some (.arr _ es _) => .val (decide (P.cellsOf ft ≠ 0) && decide (n = es.length)) (.ea i n k (o + off))
       | _ => .bad
     | _ => .bad
   | none => .bad
 | .field t x f => match tfield P t f with
   | some (off, ft) => match tinfo P ft, od fr st g x with
     | some ti, .ag cs => .val (decide (off + ti.size ≤ cs.length) && (ti.agg || decide (ti.size = 1))) (mkv ti.agg ((cs.drop off).take ti.size))
     | _, _ => .bad
   | none => .bad
 | .indexAddr t x ix => match od fr st g ix with
   | .sc (.int _ i) => match telem P t with
     | some e => if tinf P e = false then .bad else match od fr st g x with
       | .sl _ es _ => match es[i.toNat]? with
         | some c => .val (decide (0 ≤ i) && decide (c.length = P.cellsOf e)) (.ia c)
         | none => .bad
       | .tl k n _ => match mlook st.mem k with
         | some (.arr esz es _) => .val (decide (0 ≤ i) && decide (i.toNat < es.length) && decide (n = es.length) && decide (esz = P.cellsOf e)) (.ea k n i.toNat 0)
         | _ => .bad
       | .tv k n off len _ => match mlook st.mem k with
         | some (.arr esz es _) => .val (decide (0 ≤ i) && decide (i.toNat < len) && decide (n = es.length) && decide (esz = P.cellsOf e)) (.ea k n (off + i.toNat) 0)
         | _ => .bad
       | _ => .bad
     | none => match tarr P t with
       | some (n, e) => if tinf P e = false then .bad else match od fr st g x with
         | .rf k off => .val (decide (0 ≤ i) && decide (i.toNat < n)) (.rf k (off + i.toNat * P.cellsOf e))
         | .ia cs => .val (decide (0 ≤ i) && decide (i.toNat < n)) (.ia (cs.drop (i.toNat * P.cellsOf e)))
         | .ea k m j off => match mlook st.mem k with
           | some (.arr _ es _) => .val (decide (0 ≤ i) && decide (i.toNat < n) && decide (m = es.length)) (.ea k m j (off + i.toNat * P.cellsOf e))
           | _ => .bad
         | _ => .bad
       | none => .bad
   | _ => .bad
 | .index t x ix => match od fr st g ix with
   | .sc (.int _ i) => match tarr P t with
     | some (n, e) => match tinfo P e, od fr st g x with
       | some ti, .ag cs => .val (decide (0 ≤ i) && decide (i.toNat < n) && decide (i.toNat * ti.size + ti.size ≤ cs.length) && (ti.agg || decide (ti.size = 1))) (mkv ti.agg ((cs.drop (i.toNat * ti.size)).take ti.size))
       | _, _ => .bad
     | none => .bad
   | _ => .bad
 | .binOp op t x y _ => match nilOf st.mem (od fr st g x), nilOf st.mem (od fr st g y) with
   | some a, some b => nilEf P t op a b
   | _, _ => binEf P op t (od fr st g x) (od fr st g y)
 | .unOp op _ x => match op, od fr st g x with
   | .not, .sc (.bool b) => .val true (.sc (.bool (!b)))
   | .neg, .sc (.int .i64 n) => .val (inI64 (-n)) (.sc (.int .i64 (-n)))
   | _, _ => .bad
 | .convert s d x => if tknown P s = false then .bad else match tint P d, od fr st g x with
   | some .i64, .sc (.int _ n) => .val (inI64 n) (.sc (.int .i64 n))
   | some k, .sc (.int _ n) => .val true (.sc (.int k (k.wrap n)))
   | _, _ => .bad
 | .makeInterface t x => .val (tknown P t && !tiface P t) (.ifc t (od fr st g x))
 | .makeFunc fn first caps => match fn, first.toList with
   | .func f, [] => .val (Nat.blt f 1000000) (.fn f (caps.toList.map (od fr st g)))
   | .func f, _ :: _ => .val (Nat.beq caps.size 0) (.fn (f + 1000000) (first.toList.map (od fr st g)))
   | _, _ => .bad
 | .makeMap t r => match tmap P t, r with
   | some (k, _), none => .new true (.mp id) (.map k [])
   | some (k, _), some x => match od fr st g x with
     | .sc (.int _ _) => .new true (.mp id) (.map k [])
     | _ => .bad
   | none, _ => .bad
 | .makeSlice t l c => match telem P t with
   | some e => match tinfo P e, od fr st g l, od fr st g c with
     | some ti, .sc (.int .i64 n), .sc (.int .i64 m) => if ownSlot fr o.dst = true then .new (decide (0 ≤ n) && decide (n ≤ m) && room m.toNat ti.bytes && decide (ti.zero.length = ti.size)) (.tv id m.toNat 0 n.toNat (.val m.toNat)) (.arr ti.size (List.replicate m.toNat (zeroOf ti)) false)
       else .new (decide (0 ≤ n) && decide (n ≤ m) && room m.toNat ti.bytes && decide (ti.zero.length = ti.size)) (.tl id n.toNat false) (.arr ti.size (List.replicate n.toNat (zeroOf ti)) false)
     | _, _, _ => .bad
   | none => .bad
 | .slice t x lo hi mx => match telem P t with
   | some e => if tinf P e = false then .bad else
     match bound (lo.map (od fr st g)), bound (hi.map (od fr st g)), bound (mx.map (od fr st g)) with
     | some a, some b, some c => match viewOf st.mem (snap st.mem (od fr st g x)) with
       | some (i, esz, n, off, len, cap) => sliceV (P.cellsOf e) i esz n off len cap a b c
       | none => sliceEf (P.cellsOf e) (snap st.mem (od fr st g x)) a b c
     | _, _, _ => .bad
   | none => .bad
 | .lookup t m k ok => match tmap P t, toVal (od fr st g k), od fr st g m with
   | some (kt, et), some kv, .mp i => match mlook st.mem i, tinfo P et with
     | some (.map kt' es), some ti => match elook es kv with
       | some v => .val (decide (kt = kt') && isKey P kt kv) (if ok = true then .tu [v, .sc (.bool true)] else v)
       | none => .val (decide (kt = kt') && isKey P kt kv) (if ok = true then .tu [mkv ti.agg (zeroOf ti), .sc (.bool false)] else mkv ti.agg (zeroOf ti))
     | _, _ => .bad
   | _, _, _ => .bad
 | .mapUpdate t m k x => match tmap P t, toVal (od fr st g k), od fr st g m with
   | some (kt, _), some kv, .mp i => match mlook st.mem i with
     | some (.map kt' es) => .upd (decide (kt = kt') && isKey P kt kv) .junk i (.map kt' (eset es kv (od fr st g x)))
     | _ => .bad
   | _, _, _ => .bad
 | .insert t m k x => match tmap P t, toVal (od fr st g k), od fr st g m with
   | some (kt, _), some kv, .mp i => match mlook st.mem i with
     | some (.map kt' es) => .upd (decide (kt = kt') && isKey P kt kv) .junk i (.map kt' (eset es kv (od fr st g x)))
     | _ => .bad
   | _, _, _ => .bad
 | .typeAssert x _ t ok => match od fr st g x with
   | .ifc t' v => if tiface P t = true ∨ tknown P t = false then .bad else
     if t' = t then .val true (if ok = true then .tu [v, .sc (.bool true)] else v)
     else if ok = true then match tinfo P t with
      | some ti => .val true (.tu [mkv ti.agg (zeroOf ti), .sc (.bool false)])
      | none => .bad
     else .bad
   | _ => .bad
 | .extract x i => match od fr st g x with
   | .tu vs => match vs[i]? with
     | some v => .val true v
     | none => .bad
   | _ => .bad
 | .call c => match c.callee, c.args.toList, c.argTypes.toList with
   | .builtin .len, [x], [t] => match telem P t with
     | some _ => match elemsOf st.mem (od fr st g x) with
       | some es => .val true (.sc (.int .i64 es.length))
       | none => match od fr st g x with
         | .sc (.slice _ n _) => .val true (.sc (.int .i64 n))
         | _ => .bad
     | none => match od fr st g x with
       | .sc (.string s) => if tstr P t = true then .val true (.sc (.int .i64 s.size)) else .bad
       | .mp i => match mlook st.mem i, tmap P t with
         | some (.map _ es), some _ => .val true (.sc (.int .i64 es.length))
         | _, _ => .bad
       | _ => .bad
   | .builtin .cap, [x], [t] => match telem P t, od fr st g x with
     | some _, .sl _ es .full => .val true (.sc (.int .i64 es.length))
     | some _, .sl _ _ .zer => .val true (.sc (.int .i64 0))
     | some _, .sl _ _ (.val c) => .val true (.sc (.int .i64 c))
     | some _, .tv i n _ _ (.val c) => match mlook st.mem i with
       | some (.arr _ es _) => .val (decide (n = es.length)) (.sc (.int .i64 c))
       | _ => .bad
     | _, _ => .bad
   | .builtin .append, [x, y], [t, t'] => match telem P t', elemsOf st.mem (od fr st g y) with
     | some _, some ys => appendEf P st.mem id (ownSlot fr o.dst) t (od fr st g x) ys
     | none, _ => appendN P id t t' (od fr st g x) (od fr st g y)
     | _, _ => .bad
   | .builtin .copy, [x, y], [t, _] => copyEf P st.mem t (od fr st g x) (od fr st g y)
   | .builtin .min, [x, y], [_, _] => match od fr st g x, od fr st g y with
     | .sc (.int k a), .sc (.int k' b) => .val (decide (k = k')) (.sc (.int k (if a ≤ b then a else b)))
     | _, _ => .bad
   | .builtin .max, [x, y], [_, _] => match od fr st g x, od fr st g y with
     | .sc (.int k a), .sc (.int k' b) => .val (decide (k = k')) (.sc (.int k (if a ≤ b then b else a)))
     | _, _ => .bad
   | _, _, _ => .bad
 | _ => .bad
def fnV (f : Nat) : List Value → Value
 | [] => .func (.func f) #[] #[]
 | v :: vs => if f < 1000000 then .func (.func f) #[] (v :: vs).toArray else .func (.func (f - 1000000)) (v :: vs).toArray #[]
theorem fnV_lt {f : Nat} (h : f < 1000000) (vs : List Value) : fnV f vs = .func (.func f) #[] vs.toArray := by
 cases vs with
 | nil => rfl
 | cons v vs => exact if_pos h
theorem fnV_ge {f : Nat} {vs : List Value} (h : vs ≠ []) : fnV (f + 1000000) vs = .func (.func f) vs.toArray #[] := by
 cases vs with
 | nil => exact absurd rfl h
 | cons v vs =>
   simp only [fnV]
   rw [if_neg (by omega), Nat.add_sub_cancel]
theorem fnV_func (f : Nat) (vs : List Value) : ∃ g a b, fnV f vs = .func g a b := by
 cases vs with
 | nil => exact ⟨_, _, _, rfl⟩
 | cons v vs => simp only [fnV]; split <;> exact ⟨_, _, _, rfl⟩
inductive Imm (F : Nat → Nat → Prop) (w : World) : Value → AV → Prop
 | sc (v : Value) : Imm F w v (.sc v)
 | ag (vs : List Value) (cs : List AV) (hl : vs.length = cs.length) (h : ∀ i (h1 : i < vs.length) (h2 : i < cs.length), Imm F w vs[i] cs[i]) : Imm F w (.agg vs.toArray) (.ag cs)
 | tu (vs : List Value) (cs : List AV) (hl : vs.length = cs.length) (h : ∀ i (h1 : i < vs.length) (h2 : i < cs.length), Imm F w vs[i] cs[i]) : Imm F w (.tuple vs.toArray) (.tu cs)
 | nil (cap : Cp) (hc : cap = .unk ∨ cap = .zer ∨ cap = .full ∨ cap = .val 0) : Imm F w (.slice none 0 0) (.sl true [] cap)
 | sl (b off c esz : Nat) (es : List (List AV)) (cap : Cp) (vs : Nat → Nat → Value) (hc : es.length ≤ c)
  (hcap : cap = .unk ∨ (cap = .zer ∧ c = 0) ∨ (cap = .full ∧ c = es.length) ∨ cap = .val c)
  (hes : ∀ i (h : i < es.length), es[i].length = esz)
  (hF : ∀ i j, i < es.length → j < esz → F b (off + i * esz + j) ∧ w.cell? ⟨b, off + i * esz + j, none⟩ = some (vs i j) ∧ (vs i j).oneCell' = true)
  (hi : ∀ i j (h : i < es.length) (h' : j < es[i].length), Imm F w (vs i j) es[i][j]) : Imm F w (.slice (some ⟨b, off, none⟩) es.length c) (.sl false es cap)
 | sz (a : Addr) (cap : Cp) (hc : cap = .unk ∨ cap = .zer ∨ cap = .full ∨ cap = .val 0) : Imm F w (.slice (some a) 0 0) (.sl false [] cap)
 | ia (b off : Nat) (cs : List AV) (vs : Nat → Value)
  (hF : ∀ j, j < cs.length → F b (off + j) ∧ w.cell? ⟨b, off + j, none⟩ = some (vs j))
  (hi : ∀ j (h : j < cs.length), Imm F w (vs j) cs[j]) : Imm F w (.pointer (some ⟨b, off, none⟩)) (.ia cs)
 | ifc (t : TypeId) (v : Value) (x : AV) (h : Imm F w v x) : Imm F w (.iface t v) (.ifc t x)
 | fn (f : FuncId) (vs : List Value) (cs : List AV) (hl : vs.length = cs.length) (h : ∀ i (h1 : i < vs.length) (h2 : i < cs.length), Imm F w vs[i] cs[i]) : Imm F w (fnV f vs) (.fn f cs)
 | opt (b : Bool) (v : Value) (x : AV) (h : b = true → Imm F w v x) (h' : b = false → v = undef) : Imm F w v (.opt b x)
 | junk (v : Value) : Imm F w v .junk
def blkOf : Value → Option Nat
 | .pointer (some a) => some a.block
 | .slice (some a) _ c => if c = 0 then none else some a.block
 | .map (some r) => some r
 | _ => none
def isNilSlice : Value → Bool
 | .slice none _ _ => true
 | _ => false
abbrev Mem := List (Nat × RObj)
def BornOk (ents : Array MapEntry) (clock : Nat) : Prop := (∀ x ∈ ents.toList, x.born < clock) ∧ (ents.toList.map (·.born)).Nodup
theorem BornOk.empty (clock : Nat) : BornOk #[] clock := ⟨by simp, by simp⟩
theorem BornOk.push {ents : Array MapEntry} {clock : Nat} (h : BornOk ents clock) (k v : Value) : BornOk (ents.push { key := k, val := v, born := clock }) (clock + 1) := by
 refine ⟨fun x hx => ?_, ?_⟩
 ·rw [Array.toList_push] at hx
  rcases List.mem_append.1 hx with hx | hx
  ·have := h.1 x hx; omega
  ·rw [List.mem_singleton.1 hx]; exact Nat.lt_succ_self _
 ·rw [Array.toList_push, List.map_append, List.nodup_append]
  refine ⟨h.2, by simp, fun a ha b hb he => ?_⟩
  obtain ⟨x, hx, rfl⟩ := List.mem_map.1 ha
  have := h.1 x hx
  simp only [List.map_cons, List.map_nil, List.mem_singleton] at hb
  omega
theorem BornOk.modify_eq {ents : Array MapEntry} (j : Nat) (k v : Value) : (ents.modify j fun e => { e with key := k, val := v }).toList.map (·.born) = ents.toList.map (·.born) := by
 apply List.ext_getElem
 ·simp
 ·intro i h1 h2
  simp only [List.getElem_map, Array.getElem_toList, Array.getElem_modify]
  split <;> rfl
theorem BornOk.modify {ents : Array MapEntry} {clock : Nat} (h : BornOk ents clock) (j : Nat) (k v : Value) : BornOk (ents.modify j fun e => { e with key := k, val := v }) clock := by
 have hb := BornOk.modify_eq (ents := ents) j k v
 refine ⟨fun x hx => ?_, by rw [hb]; exact h.2⟩
 have hm : x.born ∈ (ents.modify j fun e => { e with key := k, val := v }).toList.map (·.born) := List.mem_map.2 ⟨x, hx, rfl⟩
 rw [hb] at hm
 obtain ⟨y, hy, he⟩ := List.mem_map.1 hm
 rw [← he]; exact h.1 y hy
inductive RV (G : Nat → Option Value) (F : Nat → Nat → Prop) (M : Mem) (w : World) : Value → AV → Prop
 | imm {v : Value} {x : AV} (h : Imm F w v x) : RV G F M w v x
 | ag (vs : List Value) (cs : List AV) (hl : vs.length = cs.length) (h : ∀ i (h1 : i < vs.length) (h2 : i < cs.length), RV G F M w vs[i] cs[i]) : RV G F M w (.agg vs.toArray) (.ag cs)
 | tu (vs : List Value) (cs : List AV) (hl : vs.length = cs.length) (h : ∀ i (h1 : i < vs.length) (h2 : i < cs.length), RV G F M w vs[i] cs[i]) : RV G F M w (.tuple vs.toArray) (.tu cs)
 | ifc (t : TypeId) (v : Value) (x : AV) (h : RV G F M w v x) : RV G F M w (.iface t v) (.ifc t x)
 | fn (f : FuncId) (vs : List Value) (cs : List AV) (hl : vs.length = cs.length) (h : ∀ i (h1 : i < vs.length) (h2 : i < cs.length), RV G F M w vs[i] cs[i]) : RV G F M w (fnV f vs) (.fn f cs)
 | opt (b : Bool) (v : Value) (x : AV) (h : b = true → RV G F M w v x) (h' : b = false → v = undef) : RV G F M w v (.opt b x)
 | rf (id off b : Nat) (h : G id = some (.pointer (some ⟨b, 0, none⟩))) : RV G F M w (.pointer (some ⟨b, off, none⟩)) (.rf id off)
 | tl (id len : Nat) (nl : Bool) (v : Value) (hG : G id ≠ none)
  (h : ∀ esz es fz, mlook M id = some (.arr esz es fz) → len ≤ es.length ∧ (len = es.length → G id = some v ∧ nl = isNilSlice v)) : RV G F M w v (.tl id len nl)
 | tv (id n off len : Nat) (cap : Cp) (v : Value) (hG : G id ≠ none)
  (h : ∀ esz es fz, mlook M id = some (.arr esz es fz) → n ≤ es.length ∧ (n = es.length → off + len ≤ n ∧ ∃ b ko c, G id = some (.slice (some ⟨b, ko, none⟩) n c) ∧ (c ≠ 0 ∨ (n = 0 ∧ cap = .val 0 ∧ v = .slice (some ⟨b, ko, none⟩) 0 0)) ∧ ∃ c', v = .slice (some ⟨b, ko + off * esz, none⟩) len c' ∧ len ≤ c' ∧ (cap = .unk ∨ cap = .val c' ∨ (cap = .rest ∧ off + c' = c)))) : RV G F M w v (.tv id n off len cap)
 | ea (id n i off : Nat) (v : Value) (hG : G id ≠ none)
  (h : ∀ esz es fz, mlook M id = some (.arr esz es fz) → n ≤ es.length ∧ (n = es.length → i < n ∧ ∃ b ko c, G id = some (.slice (some ⟨b, ko, none⟩) n c) ∧ c ≠ 0 ∧ v = .pointer (some ⟨b, ko + (i * esz + off), none⟩))) : RV G F M w v (.ea id n i off)
 | mp (id b : Nat) (h : G id = some (.map (some b))) : RV G F M w (.map (some b)) (.mp id)
def ObjOk (P : Program) (G : Nat → Option Value) (F : Nat → Nat → Prop) (M : Mem) (w : World) (id : Nat) : RObj → Prop
 | .cells cs => ∃ (b : Nat) (c : Array Value) (elem : TypeId), G id = some (.pointer (some ⟨b, 0, none⟩)) ∧ w.heap[b]? = some (.cells c elem (0, 0)) ∧ c.size = cs.length ∧
  (∀ i (h1 : i < c.size) (h2 : i < cs.length), RV G F M w c[i] cs[i]) ∧ ∀ o, ¬ F b o
 | .arr esz es fz => (es = [] ∧ ∃ base, G id = some (.slice base 0 0) ∧ ∀ a, base = some a → a = a) ∨
  ∃ (b ko c : Nat) (cc : Array Value) (elem : TypeId), G id = some (.slice (some ⟨b, ko, none⟩) es.length c) ∧ c ≠ 0 ∧ w.heap[b]? = some (.cells cc elem (0, 0)) ∧ es.length ≤ c ∧ cc.size = ko + c * esz ∧
    (∀ i (h : i < es.length), es[i].length = esz) ∧
    (∀ i j (h : i < es.length) (h' : j < es[i].length), ∃ v, cc[ko + (i * esz + j)]? = some v ∧ v.oneCell' = true ∧ RV G F M w v es[i][j]) ∧
    (∀ o, F b o → fz = true ∧ ko ≤ o ∧ o < ko + es.length * esz) ∧
    (fz = true → (∀ i j (h : i < es.length) (h' : j < es[i].length), es[i][j].noref = true) ∧ ∀ o, o < es.length * esz → F b (ko + o))
 | .map kt es => ∃ (b : Nat) (ents : Array MapEntry) (clock : Nat), G id = some (.map (some b)) ∧ w.heap[b]? = some (.map ents clock) ∧ (ents.size = es.length ∧ BornOk ents clock) ∧
  (∀ i (h1 : i < ents.size) (h2 : i < es.length), ents[i].key = es[i].1 ∧ RV G F M w ents[i].val es[i].2 ∧ isKey P kt es[i].1 = true) ∧ ∀ o, ¬ F b o
theorem ObjOk.arr0 {P : Program} {G : Nat → Option Value} {F : Nat → Nat → Prop} {M : Mem} {w : World} {id esz : Nat} {es : List (List AV)} {fz : Bool}
  (h : ∃ (b c : Nat) (cc : Array Value) (elem : TypeId), G id = some (.slice (some ⟨b, 0, none⟩) es.length c) ∧ c ≠ 0 ∧ w.heap[b]? = some (.cells cc elem (0, 0)) ∧ es.length ≤ c ∧ cc.size = c * esz ∧
   (∀ i (h : i < es.length), es[i].length = esz) ∧
   (∀ i j (h : i < es.length) (h' : j < es[i].length), ∃ v, cc[i * esz + j]? = some v ∧ v.oneCell' = true ∧ RV G F M w v es[i][j]) ∧
   (∀ o, F b o → fz = true ∧ o < es.length * esz) ∧
   (fz = true → (∀ i j (h : i < es.length) (h' : j < es[i].length), es[i][j].noref = true) ∧ ∀ o, o < es.length * esz → F b o)) : ObjOk P G F M w id (.arr esz es fz) :=
 let ⟨b, c, cc, e, h1, h2, h3, h4, h5, h6, h7, h8, h9⟩ := h
 .inr ⟨b, 0, c, cc, e, h1, h2, h3, h4, by rw [Nat.zero_add]; exact h5, h6, fun i j a b => by rw [Nat.zero_add]; exact h7 i j a b, fun o ho => ⟨(h8 o ho).1, Nat.zero_le _, by rw [Nat.zero_add]; exact (h8 o ho).2⟩, fun hz => ⟨(h9 hz).1, fun o ho => by rw [Nat.zero_add]; exact (h9 hz).2 o ho⟩⟩
def Globs (F : Nat → Nat → Prop) (w : World) : Prop := ∀ g vs, laidAt g = some vs → ∀ j (h : j < vs.length), F g j ∧ w.cell? ⟨g, j, none⟩ = some vs[j]
theorem Globs.mono {F F' : Nat → Nat → Prop} {w w' : World} (h : Globs F w) (h1 : ∀ b o, F b o → F' b o) (h2 : ∀ b o, F b o → w'.cell? ⟨b, o, none⟩ = w.cell? ⟨b, o, none⟩) : Globs F' w' :=
 fun g vs hg j hj => ⟨h1 _ _ (h g vs hg j hj).1, (h2 _ _ (h g vs hg j hj).1).trans (h g vs hg j hj).2⟩
theorem Globs.imm {F : Nat → Nat → Prop} {w : World} (h : Globs F w) {g : Nat} {vs : List Value} (hg : laidAt g = some vs) : Imm F w (.pointer (some ⟨g, 0, none⟩)) (.ia (vs.map AV.sc)) :=
 .ia g 0 (vs.map AV.sc) (fun j => vs.getD j undef) (fun j hj => by
  have hj' : j < vs.length := by simpa using hj
  have := h g vs hg j hj'
  rw [Nat.zero_add, List.getD_eq_getElem?_getD, List.getElem?_eq_getElem hj']
  exact this) (fun j hj => by
  have hj' : j < vs.length := by simpa using hj
  rw [List.getElem_map]
  rw [List.getD_eq_getElem?_getD, List.getElem?_eq_getElem hj']
  exact .sc _)
def FOk (F : Nat → Nat → Prop) (w : World) : Prop := (∀ b o, F b o → b < w.heap.size) ∧ Globs F w
structure SimM (P : Program) (G : Nat → Option Value) (F : Nat → Nat → Prop) (M : Mem) (nx : Nat) (w : World) : Prop where
 obj : ∀ id o, mlook M id = some o → id < nx ∧ ObjOk P G F M w id o
 inj : ∀ id id' v v' b, mlook M id ≠ none → mlook M id' ≠ none → G id = some v → G id' = some v' → blkOf v = some b → blkOf v' = some b → id = id'
 inF : ∀ b o, F b o → b < w.heap.size
 gl : Globs F w
theorem SimM.fok {P : Program} {G : Nat → Option Value} {F : Nat → Nat → Prop} {M : Mem} {nx : Nat} {w : World} (h : SimM P G F M nx w) : FOk F w := ⟨h.inF, h.gl⟩
def Owned (G : Nat → Option Value) (M : Mem) (b : Nat) : Prop := ∃ id o v, mlook M id = some o ∧ G id = some v ∧ blkOf v = some b
def bornsOf (es : Array MapEntry) : List Nat := es.toList.map (·.born)
def MapsUp (w w' : World) : Prop := ∀ (b : Nat) (es : Array MapEntry) (c : Nat), w.heap[b]? = some (.map es c) → ∃ (es' : Array MapEntry) (c' : Nat), w'.heap[b]? = some (.map es' c') ∧ bornsOf es <+: bornsOf es'
theorem MapsUp.refl {w : World} : MapsUp w w := fun _ es c h => ⟨es, c, h, List.prefix_refl _⟩
theorem MapsUp.trans {w w' w'' : World} (h : MapsUp w w') (k : MapsUp w' w'') : MapsUp w w'' := fun b es c hb =>
 let ⟨es1, c1, h1, h2⟩ := h b es c hb
 let ⟨es2, c2, h3, h4⟩ := k b es1 c1 h1
 ⟨es2, c2, h3, h2.trans h4⟩
structure Kept (w w' : World) : Prop where
 os : w'.os = w.os
 tape : w'.tape = w.tape
 output : w'.output = w.output
 maps : MapsUp w w'
theorem Kept.refl {w : World} : Kept w w := ⟨rfl, rfl, rfl, .refl⟩
theorem Kept.trans {w w' w'' : World} (h : Kept w w') (k : Kept w' w'') : Kept w w'' := ⟨k.os.trans h.os, k.tape.trans h.tape, k.output.trans h.output, h.maps.trans k.maps⟩
def unfroz : Obj → Bool
 | .cells _ _ (_, hi) => hi == 0
 | _ => true
theorem frozen_un {w : World} {a : Addr} {o : Obj} (h : w.heap[a.block]? = some o) (hu : unfroz o = true) : w.frozen? a = false := by
 unfold World.frozen?
 rw [h]
 unfold unfroz at hu
 split <;> simp_all
theorem Kept.push {w : World} {o : Obj} (h : unfroz o = true) : Kept w { w with heap := w.heap.push o } :=
 ⟨rfl, rfl, rfl, fun b es c hb => ⟨es, c, by
  have := (Array.getElem?_eq_some_iff.1 hb).1
  show (w.heap.push o)[b]? = _
  rw [Array.getElem?_push_lt this, ← Array.getElem?_eq_getElem this, hb], List.prefix_refl _⟩⟩
theorem Kept.set {w : World} {r : Nat} {o o1 : Obj} (h : w.heap[r]? = some o1) (h1 : unfroz o1 = true) (hu : unfroz o = true)
  (hm : ∀ es c, o1 = .map es c → ∃ es' c', o = .map es' c' ∧ bornsOf es <+: bornsOf es' := by intro es c h; cases h) : Kept w { w with heap := w.heap.setIfInBounds r o } :=
 ⟨rfl, rfl, rfl, fun b es c hb => by
  by_cases e : r = b
  ·subst e
   rw [h] at hb; cases hb
   obtain ⟨es', c', rfl, h2⟩ := hm es c rfl
   exact ⟨es', c', by simp only; rw [Array.getElem?_setIfInBounds_self_of_lt (Array.getElem?_eq_some_iff.1 h).1], h2⟩
  ·exact ⟨es, c, by simp only; rw [Array.getElem?_setIfInBounds_ne e, hb], List.prefix_refl _⟩⟩
def objKeep (v v' : Value) : RObj → RObj → Prop
 | .arr esz es _, .arr esz' es' _ => esz' = esz ∧ ((es'.length = es.length ∧ v' = v) ∨ es.length < es'.length)
 | .cells _, .cells _ => v' = v
 | .map kt _, .map kt' _ => kt' = kt ∧ v' = v
 | _, _ => False
structure Step (B : Nat → Prop) (G : Nat → Option Value) (F : Nat → Nat → Prop) (M : Mem) (w : World) (G' : Nat → Option Value) (F' : Nat → Nat → Prop) (M' : Mem) (w' : World) : Prop where
 size : w.heap.size ≤ w'.heap.size
 out : ∀ b, b < w.heap.size → ¬ Owned G M b → w'.heap[b]? = w.heap[b]?
 F1 : ∀ b o, F b o → F' b o
 F2 : ∀ b o, F b o → w'.cell? ⟨b, o, none⟩ = w.cell? ⟨b, o, none⟩
 F3 : ∀ b o, F' b o → F b o ∨ w.heap.size ≤ b ∨ Owned G M b
 own : ∀ b, Owned G' M' b → w.heap.size ≤ b ∨ Owned G M b
 some' : ∀ id, B id → G id ≠ none → G' id ≠ none
 same : ∀ id v, B id → G id = some v → (∀ a n c, v ≠ .slice a n c) → G' id = some v
 keep : ∀ id o', B id → G id ≠ none → mlook M' id = some o' → ∃ o v v', mlook M id = some o ∧ G id = some v ∧ G' id = some v' ∧ objKeep v v' o o'
 kept : Kept w w'
structure Sim (P : Program) (fr : Fr) (G : Nat → Option Value) (F : Nat → Nat → Prop) (st : St) (a : Act) (w : World) : Prop where
 mem : SimM P G F st.mem st.nx w
 slots : ∀ k, RV G F st.mem w (a.tmps.getD k undef) (st.get fr k)
 size : a.tmps.size = fr.sz
section inv
variable {G : Nat → Option Value} {F : Nat → Nat → Prop} {M : Mem} {w : World} {v : Value}
theorem RV.inv_sc {u : Value} (h : RV G F M w v (.sc u)) : v = u := by
 cases h with
 | imm h => cases h; rfl
theorem RV.inv_ag {cs : List AV} (h : RV G F M w v (.ag cs)) : ∃ vs : List Value, v = .agg vs.toArray ∧ vs.length = cs.length ∧ ∀ i (h1 : i < vs.length) (h2 : i < cs.length), RV G F M w vs[i] cs[i] := by
 cases h with
 | imm h => cases h with
   | ag vs _ hl h => exact ⟨vs, rfl, hl, fun i h1 h2 => .imm (h i h1 h2)⟩
 | ag vs _ hl h => exact ⟨vs, rfl, hl, h⟩
theorem RV.inv_tu {cs : List AV} (h : RV G F M w v (.tu cs)) : ∃ vs : List Value, v = .tuple vs.toArray ∧ vs.length = cs.length ∧ ∀ i (h1 : i < vs.length) (h2 : i < cs.length), RV G F M w vs[i] cs[i] := by
 cases h with
 | imm h => cases h with
   | tu vs _ hl h => exact ⟨vs, rfl, hl, fun i h1 h2 => .imm (h i h1 h2)⟩
 | tu vs _ hl h => exact ⟨vs, rfl, hl, h⟩
theorem RV.inv_fn {f : FuncId} {cs : List AV} (h : RV G F M w v (.fn f cs)) : ∃ vs : List Value, v = fnV f vs ∧ vs.length = cs.length ∧ ∀ i (h1 : i < vs.length) (h2 : i < cs.length), RV G F M w vs[i] cs[i] := by
 cases h with
 | imm h => cases h with
   | fn _ vs _ hl h => exact ⟨vs, rfl, hl, fun i h1 h2 => .imm (h i h1 h2)⟩
 | fn _ vs _ hl h => exact ⟨vs, rfl, hl, h⟩
theorem RV.inv_fn0 {f : FuncId} {cs : List AV} (h : RV G F M w v (.fn f cs)) (hlt : f < 1000000) : ∃ vs : List Value, v = .func (.func f) #[] vs.toArray ∧ vs.length = cs.length ∧ ∀ i (h1 : i < vs.length) (h2 : i < cs.length), RV G F M w vs[i] cs[i] := by
 obtain ⟨vs, h1, h2, h3⟩ := h.inv_fn
 exact ⟨vs, by rw [h1, fnV_lt hlt], h2, h3⟩
theorem RV.inv_ifc {t : TypeId} {x : AV} (h : RV G F M w v (.ifc t x)) : ∃ u, v = .iface t u ∧ RV G F M w u x := by
 cases h with
 | imm h => cases h with
   | ifc _ u _ h => exact ⟨u, rfl, .imm h⟩
 | ifc _ u _ h => exact ⟨u, rfl, h⟩
theorem RV.inv_sl {nl : Bool} {es : List (List AV)} {cap : Cp} (h : RV G F M w v (.sl nl es cap)) : Imm F w v (.sl nl es cap) := by
 cases h with
 | imm h => exact h
theorem RV.inv_ia {cs : List AV} (h : RV G F M w v (.ia cs)) : Imm F w v (.ia cs) := by
 cases h with
 | imm h => exact h
theorem RV.inv_opt {x : AV} (h : RV G F M w v (.opt true x)) : RV G F M w v x := by
 cases h with
 | imm h => cases h with
   | opt _ _ _ h => exact .imm (h rfl)
 | opt _ _ _ h => exact h rfl
theorem RV.inv_optf {x : AV} (h : RV G F M w v (.opt false x)) : v = undef := by
 cases h with
 | imm h => cases h with
   | opt _ _ _ _ h => exact h rfl
 | opt _ _ _ _ h => exact h rfl
theorem RV.inv_opt' {b : Bool} {x : AV} (h : RV G F M w v (.opt b x)) (hb : b = true) : RV G F M w v x := by
 subst hb; exact h.inv_opt
theorem RV.inv_rf {id off : Nat} (h : RV G F M w v (.rf id off)) : ∃ b, G id = some (.pointer (some ⟨b, 0, none⟩)) ∧ v = .pointer (some ⟨b, off, none⟩) := by
 cases h with
 | imm h => cases h
 | rf _ _ b h => exact ⟨b, h, rfl⟩
theorem RV.inv_mp {id : Nat} (h : RV G F M w v (.mp id)) : ∃ b, G id = some (.map (some b)) ∧ v = .map (some b) := by
 cases h with
 | imm h => cases h
 | mp _ b h => exact ⟨b, h, rfl⟩
theorem RV.inv_tl {id len : Nat} {nl : Bool} (h : RV G F M w v (.tl id len nl)) : G id ≠ none ∧ ∀ esz es fz, mlook M id = some (.arr esz es fz) → len ≤ es.length ∧ (len = es.length → G id = some v ∧ nl = isNilSlice v) := by
 cases h with
 | imm h => cases h
 | tl _ _ _ _ hG h => exact ⟨hG, h⟩
theorem RV.inv_tv {id n off len : Nat} {cap : Cp} (h : RV G F M w v (.tv id n off len cap)) : G id ≠ none ∧ ∀ esz es fz, mlook M id = some (.arr esz es fz) → n ≤ es.length ∧ (n = es.length → off + len ≤ n ∧ ∃ b ko c, G id = some (.slice (some ⟨b, ko, none⟩) n c) ∧ (c ≠ 0 ∨ (n = 0 ∧ cap = .val 0 ∧ v = .slice (some ⟨b, ko, none⟩) 0 0)) ∧ ∃ c', v = .slice (some ⟨b, ko + off * esz, none⟩) len c' ∧ len ≤ c' ∧ (cap = .unk ∨ cap = .val c' ∨ (cap = .rest ∧ off + c' = c))) := by
 cases h with
 | imm h => cases h
 | tv _ _ _ _ _ _ hG h => exact ⟨hG, h⟩
theorem RV.inv_ea {id n i off : Nat} (h : RV G F M w v (.ea id n i off)) : G id ≠ none ∧ ∀ esz es fz, mlook M id = some (.arr esz es fz) → n ≤ es.length ∧ (n = es.length → i < n ∧ ∃ b ko c, G id = some (.slice (some ⟨b, ko, none⟩) n c) ∧ c ≠ 0 ∧ v = .pointer (some ⟨b, ko + (i * esz + off), none⟩)) := by
 cases h with
 | imm h => cases h
 | ea _ _ _ _ _ hG h => exact ⟨hG, h⟩
end inv
theorem Imm.mono {F F' : Nat → Nat → Prop} {w w' : World} {v : Value} {x : AV} (h : Imm F w v x) (h1 : ∀ b o, F b o → F' b o) (h2 : ∀ b o, F b o → w'.cell? ⟨b, o, none⟩ = w.cell? ⟨b, o, none⟩) : Imm F' w' v x := by
 induction h with
 | sc v => exact .sc v
 | ag vs cs hl _ ih => exact .ag vs cs hl ih
 | tu vs cs hl _ ih => exact .tu vs cs hl ih
 | nil cap hc => exact .nil cap hc
 | sl b off c esz es cap vs hc hcap hes hF _ ih => exact .sl b off c esz es cap vs hc hcap hes (fun i j hi hj => ⟨h1 _ _ (hF i j hi hj).1, (h2 _ _ (hF i j hi hj).1).trans (hF i j hi hj).2.1, (hF i j hi hj).2.2⟩) ih
 | sz a cap hc => exact .sz a cap hc
 | ia b off cs vs hF _ ih => exact .ia b off cs vs (fun j hj => ⟨h1 _ _ (hF j hj).1, (h2 _ _ (hF j hj).1).trans (hF j hj).2⟩) ih
 | ifc t v x _ ih => exact .ifc t v x ih
 | fn f vs cs hl _ ih => exact .fn f vs cs hl ih
 | opt b v x _ h' ih => exact .opt b v x ih h'
 | junk v => exact .junk v
section step
variable {B : Nat → Prop} {G G' G'' : Nat → Option Value} {F F' F'' : Nat → Nat → Prop} {M M' M'' : Mem} {w w' w'' : World} {v : Value} {x : AV}
theorem RV.step (h : RV G F M w v x) (S : Step B G F M w G' F' M' w') (hB : ∀ id, G id ≠ none → B id) : RV G' F' M' w' v x := by
 induction h with
 | imm h => exact .imm (h.mono S.F1 S.F2)
 | ag vs cs hl _ ih => exact .ag vs cs hl ih
 | tu vs cs hl _ ih => exact .tu vs cs hl ih
 | ifc t v x _ ih => exact .ifc t v x ih
 | fn f vs cs hl _ ih => exact .fn f vs cs hl ih
 | opt b v x _ h' ih => exact .opt b v x ih h'
 | rf id off b h => exact .rf id off b (S.same id _ (hB id (by simp [h])) h (by simp))
 | mp id b h => exact .mp id b (S.same id _ (hB id (by simp [h])) h (by simp))
 | tl id len nl v hG h =>
   refine .tl id len nl v (S.some' id (hB id hG) hG) fun esz es fz hm => ?_
   obtain ⟨o, u, u', ho, hu, hu', hk⟩ := S.keep id _ (hB id hG) hG hm
   cases o with
   | arr esz0 es0 fz0 =>
     obtain ⟨rfl, hk⟩ := hk
     obtain ⟨h1, h2⟩ := h _ _ _ ho
     rcases hk with ⟨hlen, rfl⟩ | hlt
     ·exact ⟨by omega, fun e => by
       obtain ⟨h3, h4⟩ := h2 (by omega)
       rw [hu] at h3
       exact ⟨hu'.trans h3, h4⟩⟩
     ·exact ⟨by omega, fun e => by omega⟩
   | cells => exact hk.elim
   | map => exact hk.elim
 | tv id n off len cap v hG h =>
   refine .tv id n off len cap v (S.some' id (hB id hG) hG) fun esz es fz hm => ?_
   obtain ⟨o, u, u', ho, hu, hu', hk⟩ := S.keep id _ (hB id hG) hG hm
   cases o with
   | arr esz0 es0 fz0 =>
     obtain ⟨rfl, hk⟩ := hk
     obtain ⟨h1, h2⟩ := h _ _ _ ho
     rcases hk with ⟨hlen, rfl⟩ | hlt
     ·refine ⟨by omega, fun e => ?_⟩
      obtain ⟨h3, b, ko, c, h4, h5⟩ := h2 (by omega)
      rw [hu] at h4
      exact ⟨h3, b, ko, c, hu'.trans h4, h5⟩
     ·exact ⟨by omega, fun e => by omega⟩
   | cells => exact hk.elim
   | map => exact hk.elim
 | ea id n i off v hG h =>
   refine .ea id n i off v (S.some' id (hB id hG) hG) fun esz es fz hm => ?_
   obtain ⟨o, u, u', ho, hu, hu', hk⟩ := S.keep id _ (hB id hG) hG hm
   cases o with
   | arr esz0 es0 fz0 =>
     obtain ⟨rfl, hk⟩ := hk
     obtain ⟨h1, h2⟩ := h _ _ _ ho
     rcases hk with ⟨hlen, rfl⟩ | hlt
     ·refine ⟨by omega, fun e => ?_⟩
      obtain ⟨h3, b, ko, c, h4, h5⟩ := h2 (by omega)
      rw [hu] at h4
      exact ⟨h3, b, ko, c, hu'.trans h4, h5⟩
     ·exact ⟨by omega, fun e => by omega⟩
   | cells => exact hk.elim
   | map => exact hk.elim
theorem objKeep.refl (v : Value) (o : RObj) : objKeep v v o o := by cases o <;> simp [objKeep]
theorem objKeep.trans {a b c : Value} {o p q : RObj} (h : objKeep a b o p) (k : objKeep b c p q) : objKeep a c o q := by
 cases o <;> cases p <;> simp only [objKeep] at h <;> cases q <;> simp only [objKeep] at k ⊢
 ·exact k.trans h
 ·obtain ⟨rfl, h⟩ := h
  obtain ⟨rfl, k⟩ := k
  refine ⟨rfl, ?_⟩
  rcases h with ⟨h1, rfl⟩ | h1 <;> rcases k with ⟨k1, rfl⟩ | k1
  ·exact .inl ⟨by omega, rfl⟩
  ·exact .inr (by omega)
  ·exact .inr (by omega)
  ·exact .inr (by omega)
 ·obtain ⟨rfl, rfl⟩ := h
  obtain ⟨rfl, rfl⟩ := k
  exact ⟨rfl, rfl⟩
theorem Step.refl : Step B G F M w G F M w :=
 { kept := .refl, size := Nat.le_refl _, out := fun _ _ _ => rfl, F1 := fun _ _ h => h, F2 := fun _ _ _ => rfl, F3 := fun _ _ h => .inl h, own := fun _ h => .inr h,
   some' := fun _ _ h => h, same := fun _ _ _ h _ => h,
   keep := fun id o' _ hG ho => by
    cases hv : G id with
    | none => exact absurd hv hG
    | some v => exact ⟨o', v, v, ho, rfl, rfl, objKeep.refl v o'⟩ }
theorem Step.trans (S : Step B G F M w G' F' M' w') (T : Step B G' F' M' w' G'' F'' M'' w'') : Step B G F M w G'' F'' M'' w'' :=
 { kept := S.kept.trans T.kept
   size := Nat.le_trans S.size T.size
   out := fun b hb ho => (T.out b (Nat.lt_of_lt_of_le hb S.size) (fun h => (S.own b h).elim (fun h => absurd hb (by omega)) ho)).trans (S.out b hb ho)
   F1 := fun b o h => T.F1 b o (S.F1 b o h)
   F2 := fun b o h => (T.F2 b o (S.F1 b o h)).trans (S.F2 b o h)
   F3 := fun b o h => by
    rcases T.F3 b o h with h | h | h
    ·exact S.F3 b o h
    ·exact .inr (.inl (Nat.le_trans S.size h))
    ·rcases S.own b h with h | h
     ·exact .inr (.inl h)
     ·exact .inr (.inr h)
   own := fun b h => by
    rcases T.own b h with h | h
    ·exact .inl (Nat.le_trans S.size h)
    ·exact S.own b h
   some' := fun id hB hG => T.some' id hB (S.some' id hB hG)
   same := fun id v hB hG hv => T.same id v hB (S.same id v hB hG hv) hv
   keep := fun id o'' hB hG ho => by
    obtain ⟨o', u', u'', ho', hu', hu'', hk'⟩ := T.keep id o'' hB (S.some' id hB hG) ho
    obtain ⟨o, v, v', hoo, hv, hv', hk⟩ := S.keep id o' hB hG ho'
    rw [hu'] at hv'; cases hv'
    exact ⟨o, v, u'', hoo, hv, hu'', hk.trans hk'⟩ }
theorem Step.mono {C : Nat → Prop} (S : Step B G F M w G' F' M' w') (h : ∀ id, C id → B id) : Step C G F M w G' F' M' w' :=
 { S with some' := fun id hC => S.some' id (h id hC), same := fun id v hC => S.same id v (h id hC), keep := fun id o' hC => S.keep id o' (h id hC) }
end step
theorem alook_aset (l : List (Nat × AV)) (i k : Nat) (v : AV) : alook (aset l i v) k = if k = i then v else alook l k := by
 induction l with
 | nil => simp [aset, alook]
 | cons p l ih =>
   obtain ⟨j, u⟩ := p
   simp only [aset]
   by_cases h : i = j
   ·subst h
    by_cases hk : k = i <;> simp [alook, hk]
   ·simp only [h, if_false, alook]
    by_cases hk : k = j
    ·subst hk
     simp [show ¬ k = i from fun e => h e.symm]
    ·simp [hk, ih]
theorem mlook_mset (l : Mem) (i k : Nat) (v : RObj) : mlook (mset l i v) k = if k = i then some v else mlook l k := by
 induction l with
 | nil => simp [mset, mlook]
 | cons p l ih =>
   obtain ⟨j, u⟩ := p
   simp only [mset]
   by_cases h : i = j
   ·subst h
    by_cases hk : k = i <;> simp [mlook, hk]
   ·simp only [h, if_false, mlook]
    by_cases hk : k = j
    ·subst hk
     simp [show ¬ k = i from fun e => h e.symm]
    ·simp [hk, ih]
theorem mlook_mdel (l : Mem) (i k : Nat) : mlook (mdel l i) k = if k = i then none else mlook l k := by
 induction l with
 | nil => simp [mdel, mlook]
 | cons p l ih =>
   obtain ⟨j, u⟩ := p
   simp only [mdel]
   by_cases h : i = j
   ·subst h
    by_cases hk : k = i
    ·subst hk; simpa using ih
    ·simp [mlook, hk, ih]
   ·simp only [h, if_false, mlook]
    by_cases hk : k = j
    ·subst hk
     simp [show ¬ k = i from fun e => h e.symm]
    ·simp [hk, ih]
theorem mlook_cons (l : Mem) (i k : Nat) (v : RObj) : mlook ((i, v) :: l) k = if k = i then some v else mlook l k := rfl
theorem St.get_put (fr : Fr) (st : St) (d k : Nat) (v : AV) : (st.put fr (some d) v).get fr k = if k = d then v else st.get fr k := by
 unfold St.put St.get
 by_cases hd : fr.isG d = true
 ·simp only [hd, if_true, alook_aset]
  by_cases hk : k = d
  ·subst hk; simp [hd]
  ·simp [hk]
 ·simp only [hd, if_false, Bool.false_eq_true, alook]
  by_cases hk : k = d
  ·subst hk; simp [hd]
  ·simp [hk]
theorem St.put_mem (fr : Fr) (st : St) (d : Option Nat) (v : AV) : (st.put fr d v).mem = st.mem := by
 unfold St.put; split <;> (try split) <;> rfl
theorem St.put_nx (fr : Fr) (st : St) (d : Option Nat) (v : AV) : (st.put fr d v).nx = st.nx := by
 unfold St.put; split <;> (try split) <;> rfl
section run
variable {P : Program} {w : World}
theorem tinfo_inv {t : TypeId} {ti : TI} (h : tinfo P t = some ti) : ∃ i d z, P.info? t = some i ∧ P.underlying t = some d ∧ i.zero = some z ∧ ti = ⟨i.size, descAgg d, z.cells.toList, i.bytes⟩ ∧ (z.cells.toList.all Value.oneCell') = true ∧ isAggV z = descAgg d := by
 unfold tinfo at h
 split at h
 ·rename_i i d hi hd
  split at h
  ·rename_i z hz
   split at h
   ·rename_i h1
    cases h
    exact ⟨i, d, z, hi, hd, hz, rfl, h1⟩
   ·cases h
  ·cases h
 ·cases h
theorem run_under {t : TypeId} {d : TypeDesc} (h : P.underlying t = some d) : (underlying t).run P w = .ok d w := by
 simp [underlying, h]
theorem run_tinfo {t : TypeId} {i : TypeInfo} (h : P.info? t = some i) : (typeInfo t).run P w = .ok i w := by
 simp [typeInfo, h]
theorem run_sizeOf' {t : TypeId} {ti : TI} (h : tinfo P t = some ti) : (sizeOf t).run P w = .ok ti.size w := by
 obtain ⟨i, d, z, hi, hd, hz, rfl, _⟩ := tinfo_inv h
 simp [sizeOf, run_tinfo hi]
theorem run_isAgg' {t : TypeId} {ti : TI} (h : tinfo P t = some ti) : (isAgg t).run P w = .ok ti.agg w := by
 obtain ⟨i, d, z, hi, hd, hz, rfl, _⟩ := tinfo_inv h
 unfold isAgg
 rw [Sem.run_bind, run_under hd, Result.andThen_ok]
 cases d <;> simp [descAgg]
theorem run_zero' {t : TypeId} {ti : TI} (h : tinfo P t = some ti) : ∃ z, (zeroValue t).run P w = .ok z w ∧ z.cells.toList = ti.zero := by
 obtain ⟨i, d, z, hi, hd, hz, rfl, _⟩ := tinfo_inv h
 exact ⟨z, by simp [zeroValue, run_tinfo hi, hz], rfl⟩
theorem add_eq (b off i : Nat) : (Addr.mk b off none).add i = ⟨b, off + i, none⟩ := by
 unfold Addr.add; split
 ·rename_i h; subst h; rfl
 ·rfl
theorem run_loadCellsFrom (b off : Nat) : ∀ (vs : List Value) (i : Nat) (acc : Array Value), (∀ j (h : j < vs.length), w.cell? ⟨b, off + (i + j), none⟩ = some vs[j]) →
  (loadCellsFrom ⟨b, off, none⟩ i vs.length acc).run P w = .ok (acc ++ vs.toArray) w
 | [], i, acc, _ => by simp [loadCellsFrom]
 | v :: vs, i, acc, h => by
   have h0 : w.cell? ⟨b, off + i, none⟩ = some v := h 0 (by simp)
   simp only [List.length_cons, loadCellsFrom, Sem.run_bind, run_load, add_eq, h0, Result.andThen_ok]
   rw [run_loadCellsFrom b off vs (i + 1) _ (fun j hj => by
    have := h (j + 1) (by simpa using hj)
    simpa [Nat.add_assoc, Nat.add_comm 1 j] using this)]
   simp
theorem run_loadCells' (b off : Nat) (vs : List Value) (h : ∀ j (hj : j < vs.length), w.cell? ⟨b, off + j, none⟩ = some vs[j]) :
  (loadCells ⟨b, off, none⟩ vs.length).run P w = .ok vs.toArray w := by
 unfold loadCells
 rw [run_loadCellsFrom b off vs 0 #[] (fun j hj => by simpa using h j hj)]
 simp
theorem run_loadAt' {t : TypeId} {ti : TI} (ht : tinfo P t = some ti) (b off : Nat) (vs : List Value) (hl : vs.length = ti.size) (h : ∀ j (hj : j < vs.length), w.cell? ⟨b, off + j, none⟩ = some vs[j]) :
  (ti.agg = true → (Instr.loadAt t (.pointer (some ⟨b, off, none⟩))).run P w = .ok (.agg vs.toArray) w) ∧
  (ti.agg = false → ∀ v, vs = [v] → (Instr.loadAt t (.pointer (some ⟨b, off, none⟩))).run P w = .ok v w) := by
 constructor
 ·intro ha
  simp only [Instr.loadAt, Instr.sureAddr, loadVar, Sem.run_bind, Sem.run_pure, Result.andThen_ok, run_isAgg' ht, ha, Sem.run_ite, if_true, run_sizeOf' ht]
  rw [← hl, run_loadCells' b off vs h]
  rfl
 ·rintro ha v rfl
  have h0 : w.cell? ⟨b, off, none⟩ = some v := h 0 (by simp)
  simp [Instr.loadAt, Instr.sureAddr, loadVar, run_isAgg' ht, ha, h0]
def setCells (w : World) (b off : Nat) : List Value → World
 | [] => w
 | v :: vs => setCells (w.setCell ⟨b, off, none⟩ v) b (off + 1) vs
theorem cell?_block {w : World} {b off : Nat} {c : Array Value} {e : TypeId} {f : Nat × Nat} (h : w.heap[b]? = some (.cells c e f)) : w.cell? ⟨b, off, none⟩ = c[off]? := by
 simp [World.cell?, h]
theorem frozen?_block {w : World} {b off : Nat} {c : Array Value} {e : TypeId} (h : w.heap[b]? = some (.cells c e (0, 0))) : w.frozen? ⟨b, off, none⟩ = false := by
 simp [World.frozen?, h]
theorem setCell_block {w : World} {b off : Nat} {c : Array Value} {e : TypeId} {f : Nat × Nat} (v : Value) (h : w.heap[b]? = some (.cells c e f)) :
  (w.setCell ⟨b, off, none⟩ v).heap[b]? = some (.cells (c.setIfInBounds off v) e f) := by
 simp [World.setCell, Array.getElem?_modify, h]
theorem setCell_other {w : World} {b off k : Nat} (v : Value) (h : k ≠ b) : (w.setCell ⟨b, off, none⟩ v).heap[k]? = w.heap[k]? := by
 simp [World.setCell, Array.getElem?_modify, Ne.symm h]
theorem setCell_size {w : World} {b off : Nat} (v : Value) : (w.setCell ⟨b, off, none⟩ v).heap.size = w.heap.size := by
 simp [World.setCell]
def putCells (c : Array Value) (off : Nat) : List Value → Array Value
 | [] => c
 | v :: vs => putCells (c.setIfInBounds off v) (off + 1) vs
theorem putCells_size (vs : List Value) : ∀ (c : Array Value) (off : Nat), (putCells c off vs).size = c.size := by
 induction vs with
 | nil => intro c off; rfl
 | cons v vs ih => intro c off; simp [putCells, ih]
theorem putCells_get (vs : List Value) : ∀ (c : Array Value) (off k : Nat), off + vs.length ≤ c.size →
  (putCells c off vs)[k]? = if off ≤ k ∧ k < off + vs.length then vs[k - off]? else c[k]? := by
 induction vs with
 | nil => intro c off k _; simp [putCells]; omega
 | cons v vs ih =>
   intro c off k h
   simp only [List.length_cons] at h ⊢
   simp only [putCells]
   rw [ih _ _ _ (by simp; omega)]
   by_cases h1 : off + 1 ≤ k ∧ k < off + 1 + vs.length
   ·rw [if_pos h1, if_pos (by omega)]
    have : k - off = (k - (off + 1)) + 1 := by omega
    rw [this, List.getElem?_cons_succ]
   ·rw [if_neg h1]
    by_cases h2 : k = off
    ·subst h2
     rw [if_pos (by omega), Array.getElem?_setIfInBounds_self_of_lt (by omega)]
     simp
    ·rw [if_neg (by omega), Array.getElem?_setIfInBounds_ne (by omega)]
theorem setCells_block (vs : List Value) : ∀ {w : World} {b off : Nat} {c : Array Value} {e : TypeId} {f : Nat × Nat}, w.heap[b]? = some (.cells c e f) →
  (setCells w b off vs).heap[b]? = some (.cells (putCells c off vs) e f) := by
 induction vs with
 | nil => intro w b off c e f h; exact h
 | cons v vs ih => intro w b off c e f h; exact ih (setCell_block v h)
theorem setCells_other (vs : List Value) : ∀ {w : World} {b off k : Nat}, k ≠ b → (setCells w b off vs).heap[k]? = w.heap[k]? := by
 induction vs with
 | nil => intro w b off k _; rfl
 | cons v vs ih => intro w b off k h; rw [setCells, ih h, setCell_other v h]
theorem setCells_size (vs : List Value) : ∀ {w : World} {b off : Nat}, (setCells w b off vs).heap.size = w.heap.size := by
 induction vs with
 | nil => intro w b off; rfl
 | cons v vs ih => intro w b off; rw [setCells, ih, setCell_size]
theorem run_storeCells' (b off : Nat) (vs : List Value) : ∀ (i : Nat) {w : World} {c : Array Value} {e : TypeId}, w.heap[b]? = some (.cells c e (0, 0)) → off + i + vs.length ≤ c.size →
  (∀ v ∈ vs, v.oneCell' = true) → (storeCells ⟨b, off, none⟩ vs i).run P w = .ok () (setCells w b (off + i) vs) := by
 induction vs with
 | nil => intro i w c e _ _ _; simp [storeCells, setCells]
 | cons v vs ih =>
   intro i w c e h hs hv
   simp only [List.length_cons] at hs
   have hc : w.cell? ⟨b, off + i, none⟩ = some c[off + i] := by rw [cell?_block h, Array.getElem?_eq_getElem (by omega)]
   simp only [storeCells, Sem.run_bind, add_eq, run_store P w _ v .plain (hv v (by simp)), hc, frozen?_block h, Bool.false_eq_true, if_false, Result.andThen_ok]
   have := ih (i + 1) (w := w.setCell ⟨b, off + i, none⟩ v) (setCell_block v h) (by simp; omega) (fun u hu => hv u (by simp [hu]))
   show _ = Result.ok () (setCells (w.setCell ⟨b, off + i, none⟩ v) b (off + i + 1) vs)
   rw [Nat.add_assoc]
   exact this
theorem run_newRow (e : TypeId) (c : Array Value) : (newRow e c).run P w = .ok ⟨w.heap.size, 0, none⟩ { w with heap := w.heap.push (.cells c e (0, 0)) } := by
 simp [newRow]
end run
def All : Nat → Prop := fun _ => True
def upG (G : Nat → Option Value) (i : Nat) (h : Value) : Nat → Option Value := fun j => if j = i then some h else G j
def pushW (w : World) (o : Obj) : World := { w with heap := w.heap.push o }
theorem upG_self (G : Nat → Option Value) (i : Nat) (h : Value) : upG G i h i = some h := by simp [upG]
theorem upG_other (G : Nat → Option Value) {i j : Nat} (h : Value) (hj : j ≠ i) : upG G i h j = G j := by simp [upG, hj]
theorem pushW_size (w : World) (o : Obj) : (pushW w o).heap.size = w.heap.size + 1 := by simp [pushW]
theorem pushW_old (w : World) (o : Obj) {b : Nat} (h : b < w.heap.size) : (pushW w o).heap[b]? = w.heap[b]? := by
 simp only [pushW, Array.getElem?_push]; rw [if_neg (by omega)]
theorem pushW_new (w : World) (o : Obj) : (pushW w o).heap[w.heap.size]? = some o := by
 show (w.heap.push o)[w.heap.size]? = some o
 rw [Array.getElem?_push_size]
theorem cell?_same {w w' : World} {b : Nat} (h : w'.heap[b]? = w.heap[b]?) (o : Nat) : w'.cell? ⟨b, o, none⟩ = w.cell? ⟨b, o, none⟩ := by
 simp only [World.cell?, h]
section
variable {P : Program} {G G' : Nat → Option Value} {F F' : Nat → Nat → Prop} {M M' : Mem} {w w' : World} {nx nx' id : Nat}
theorem ObjOk.handle {o : RObj} (h : ObjOk P G F M w id o) : ∃ v, G id = some v ∧ ∀ b, blkOf v = some b → b < w.heap.size := by
 cases o with
 | cells cs =>
   obtain ⟨b, c, e, hG, hh, _⟩ := h
   refine ⟨_, hG, fun b' hb => ?_⟩
   simp only [blkOf, Option.some.injEq] at hb; subst hb
   exact (Array.getElem?_eq_some_iff.1 hh).1
 | arr esz es fz =>
   rcases h with ⟨_, base, hG, _⟩ | ⟨b, ko, c, cc, e, hG, hc, hh, _⟩
   ·refine ⟨_, hG, fun b' hb => ?_⟩
    cases base <;> simp [blkOf] at hb
   ·refine ⟨_, hG, fun b' hb => ?_⟩
    simp only [blkOf, hc, if_false, Option.some.injEq] at hb; subst hb
    exact (Array.getElem?_eq_some_iff.1 hh).1
 | map kt es =>
   obtain ⟨b, e, c, hG, hh, _⟩ := h
   refine ⟨_, hG, fun b' hb => ?_⟩
   simp only [blkOf, Option.some.injEq] at hb; subst hb
   exact (Array.getElem?_eq_some_iff.1 hh).1
theorem SimM.lt (hm : SimM P G F M nx w) {b : Nat} (h : Owned G M b) : b < w.heap.size := by
 obtain ⟨id, o, v, ho, hv, hb⟩ := h
 obtain ⟨v', hv', hlt⟩ := (hm.obj id o ho).2.handle
 rw [hv] at hv'; cases hv'
 exact hlt b hb
theorem SimM.hasG (hm : SimM P G F M nx w) {o : RObj} (h : mlook M id = some o) : G id ≠ none := by
 obtain ⟨v', hv', _⟩ := (hm.obj id o h).2.handle
 simp [hv']
theorem SimM.noM (hm : SimM P G F M nx w) (h : G id = none) : mlook M id = none := by
 cases ho : mlook M id with
 | none => rfl
 | some o => exact absurd h (hm.hasG ho)
theorem ObjOk.step {o : RObj} (h : ObjOk P G F M w id o) (S : Step All G F M w G' F' M' w') (hG : G' id = G id)
  (hk : ∀ b v, G id = some v → blkOf v = some b → w'.heap[b]? = w.heap[b]? ∧ ∀ o, F' b o → F b o) : ObjOk P G' F' M' w' id o := by
 have T : ∀ {v x}, RV G F M w v x → RV G' F' M' w' v x := fun h => h.step S (fun _ _ => trivial)
 cases o with
 | cells cs =>
   obtain ⟨b, c, e, h1, h2, h3, h4, h5⟩ := h
   obtain ⟨k1, k2⟩ := hk b _ h1 rfl
   exact ⟨b, c, e, hG.trans h1, k1.trans h2, h3, fun i a b => T (h4 i a b), fun o ho => h5 o (k2 o ho)⟩
 | arr esz es fz =>
   rcases h with ⟨h0, base, h1, hsp⟩ | ⟨b, ko, c, cc, e, h1, h2, h3, h4, h5, h6, h7, h8, h9⟩
   ·exact .inl ⟨h0, base, hG.trans h1, hsp⟩
   ·obtain ⟨k1, k2⟩ := hk b _ h1 (by simp [blkOf, h2])
    exact .inr ⟨b, ko, c, cc, e, hG.trans h1, h2, k1.trans h3, h4, h5, h6, fun i j a b => by
     obtain ⟨v, hv, h1, hr⟩ := h7 i j a b
     exact ⟨v, hv, h1, T hr⟩, fun o ho => h8 o (k2 o ho), fun hz => ⟨(h9 hz).1, fun o ho => S.F1 _ _ ((h9 hz).2 o ho)⟩⟩
 | map kt es =>
   obtain ⟨b, ents, clock, h1, h2, h3, h4, h5⟩ := h
   obtain ⟨k1, k2⟩ := hk b _ h1 rfl
   exact ⟨b, ents, clock, hG.trans h1, k1.trans h2, h3, fun i a b => ⟨(h4 i a b).1, T (h4 i a b).2.1, (h4 i a b).2.2⟩, fun o ho => h5 o (k2 o ho)⟩
theorem simM_gen (hm : SimM P G F M nx w) (S : Step All G F M w G' F' M' w')
  (hobj : ∀ id o', mlook M' id = some o' → id < nx' ∧ (ObjOk P G' F' M' w' id o' ∨ (mlook M id = some o' ∧ G' id = G id ∧ ∀ b v, G id = some v → blkOf v = some b → w'.heap[b]? = w.heap[b]? ∧ ∀ o, F' b o → F b o)))
  (hinj : ∀ id id' v v' b, mlook M' id ≠ none → mlook M' id' ≠ none → G' id = some v → G' id' = some v' → blkOf v = some b → blkOf v' = some b → id = id')
  (hinF : ∀ b o, F' b o → b < w'.heap.size) : SimM P G' F' M' nx' w' where
 obj := fun id o' h => by
  obtain ⟨h1, h2⟩ := hobj id o' h
  refine ⟨h1, ?_⟩
  rcases h2 with h2 | ⟨h2, h3, h4⟩
  ·exact h2
  ·exact (hm.obj id o' h2).2.step S h3 h4
 inj := hinj
 inF := hinF
 gl := hm.gl.mono S.F1 S.F2
theorem simM_new (hm : SimM P G F M nx w) (hid : G id = none) (hn : id < nx) (o : Obj) (h : Value) (ob : RObj) (huf : unfroz o = true)
  (hb : ∀ b, blkOf h = some b → b = w.heap.size)
  (S' : Step All G F M w (upG G id h) F ((id, ob) :: M) (pushW w o) → ObjOk P (upG G id h) F ((id, ob) :: M) (pushW w o) id ob) :
  SimM P (upG G id h) F ((id, ob) :: M) nx (pushW w o) ∧ Step All G F M w (upG G id h) F ((id, ob) :: M) (pushW w o) := by
 have hne : ∀ j, G j ≠ none → j ≠ id := fun j hj e => hj (e ▸ hid)
 have S : Step All G F M w (upG G id h) F ((id, ob) :: M) (pushW w o) :=
  { kept := .push huf
    size := by rw [pushW_size]; omega
    out := fun b hb _ => pushW_old w o hb
    F1 := fun _ _ h => h
    F2 := fun b o' hF => cell?_same (pushW_old w o (hm.inF b o' hF)) o'
    F3 := fun _ _ h => .inl h
    own := fun b ⟨j, o', v, ho, hv, hbv⟩ => by
     by_cases e : j = id
     ·subst e
      rw [upG_self] at hv; cases hv
      exact .inl (Nat.le_of_eq (hb b hbv).symm)
     ·rw [mlook_cons, if_neg e] at ho
      rw [upG_other G h e] at hv
      exact .inr ⟨j, o', v, ho, hv, hbv⟩
    some' := fun j _ hj => by rw [upG_other G h (hne j hj)]; exact hj
    same := fun j v _ hj _ => by rw [upG_other G h (hne j (by simp [hj]))]; exact hj
    keep := fun j o' _ hj ho => by
     have e := hne j hj
     rw [mlook_cons, if_neg e] at ho
     cases hv : G j with
     | none => exact absurd hv hj
     | some v => exact ⟨o', v, v, ho, rfl, by rw [upG_other G h e]; exact hv, objKeep.refl v o'⟩ }
 refine ⟨simM_gen hm S (fun j o' ho => ?_) (fun i j v v' b hi hj hv hv' hbv hbv' => ?_) (fun b o' hF => Nat.lt_of_lt_of_le (hm.inF b o' hF) S.size), S⟩
 ·by_cases e : j = id
  ·subst e
   rw [mlook_cons, if_pos rfl] at ho; cases ho
   exact ⟨hn, .inl (S' S)⟩
  ·rw [mlook_cons, if_neg e] at ho
   refine ⟨(hm.obj j o' ho).1, .inr ⟨ho, upG_other G h e, fun b v hv hbv => ⟨pushW_old w o (hm.lt ⟨j, o', v, ho, hv, hbv⟩), fun _ h => h⟩⟩⟩
 ·have old : ∀ j v, j ≠ id → mlook ((id, ob) :: M) j ≠ none → upG G id h j = some v → mlook M j ≠ none ∧ G j = some v := fun j v e h1 h2 =>
    ⟨by rwa [mlook_cons, if_neg e] at h1, by rwa [upG_other G h e] at h2⟩
  have lt : ∀ j v, mlook M j ≠ none → G j = some v → blkOf v = some b → b < w.heap.size := fun j v h1 h2 h3 => by
   cases ho : mlook M j with
   | none => exact absurd ho h1
   | some o' => exact hm.lt ⟨j, o', v, ho, h2, h3⟩
  by_cases ei : i = id
  ·by_cases ej : j = id
   ·rw [ei, ej]
   ·subst ei
    rw [upG_self] at hv; cases hv
    obtain ⟨h1, h2⟩ := old j v' ej hj hv'
    have := lt j v' h1 h2 hbv'
    have := hb b hbv
    omega
  ·by_cases ej : j = id
   ·subst ej
    rw [upG_self] at hv'; cases hv'
    obtain ⟨h1, h2⟩ := old i v ei hi hv
    have := lt i v h1 h2 hbv
    have := hb b hbv'
    omega
   ·obtain ⟨h1, h2⟩ := old i v ei hi hv
    obtain ⟨h3, h4⟩ := old j v' ej hj hv'
    exact hm.inj i j v v' b h1 h3 h2 h4 hbv hbv'
theorem simM_upd (hm : SimM P G F M nx w) {i : Nat} {ob ob' : RObj} {h h' : Value} (hi : mlook M i = some ob) (hG : G i = some h) (hk : objKeep h h' ob ob') (hkp : Kept w w')
  (hsz : w.heap.size ≤ w'.heap.size) (hout : ∀ k, k < w.heap.size → blkOf h ≠ some k → w'.heap[k]? = w.heap[k]?)
  (hF1 : ∀ b o, F b o → F' b o) (hF2 : ∀ b o, F b o → w'.cell? ⟨b, o, none⟩ = w.cell? ⟨b, o, none⟩) (hF3 : ∀ b o, F' b o → F b o ∨ (w.heap.size ≤ b ∧ b < w'.heap.size) ∨ blkOf h = some b)
  (hb : ∀ b, blkOf h' = some b → blkOf h = some b ∨ (w.heap.size ≤ b))
  (hob : Step All G F M w (upG G i h') F' (mset M i ob') w' → ObjOk P (upG G i h') F' (mset M i ob') w' i ob') :
  SimM P (upG G i h') F' (mset M i ob') nx w' ∧ Step All G F M w (upG G i h') F' (mset M i ob') w' := by
 have own : Owned G M = Owned G M := rfl
 have S : Step All G F M w (upG G i h') F' (mset M i ob') w' :=
  { kept := hkp
    size := hsz
    out := fun b hlt hno => hout b hlt (fun e => hno ⟨i, ob, h, hi, hG, e⟩)
    F1 := hF1
    F2 := hF2
    F3 := fun b o hF => by
     rcases hF3 b o hF with h1 | h1 | h1
     ·exact .inl h1
     ·exact .inr (.inl h1.1)
     ·exact .inr (.inr ⟨i, ob, h, hi, hG, h1⟩)
    own := fun b ⟨j, o', v, ho, hv, hbv⟩ => by
     by_cases e : j = i
     ·subst e
      rw [upG_self] at hv; cases hv
      rcases hb b hbv with h1 | h1
      ·exact .inr ⟨j, ob, h, hi, hG, h1⟩
      ·exact .inl h1
     ·rw [mlook_mset, if_neg e] at ho
      rw [upG_other G h' e] at hv
      exact .inr ⟨j, o', v, ho, hv, hbv⟩
    some' := fun j _ hj => by
     by_cases e : j = i
     ·subst e; rw [upG_self]; simp
     ·rw [upG_other G h' e]; exact hj
    same := fun j v _ hj hns => by
     by_cases e : j = i
     ·subst e
      rw [hG] at hj; cases hj
      rw [upG_self]
      cases ob <;> cases ob' <;> simp only [objKeep] at hk
      ·rw [hk]
      ·obtain ⟨v', hv', _⟩ := (hm.obj j _ hi).2.handle
       have := (hm.obj j _ hi).2
       rcases this with ⟨_, base, h1, _⟩ | ⟨b, ko, c, cc, e, h1, _⟩
       ·rw [hG] at h1; cases h1; exact absurd rfl (hns _ _ _)
       ·rw [hG] at h1; cases h1; exact absurd rfl (hns _ _ _)
      ·rw [hk.2]
     ·rw [upG_other G h' e]; exact hj
    keep := fun j o' _ hj ho => by
     by_cases e : j = i
     ·subst e
      rw [mlook_mset, if_pos rfl] at ho; cases ho
      exact ⟨ob, h, h', hi, hG, upG_self G j h', hk⟩
     ·rw [mlook_mset, if_neg e] at ho
      cases hv : G j with
      | none => exact absurd hv hj
      | some v => exact ⟨o', v, v, ho, rfl, by rw [upG_other G h' e]; exact hv, objKeep.refl v o'⟩ }
 have old : ∀ j v, j ≠ i → mlook (mset M i ob') j ≠ none → upG G i h' j = some v → mlook M j ≠ none ∧ G j = some v := fun j v e h1 h2 =>
  ⟨by rwa [mlook_mset, if_neg e] at h1, by rwa [upG_other G h' e] at h2⟩
 have lt : ∀ j v b, mlook M j ≠ none → G j = some v → blkOf v = some b → b < w.heap.size := fun j v b h1 h2 h3 => by
  cases ho : mlook M j with
  | none => exact absurd ho h1
  | some o' => exact hm.lt ⟨j, o', v, ho, h2, h3⟩
 have hine : mlook M i ≠ none := by simp [hi]
 refine ⟨simM_gen hm S (fun j o' ho => ?_) (fun j k v v' b hj hk hv hv' hbv hbv' => ?_) (fun b o hF => ?_), S⟩
 ·by_cases e : j = i
  ·subst e
   rw [mlook_mset, if_pos rfl] at ho; cases ho
   exact ⟨(hm.obj j ob hi).1, .inl (hob S)⟩
  ·rw [mlook_mset, if_neg e] at ho
   refine ⟨(hm.obj j o' ho).1, .inr ⟨ho, upG_other G h' e, fun b v hv hbv => ?_⟩⟩
   have hlt := hm.lt ⟨j, o', v, ho, hv, hbv⟩
   have hnb : blkOf h ≠ some b := fun e' => e (hm.inj j i v h b (by simp [ho]) hine hv hG hbv e')
   refine ⟨hout b hlt hnb, fun o hF => ?_⟩
   rcases hF3 b o hF with h1 | h1 | h1
   ·exact h1
   ·omega
   ·exact absurd h1 hnb
 ·by_cases ej : j = i
  ·by_cases ek : k = i
   ·rw [ej, ek]
   ·subst ej
    rw [upG_self] at hv; cases hv
    obtain ⟨h1, h2⟩ := old k v' ek hk hv'
    have hlt := lt k v' b h1 h2 hbv'
    rcases hb b hbv with h3 | h3
    ·exact (hm.inj j k h v' b hine h1 hG h2 h3 hbv')
    ·omega
  ·by_cases ek : k = i
   ·subst ek
    rw [upG_self] at hv'; cases hv'
    obtain ⟨h1, h2⟩ := old j v ej hj hv
    have hlt := lt j v b h1 h2 hbv
    rcases hb b hbv' with h3 | h3
    ·exact (hm.inj j k v h b h1 hine h2 hG hbv h3)
    ·omega
   ·obtain ⟨h1, h2⟩ := old j v ej hj hv
    obtain ⟨h3, h4⟩ := old k v' ek hk hv'
    exact hm.inj j k v v' b h1 h3 h2 h4 hbv hbv'
 ·rcases hF3 b o hF with h1 | h1 | h1
  ·exact Nat.lt_of_lt_of_le (hm.inF b o h1) hsz
  ·exact h1.2
  ·exact Nat.lt_of_lt_of_le (lt i h b hine hG h1) hsz
def addF (F : Nat → Nat → Prop) (b : Nat) : Nat → Nat → Prop := fun b' o => F b' o ∨ b' = b
theorem simM_row (hm : SimM P G F M nx w) (o : Obj) (huf : unfroz o = true) :
  SimM P G (addF F w.heap.size) M nx (pushW w o) ∧ Step All G F M w G (addF F w.heap.size) M (pushW w o) := by
 have S : Step All G F M w G (addF F w.heap.size) M (pushW w o) :=
  { kept := .push huf
    size := by rw [pushW_size]; omega
    out := fun b hb _ => pushW_old w o hb
    F1 := fun _ _ h => .inl h
    F2 := fun b o' hF => cell?_same (pushW_old w o (hm.inF b o' hF)) o'
    F3 := fun b o h => by
     rcases h with h | h
     ·exact .inl h
     ·exact .inr (.inl (Nat.le_of_eq h.symm))
    own := fun _ h => .inr h
    some' := fun _ _ h => h
    same := fun _ _ _ h _ => h
    keep := fun j o' _ hj ho => by
     cases hv : G j with
     | none => exact absurd hv hj
     | some v => exact ⟨o', v, v, ho, rfl, rfl, objKeep.refl v o'⟩ }
 refine ⟨simM_gen hm S (fun j o' ho => ⟨(hm.obj j o' ho).1, .inr ⟨ho, rfl, fun b v hv hbv => ?_⟩⟩) hm.inj (fun b o' hF => ?_), S⟩
 ·have hlt := hm.lt ⟨j, o', v, ho, hv, hbv⟩
  refine ⟨pushW_old w o hlt, fun o'' hF => ?_⟩
  rcases hF with h | h
  ·exact h
  ·omega
 ·rw [pushW_size]
  rcases hF with h | h
  ·exact Nat.lt_succ_of_lt (hm.inF b o' h)
  ·omega
theorem simM_drew (hm : SimM P G F M nx w) (hh : w'.heap = w.heap) (hkp : Kept w w') : SimM P G F M nx w' ∧ Step All G F M w G F M w' := by
 have S : Step All G F M w G F M w' :=
  { kept := hkp
    size := by rw [hh]; omega
    out := fun b hb _ => by rw [hh]
    F1 := fun _ _ h => h
    F2 := fun b o' hF => cell?_same (by rw [hh]) o'
    F3 := fun b o h => .inl h
    own := fun _ h => .inr h
    some' := fun _ _ h => h
    same := fun _ _ _ h _ => h
    keep := fun j o' _ hj ho => by
     cases hv : G j with
     | none => exact absurd hv hj
     | some v => exact ⟨o', v, v, ho, rfl, rfl, objKeep.refl v o'⟩ }
 exact ⟨simM_gen hm S (fun j o' ho => ⟨(hm.obj j o' ho).1, .inr ⟨ho, rfl, fun b v hv hbv => ⟨by rw [hh], fun _ h => h⟩⟩⟩) hm.inj (fun b o' hF => by rw [hh]; exact hm.inF b o' hF), S⟩
end
def OpOk (P : Program) (G : Nat → Option Value) (F : Nat → Nat → Prop) (M : Mem) (nx : Nat) (w : World) (id : Nat) (run : Result Next) (x : AV) (M' : Mem) : Prop :=
 ∃ u w' G' F', (run = .ok (.value u) w' ∨ (run = .ok .skip w' ∧ u = undef)) ∧ SimM P G' F' M' nx w' ∧ Step All G F M w G' F' M' w' ∧ RV G' F' M' w' u x ∧ ∀ j, j ≠ id → G j = none → G' j = none
section
variable {P : Program} {G : Nat → Option Value} {F : Nat → Nat → Prop} {M : Mem} {w : World} {nx id : Nat} {x : AV}
theorem OpOk.val {run : Result Next} {u : Value} (hm : SimM P G F M nx w) (h : run = .ok (.value u) w) (hr : RV G F M w u x) : OpOk P G F M nx w id run x M :=
 ⟨u, w, G, F, .inl h, hm, .refl, hr, fun _ _ h => h⟩
theorem OpOk.new {run : Result Next} {o : Obj} {h : Value} {ob : RObj} (hm : SimM P G F M nx w) (hid : G id = none) (hn : id < nx) (hrun : run = .ok (.value h) (pushW w o))
  (hb : ∀ b, blkOf h = some b → b = w.heap.size)
  (S' : Step All G F M w (upG G id h) F ((id, ob) :: M) (pushW w o) → ObjOk P (upG G id h) F ((id, ob) :: M) (pushW w o) id ob)
  (hr : RV (upG G id h) F ((id, ob) :: M) (pushW w o) h x) (huf : unfroz o = true := by rfl) : OpOk P G F M nx w id run x ((id, ob) :: M) := by
 obtain ⟨h1, h2⟩ := simM_new hm hid hn o h ob huf hb S'
 exact ⟨h, _, _, _, .inl hrun, h1, h2, hr, fun j hj hG => by rw [upG_other G h hj]; exact hG⟩
theorem OpOk.newH {run : Result Next} {o : Obj} {u h : Value} {ob : RObj} (hm : SimM P G F M nx w) (hid : G id = none) (hn : id < nx) (hrun : run = .ok (.value u) (pushW w o))
  (hb : ∀ b, blkOf h = some b → b = w.heap.size)
  (S' : Step All G F M w (upG G id h) F ((id, ob) :: M) (pushW w o) → ObjOk P (upG G id h) F ((id, ob) :: M) (pushW w o) id ob)
  (hr : RV (upG G id h) F ((id, ob) :: M) (pushW w o) u x) (huf : unfroz o = true := by rfl) : OpOk P G F M nx w id run x ((id, ob) :: M) := by
 obtain ⟨h1, h2⟩ := simM_new hm hid hn o h ob huf hb S'
 exact ⟨u, _, _, _, .inl hrun, h1, h2, hr, fun j hj hG => by rw [upG_other G h hj]; exact hG⟩
theorem OpOk.row {run : Result Next} {o : Obj} {u : Value} (hm : SimM P G F M nx w) (hrun : run = .ok (.value u) (pushW w o))
  (hr : RV G (addF F w.heap.size) M (pushW w o) u x) (huf : unfroz o = true := by rfl) : OpOk P G F M nx w id run x M := by
 obtain ⟨h1, h2⟩ := simM_row hm o huf
 exact ⟨u, _, _, _, .inl hrun, h1, h2, hr, fun _ _ h => h⟩
theorem Imm.ofCell (v : Value) : Imm F w v (ofCell v) := by
 unfold Avl.ofCell
 split
 ·exact .nil _ (.inr (.inl rfl))
 ·exact .sc _
theorem Imm.ofVal (v : Value) : Imm F w v (ofVal v) := by
 unfold Avl.ofVal
 split
 ·rename_i cs
  obtain ⟨cs⟩ := cs
  exact .ag cs _ (by simp) (fun i h1 h2 => by simpa using Imm.ofCell cs[i])
 ·exact .ofCell _
theorem Imm.zero {ti : TI} : ∀ i (h1 : i < ti.zero.length) (h2 : i < (zeroOf ti).length), Imm F w ti.zero[i] (zeroOf ti)[i] := by
 intro i h1 h2
 simpa [zeroOf] using Imm.ofCell ti.zero[i]
theorem RV.unopt {v : Value} {y : AV} (h : RV G F M w v y) : RV G F M w v (unopt true y) := by
 unfold Avl.unopt
 split
 ·rename_i b z
  split
  ·rename_i hb
   exact h.inv_opt' (by simpa using hb)
  ·exact .imm (.junk v)
 ·exact h
theorem acell_one {v : Value} {y : AV} (h : RV G F M w v y) (hm : SimM P G F M nx w) (hc : acell M y = true) : v.oneCell' = true ∧ v.cells = #[v] := by
 unfold acell at hc
 split at hc
 ·rename_i i n b
  split at hc
  ·rename_i esz es fz ho
   obtain ⟨_, h2⟩ := h.inv_tl
   obtain ⟨h3, h4⟩ := (h2 _ _ _ ho).2 (by simpa using hc)
   have := (hm.obj i _ ho).2
   rcases this with ⟨_, base, h1, _⟩ | ⟨b, ko, c, cc, e, h1, _⟩
   ·rw [h3] at h1; cases h1; exact ⟨rfl, rfl⟩
   ·rw [h3] at h1; cases h1; exact ⟨rfl, rfl⟩
  ·cases hc
 ·rename_i i n off len cap
  split at hc
  ·rename_i esz es fz ho
   obtain ⟨_, h2⟩ := h.inv_tv
   obtain ⟨_, b, ko, c, _, _, c', rfl, _⟩ := (h2 _ _ _ ho).2 (by simpa using hc)
   exact ⟨rfl, rfl⟩
  ·cases hc
 ·unfold AV.cell1 at hc
  split at hc <;> first
   | (cases hc; done)
   | skip
  ·rw [h.inv_sc]
   rename_i u h1 h2 _ _
   cases u <;> first | exact ⟨rfl, rfl⟩ | exact absurd rfl (h1 _) | exact absurd rfl (h2 _)
  ·have := h.inv_sl
   cases this <;> exact ⟨rfl, rfl⟩
  ·have := h.inv_ia
   cases this; exact ⟨rfl, rfl⟩
  ·obtain ⟨b, _, rfl⟩ := h.inv_rf; exact ⟨rfl, rfl⟩
  ·obtain ⟨b, _, rfl⟩ := h.inv_mp; exact ⟨rfl, rfl⟩
  ·obtain ⟨vs, rfl, _⟩ := h.inv_fn; obtain ⟨_, _, _, e⟩ := fnV_func _ vs; rw [e]; exact ⟨rfl, rfl⟩
  ·obtain ⟨u, rfl, _⟩ := h.inv_ifc; exact ⟨rfl, rfl⟩
theorem RV.cells {v : Value} {y : AV} (h : RV G F M w v y) (hm : SimM P G F M nx w) (hc : (acells y).all (acell M) = true) :
  v.cells.size = (acells y).length ∧ (∀ i (h1 : i < v.cells.size) (h2 : i < (acells y).length), RV G F M w v.cells[i] (acells y)[i]) ∧ ∀ u ∈ v.cells.toList, u.oneCell' = true := by
 unfold acells at hc ⊢
 split at hc
 ·rename_i cs
  obtain ⟨vs, rfl, hl, hp⟩ := h.inv_ag
  refine ⟨by simpa [Value.cells] using hl, fun i h1 h2 => by simpa [Value.cells] using hp i (by simpa [Value.cells] using h1) h2, fun u hu => ?_⟩
  simp only [Value.cells] at hu
  obtain ⟨i, hi, rfl⟩ := List.mem_iff_getElem.1 hu
  rw [List.all_eq_true] at hc
  exact (acell_one (hp i hi (by omega)) hm (hc _ (List.getElem_mem _))).1
 ·obtain ⟨h1, h2⟩ := acell_one h hm (by simpa using hc)
  rw [h2]
  refine ⟨by simp, fun i a b => ?_, fun u hu => ?_⟩
  ·have : i = 0 := by simpa using a
   subst this; simpa using h
  ·simp only [List.mem_singleton] at hu; rw [hu]; exact h1
theorem mkv_rv {ti : TI} {vs : List Value} {cs : List AV} (hl : vs.length = cs.length) (h : ∀ i (h1 : i < vs.length) (h2 : i < cs.length), RV G F M w vs[i] cs[i]) (u : Value)
  (h1 : ti.agg = true → u = .agg vs.toArray) (h2 : ti.agg = false → ∀ v, vs = [v] → u = v) : RV G F M w u (mkv ti.agg cs) := by
 unfold mkv
 split
 ·rename_i ha
  rw [h1 ha]
  exact .ag vs cs hl h
 ·rename_i ha
  split
  ·rename_i c
   match vs, hl with
   | [v], _ =>
     rw [h2 (by simpa using ha) v rfl]
     exact h 0 (by simp) (by simp)
  ·exact .imm (.junk u)
theorem load_rv {t : TypeId} {ti : TI} (ht : tinfo P t = some ti) (b off : Nat) (cs : List AV) (vs : List Value) (hl : vs.length = cs.length) (hsz : cs.length = ti.size)
  (h1 : ti.agg = true ∨ ti.size = 1) (hc : ∀ j (hj : j < vs.length), w.cell? ⟨b, off + j, none⟩ = some vs[j])
  (h : ∀ i (h1 : i < vs.length) (h2 : i < cs.length), RV G F M w vs[i] cs[i]) : ∃ u, (Instr.loadAt t (.pointer (some ⟨b, off, none⟩))).run P w = .ok u w ∧ RV G F M w u (mkv ti.agg cs) := by
 obtain ⟨k1, k2⟩ := run_loadAt' ht b off vs (by omega) hc
 cases ha : ti.agg with
 | true => exact ⟨_, k1 ha, by rw [← ha]; exact mkv_rv hl h _ (fun _ => rfl) (fun h => by rw [ha] at h; cases h)⟩
 | false =>
   have hs : ti.size = 1 := by rcases h1 with h1 | h1; · rw [ha] at h1; cases h1
                               ·exact h1
   have h1' : ∃ v, vs = [v] := by
    match vs, hl with
    | [v], _ => exact ⟨v, rfl⟩
    | [], hl => simp at hl; omega
    | _ :: _ :: _, hl => simp at hl; omega
   obtain ⟨v, rfl⟩ := h1'
   exact ⟨v, k2 ha v rfl, by rw [← ha]; exact mkv_rv (vs := [v]) hl h _ (fun h => by rw [ha] at h; cases h) (fun _ v' e => by cases e; rfl)⟩
end
section
variable {P : Program} {G : Nat → Option Value} {F : Nat → Nat → Prop} {M : Mem} {w w' : World} {nx id : Nat} {x : AV}
theorem run_v {s : Sem Value} {u : Value} (h : s.run P w = .ok u w') : (do pure (Next.value (← s)) : Sem Next).run P w = .ok (.value u) w' := by simp [h]
theorem run_u {s : Sem Unit} (h : s.run P w = .ok () w') : (do s; pure Next.skip : Sem Next).run P w = .ok .skip w' := by simp [h]
theorem sizeOf_cells {t : TypeId} (h : P.cellsOf t ≠ 0) : (sizeOf t).run P w = .ok (P.cellsOf t) w := by
 unfold Program.cellsOf at *
 cases hi : P.info? t with
 | none => simp [hi] at h
 | some i => simp [sizeOf, typeInfo, hi]
theorem cells_of (hm : SimM P G F M nx w) {i b : Nat} {cs : List AV} (hG : G i = some (.pointer (some ⟨b, 0, none⟩))) (ho : mlook M i = some (.cells cs)) :
  ∃ (c : Array Value) (e : TypeId), w.heap[b]? = some (.cells c e (0, 0)) ∧ c.size = cs.length ∧ (∀ i (h1 : i < c.size) (h2 : i < cs.length), RV G F M w c[i] cs[i]) ∧ ∀ o, ¬ F b o := by
 obtain ⟨b', c, e, h1, h2, h3, h4, h5⟩ := (hm.obj i _ ho).2
 rw [hG] at h1; cases h1
 exact ⟨c, e, h2, h3, h4, h5⟩
theorem arr_of (hm : SimM P G F M nx w) {i b ko n c : Nat} {esz : Nat} {es : List (List AV)} {fz : Bool} (hG : G i = some (.slice (some ⟨b, ko, none⟩) n c)) (hc : c ≠ 0) (ho : mlook M i = some (.arr esz es fz)) :
  n = es.length ∧ ∃ (cc : Array Value) (e : TypeId), w.heap[b]? = some (.cells cc e (0, 0)) ∧ es.length ≤ c ∧ cc.size = ko + c * esz ∧ (∀ i (h : i < es.length), es[i].length = esz) ∧
      (∀ i j (h : i < es.length) (h' : j < es[i].length), ∃ v, cc[ko + (i * esz + j)]? = some v ∧ v.oneCell' = true ∧ RV G F M w v es[i][j]) ∧ (∀ o, F b o → fz = true ∧ ko ≤ o ∧ o < ko + es.length * esz) ∧
      (fz = true → (∀ i j (h : i < es.length) (h' : j < es[i].length), es[i][j].noref = true) ∧ ∀ o, o < es.length * esz → F b (ko + o)) := by
 rcases (hm.obj i _ ho).2 with ⟨h0, base, h1, _⟩ | ⟨b', ko', c', cc, e, h1, h2, h3, h4, h5, h6, h7, h8, h9⟩
 ·rw [hG] at h1; cases h1; exact absurd rfl hc
 ·rw [hG] at h1; cases h1
  exact ⟨rfl, cc, e, h3, h4, h5, h6, h7, h8, h9⟩
theorem ok_load_rf (hm : SimM P G F M nx w) {t : TypeId} {ti : TI} (ht : tinfo P t = some ti) {v : Value} {i off : Nat} {cs : List AV} (hv : RV G F M w v (.rf i off)) (ho : mlook M i = some (.cells cs))
  (h1 : off + ti.size ≤ cs.length) (h2 : ti.agg = true ∨ ti.size = 1) : ∃ u, (Instr.loadAt t v).run P w = .ok u w ∧ RV G F M w u (mkv ti.agg ((cs.drop off).take ti.size)) := by
 obtain ⟨b, hG, rfl⟩ := hv.inv_rf
 obtain ⟨c, e, hb, hs, hc, _⟩ := cells_of hm hG ho
 have hl : ((c.toList.drop off).take ti.size).length = ti.size := by simp; omega
 refine load_rv ht b off ((cs.drop off).take ti.size) ((c.toList.drop off).take ti.size) (by simp; omega) (by simp; omega) h2 (fun j hj => ?_) (fun j hj hj' => ?_)
 ·rw [cell?_block hb]
  simp only [List.getElem_take, List.getElem_drop, Array.getElem_toList]
  rw [Array.getElem?_eq_getElem]
 ·simp only [List.getElem_take, List.getElem_drop, Array.getElem_toList]
  exact hc _ _ _
theorem ok_load_ia {t : TypeId} {ti : TI} (ht : tinfo P t = some ti) {v : Value} {cs : List AV} (hv : RV G F M w v (.ia cs))
  (h1 : ti.size ≤ cs.length) (h2 : ti.agg = true ∨ ti.size = 1) : ∃ u, (Instr.loadAt t v).run P w = .ok u w ∧ RV G F M w u (mkv ti.agg (cs.take ti.size)) := by
 cases hv.inv_ia with
 | ia b off _ vs hF hi =>
   refine load_rv ht b off (cs.take ti.size) ((List.range ti.size).map vs) (by simp; omega) (by simp; omega) h2 (fun j hj => ?_) (fun j hj hj' => ?_)
   ·simp only [List.length_map, List.length_range] at hj
    simp only [List.getElem_map, List.getElem_range]
    exact (hF j (by omega)).2
   ·simp only [List.length_map, List.length_range] at hj
    simp only [List.getElem_map, List.getElem_range, List.getElem_take]
    exact .imm (hi j (by omega))
theorem ok_load_ea (hm : SimM P G F M nx w) {t : TypeId} {ti : TI} (ht : tinfo P t = some ti) {v : Value} {i n k off esz : Nat} {es : List (List AV)} {fz : Bool} {c : List AV} (hv : RV G F M w v (.ea i n k off)) (ho : mlook M i = some (.arr esz es fz))
  (hk : es[k]? = some c) (hn : n = es.length) (h1 : off + ti.size ≤ c.length) (h2 : ti.agg = true ∨ ti.size = 1) : ∃ u, (Instr.loadAt t v).run P w = .ok u w ∧ RV G F M w u (mkv ti.agg ((c.drop off).take ti.size)) := by
 obtain ⟨_, hh⟩ := hv.inv_ea
 obtain ⟨_, b, ko, c', hG, hc0, rfl⟩ := (hh _ _ _ ho).2 hn
 obtain ⟨_, cc, e, hb, hc, hs, hes, hrv, _, _⟩ := arr_of hm hG hc0 ho
 obtain ⟨hkl, rfl⟩ := List.getElem?_eq_some_iff.1 hk
 have hel := hes k hkl
 have key : ∀ j, j < ti.size → ∃ u, cc[ko + (k * esz + (off + j))]? = some u ∧ ∀ (h' : off + j < es[k].length), RV G F M w u es[k][off + j] := fun j hj => by
  obtain ⟨u, hu, _, hr⟩ := hrv k (off + j) hkl (by omega)
  exact ⟨u, hu, fun _ => hr⟩
 refine load_rv ht b (ko + (k * esz + off)) ((es[k].drop off).take ti.size) ((List.range ti.size).map fun j => (cc[ko + (k * esz + (off + j))]?).getD undef) (by simp; omega) (by simp; omega) h2 (fun j hj => ?_) (fun j hj hj' => ?_)
 ·simp only [List.length_map, List.length_range] at hj
  simp only [List.getElem_map, List.getElem_range]
  obtain ⟨u, hu, _⟩ := key j hj
  rw [cell?_block hb, show ko + (k * esz + off) + j = ko + (k * esz + (off + j)) by omega, hu]; rfl
 ·simp only [List.length_map, List.length_range] at hj
  simp only [List.getElem_map, List.getElem_range, List.getElem_take, List.getElem_drop]
  obtain ⟨u, hu, hr⟩ := key j hj
  rw [hu]
  exact hr (by omega)
theorem ok_field {t : TypeId} {f off : Nat} {ft : TypeId} (ht : tfield P t f = some (off, ft)) (h0 : P.cellsOf ft ≠ 0) {b o : Nat} :
  (Instr.fieldAt t (.pointer (some ⟨b, o, none⟩)) f).run P w = .ok (.pointer (some ⟨b, o + off, none⟩)) w := by
 unfold tfield at ht
 split at ht
 ·rename_i fs hu
  cases hf : fs[f]? with
  | none => simp [hf] at ht
  | some fd =>
    simp [hf] at ht
    obtain ⟨rfl, rfl⟩ := ht
    simp only [Instr.fieldAt, Sem.run_bind, run_under hu, Result.andThen_ok, hf, Instr.sureAddr, Sem.run_pure, fieldPlace, sizeOf_cells h0, Sem.run_ite, h0, if_false, add_eq]
 ·cases ht
theorem telem_inv {t e : TypeId} (h : telem P t = some e) : P.underlying t = some (.slice e) := by
 unfold telem at h
 split at h
 ·cases h; assumption
 ·cases h
theorem tarr_inv {t e : TypeId} {n : Nat} (h : tarr P t = some (n, e)) : P.underlying t = some (.array n e) := by
 unfold tarr at h
 split at h
 ·cases h; assumption
 ·cases h
theorem sizeOf_any {t : TypeId} {ti : TypeInfo} (h : P.info? t = some ti) : (sizeOf t).run P w = .ok (P.cellsOf t) w := by
 simp [sizeOf, typeInfo, h, Program.cellsOf]
theorem run_indexAt_slice {t e : TypeId} (ht : telem P t = some e) (hs : (sizeOf e).run P w = .ok (P.cellsOf e) w) {b off n c : Nat} {k : IntKind} {i : Int} (h0 : 0 ≤ i) (h1 : i.toNat < n) :
  (Instr.indexAt t (.slice (some ⟨b, off, none⟩) n c) (.int k i)).run P w = .ok (.pointer (some ⟨b, off + i.toNat * P.cellsOf e, none⟩)) w := by
 have hu := telem_inv ht
 have h2 : i < (n : Int) := by omega
 simp only [Instr.indexAt, asIntOf, Sem.run_bind, Sem.run_pure, Result.andThen_ok, run_under hu, Sem.run_ite, h0, h2, and_self, if_true, hs, add_eq]
theorem run_indexAt_arr {t e : TypeId} {n : Nat} (ht : tarr P t = some (n, e)) (hs : (sizeOf e).run P w = .ok (P.cellsOf e) w) {b off : Nat} {k : IntKind} {i : Int} (h0 : 0 ≤ i) (h1 : i.toNat < n) :
  (Instr.indexAt t (.pointer (some ⟨b, off, none⟩)) (.int k i)).run P w = .ok (.pointer (some ⟨b, off + i.toNat * P.cellsOf e, none⟩)) w := by
 have hu := tarr_inv ht
 have h2 : i < (n : Int) := by omega
 simp only [Instr.indexAt, asIntOf, Sem.run_bind, Sem.run_pure, Result.andThen_ok, run_under hu, Sem.run_ite, h0, h2, and_self, if_true, hs, add_eq, Instr.sureAddr]
theorem ok_newVar (hm : SimM P G F M nx w) (hid : G id = none) (hn : id < nx) {t : TypeId} {v : Value} {cs : List AV} (hl : v.cells.size = cs.length)
  (hr : ∀ i (h1 : i < v.cells.size) (h2 : i < cs.length), RV G F M w v.cells[i] cs[i]) {s : Sem Value} (hs : s.run P w = .ok (.pointer (some ⟨w.heap.size, 0, none⟩)) (pushW w (.cells v.cells t (0, 0)))) :
  OpOk P G F M nx w id ((do pure (Next.value (← s)) : Sem Next).run P w) (.rf id 0) ((id, .cells cs) :: M) := by
 refine OpOk.new hm hid hn (run_v hs) (fun b hb => by simp only [blkOf, Option.some.injEq] at hb; exact hb.symm) (fun S => ?_) ?_
 ·exact ⟨w.heap.size, v.cells, t, upG_self _ _ _, pushW_new _ _, hl, fun i h1 h2 => (hr i h1 h2).step S (fun _ _ => trivial), fun o hF => by have := hm.inF _ _ hF; omega⟩
 ·exact .rf id 0 _ (upG_self _ _ _)
end
section
variable {P : Program} {G : Nat → Option Value} {F : Nat → Nat → Prop} {M : Mem} {w w' : World} {nx id : Nat} {x : AV}
theorem OpOk.upd {run : Result Next} {u : Value} {i : Nat} {ob ob' : RObj} {h h' : Value} {F' : Nat → Nat → Prop} (hm : SimM P G F M nx w) (hrun : run = .ok (.value u) w' ∨ (run = .ok .skip w' ∧ u = undef))
  (hi : mlook M i = some ob) (hG : G i = some h) (hk : objKeep h h' ob ob') (hkp : Kept w w')
  (hsz : w.heap.size ≤ w'.heap.size) (hout : ∀ k, k < w.heap.size → blkOf h ≠ some k → w'.heap[k]? = w.heap[k]?)
  (hF1 : ∀ b o, F b o → F' b o) (hF2 : ∀ b o, F b o → w'.cell? ⟨b, o, none⟩ = w.cell? ⟨b, o, none⟩) (hF3 : ∀ b o, F' b o → F b o ∨ (w.heap.size ≤ b ∧ b < w'.heap.size) ∨ blkOf h = some b)
  (hb : ∀ b, blkOf h' = some b → blkOf h = some b ∨ (w.heap.size ≤ b))
  (hob : Step All G F M w (upG G i h') F' (mset M i ob') w' → ObjOk P (upG G i h') F' (mset M i ob') w' i ob')
  (hr : RV (upG G i h') F' (mset M i ob') w' u x) : OpOk P G F M nx w id run x (mset M i ob') := by
 obtain ⟨h1, h2⟩ := simM_upd hm hi hG hk hkp hsz hout hF1 hF2 hF3 hb hob
 exact ⟨u, w', _, F', hrun, h1, h2, hr, fun j hj hn => by
  rw [upG_other G h' (fun e => by rw [e, hG] at hn; cases hn)]; exact hn⟩
theorem kept_setCells (vs : List Value) : ∀ {w : World} {b off : Nat}, Kept w (setCells w b off vs) := by
 induction vs with
 | nil => exact .refl
 | cons v vs ih => exact fun {w b off} => Kept.trans (w' := w.setCell ⟨b, off, none⟩ v) ⟨rfl, rfl, rfl, fun b' es c h => ⟨es, c, by
  simp only [World.setCell, Array.getElem?_modify, h]
  split <;> rfl, List.prefix_refl _⟩⟩ ih
theorem run_storeVar {t : TypeId} {ti : TI} (ht : tinfo P t = some ti) {v : Value} (hv : v.cells.size = ti.size) (h1 : ∀ u ∈ v.cells.toList, u.oneCell' = true) {b off : Nat} {c : Array Value} {e : TypeId}
  (hb : w.heap[b]? = some (.cells c e (0, 0))) (hs : off + ti.size ≤ c.size) : (Instr.storeAt t (.pointer (some ⟨b, off, none⟩)) v).run P w = .ok () (setCells w b off v.cells.toList) := by
 have := run_storeCells' (P := P) b off v.cells.toList 0 hb (by simp; omega) h1
 simp only [Instr.storeAt, Instr.sureAddr, storeVar, Sem.run_bind, Sem.run_pure, Result.andThen_ok, run_sizeOf' ht, hv, ne_eq, not_true_eq_false, Sem.run_ite, if_false, this, Nat.add_zero]
theorem awrite_length (l : List AV) (off : Nat) (cs : List AV) (h : off + cs.length ≤ l.length) : (awrite l off cs).length = l.length := by
 simp [awrite]; omega
theorem awrite_get (l : List AV) (off : Nat) (cs : List AV) (h : off + cs.length ≤ l.length) (k : Nat) : (awrite l off cs)[k]? = if off ≤ k ∧ k < off + cs.length then cs[k - off]? else l[k]? := by
 unfold awrite
 rw [List.append_assoc, List.getElem?_append]
 have hl : (l.take off).length = off := by simp; omega
 rw [hl]
 by_cases h1 : k < off
 ·rw [if_pos h1, if_neg (by omega), List.getElem?_take_of_lt h1]
 ·rw [if_neg h1, List.getElem?_append]
  by_cases h2 : k - off < cs.length
  ·rw [if_pos h2, if_pos (by omega)]
  ·rw [if_neg h2, if_neg (by omega), List.getElem?_drop]
   congr 1; omega
theorem put_rv {c : Array Value} {cs : List AV} {off : Nat} {vs : List Value} {ds : List AV} (hs : c.size = cs.length) (hl : vs.length = ds.length) (h : off + ds.length ≤ cs.length)
  (h1 : ∀ i (h1 : i < c.size) (h2 : i < cs.length), RV G F M w c[i] cs[i]) (h2 : ∀ i (h1 : i < vs.length) (h2 : i < ds.length), RV G F M w vs[i] ds[i]) :
  ∀ i (h1 : i < (putCells c off vs).size) (h2 : i < (awrite cs off ds).length), RV G F M w (putCells c off vs)[i] (awrite cs off ds)[i] := by
 intro i hi hi'
 have e1 := putCells_get vs c off i (by omega)
 have e2 := awrite_get cs off ds h i
 rw [Array.getElem?_eq_getElem hi] at e1
 rw [List.getElem?_eq_getElem hi'] at e2
 rw [hl] at e1
 by_cases hc : off ≤ i ∧ i < off + ds.length
 ·rw [if_pos hc, List.getElem?_eq_getElem (by omega)] at e1
  rw [if_pos hc, List.getElem?_eq_getElem (by omega)] at e2
  rw [Option.some.inj e1, Option.some.inj e2]
  exact h2 _ _ _
 ·rw [awrite_length _ _ _ h] at hi'
  rw [if_neg hc, Array.getElem?_eq_getElem (by omega)] at e1
  rw [if_neg hc, List.getElem?_eq_getElem (by omega)] at e2
  rw [Option.some.inj e1, Option.some.inj e2]
  exact h1 _ _ _
theorem ok_store_rf (hm : SimM P G F M nx w) {t : TypeId} {ti : TI} (ht : tinfo P t = some ti) {v u : Value} {i off : Nat} {cs : List AV} {y : AV} (hv : RV G F M w v (.rf i off)) (ho : mlook M i = some (.cells cs))
  (hu : RV G F M w u y) (h1 : (acells y).length = ti.size) (h2 : off + ti.size ≤ cs.length) (h3 : (acells y).all (acell M) = true) :
  OpOk P G F M nx w id ((do Instr.storeAt t v u; pure Next.skip : Sem Next).run P w) .junk (mset M i (.cells (awrite cs off (acells y)))) := by
 obtain ⟨b, hG, rfl⟩ := hv.inv_rf
 obtain ⟨c, e, hb, hs, hc, hF⟩ := cells_of hm hG ho
 obtain ⟨k1, k2, k3⟩ := hu.cells hm h3
 have hst := run_storeVar (w := w) ht (by omega) k3 hb (off := off) (by omega)
 refine OpOk.upd (u := undef) (w' := setCells w b off u.cells.toList) (F' := F) hm (.inr ⟨run_u hst, rfl⟩) ho hG rfl (kept_setCells _) (by rw [setCells_size]; exact Nat.le_refl _)
  (fun k hk hne => setCells_other _ (fun e => hne (by rw [e]; rfl))) (fun _ _ h => h) (fun b' o h => cell?_same (setCells_other _ (fun e => hF o (by rw [← e]; exact h))) o) (fun _ _ h => .inl h) (fun b' hb' => .inl hb') (fun S => ?_) (.imm (.junk _))
 refine ⟨b, putCells c off u.cells.toList, e, upG_self _ _ _, setCells_block _ hb, by rw [putCells_size, awrite_length _ _ _ (by omega)]; exact hs, fun j h1 h2 => ?_, hF⟩
 refine RV.step (G := G) (F := F) (M := M) (w := w) ?_ S (fun _ _ => trivial)
 exact put_rv hs (by simpa using k1) (by omega) hc (fun i a b => by simpa using k2 i (by simpa using a) b) j h1 h2
theorem ok_store_ea (hm : SimM P G F M nx w) {t : TypeId} {ti : TI} (ht : tinfo P t = some ti) {v u : Value} {i n k off esz : Nat} {es : List (List AV)} {c : List AV} {y : AV} (hv : RV G F M w v (.ea i n k off)) (ho : mlook M i = some (.arr esz es false))
  (hk : es[k]? = some c) (hn : n = es.length) (hu : RV G F M w u y) (h1 : (acells y).length = ti.size) (h2 : off + ti.size ≤ c.length) (h3 : (acells y).all (acell M) = true) :
  OpOk P G F M nx w id ((do Instr.storeAt t v u; pure Next.skip : Sem Next).run P w) .junk (mset M i (.arr esz (es.set k (awrite c off (acells y))) false)) := by
 obtain ⟨_, hh⟩ := hv.inv_ea
 obtain ⟨_, b, ko, c', hG, hc0, rfl⟩ := (hh _ _ _ ho).2 hn
 obtain ⟨_, cc, e, hb, hc, hs, hes, hrv, hF, _⟩ := arr_of hm hG hc0 ho
 obtain ⟨hkl, rfl⟩ := List.getElem?_eq_some_iff.1 hk
 have hel := hes k hkl
 obtain ⟨k1, k2, k3⟩ := hu.cells hm h3
 have hF' : ∀ o, ¬ F b o := fun o h => by simpa using (hF o h).1
 have hlt : ko + (k * esz + esz) ≤ cc.size := by
  rw [hs]
  refine Nat.add_le_add_left ?_ _
  calc k * esz + esz = (k + 1) * esz := by rw [Nat.add_mul, Nat.one_mul]
   _ ≤ c' * esz := Nat.mul_le_mul_right _ (by omega)
 have hst := run_storeVar (w := w) ht (by omega) k3 hb (off := ko + (k * esz + off)) (by omega)
 refine OpOk.upd (u := undef) (w' := setCells w b (ko + (k * esz + off)) u.cells.toList) (F' := F) hm (.inr ⟨run_u hst, rfl⟩) ho hG ⟨rfl, .inl ⟨by simp, rfl⟩⟩ (kept_setCells _) (by rw [setCells_size]; exact Nat.le_refl _)
  (fun k hk hne => setCells_other _ (fun e => hne (by rw [e]; simp [blkOf, hc0]))) (fun _ _ h => h) (fun b' o h => cell?_same (setCells_other _ (fun e => hF' o (by rw [← e]; exact h))) o) (fun _ _ h => .inl h) (fun b' hb' => .inl hb') (fun S => ?_) (.imm (.junk _))
 have T : ∀ {v x}, RV G F M w v x → RV _ _ _ _ v x := fun h => h.step S (fun _ _ => trivial)
 refine .inr ⟨b, ko, c', putCells cc (ko + (k * esz + off)) u.cells.toList, e, by rw [upG_self]; simp [hn], hc0, setCells_block _ hb, by simpa using hc, by rw [putCells_size]; exact hs, fun j hj => ?_, fun j l hj hl => ?_, fun o h => absurd h (hF' o), fun h => by cases h⟩
 ·simp only [List.length_set] at hj
  rw [List.getElem_set]
  split
  ·rw [awrite_length _ _ _ (by omega)]; exact hel
  ·exact hes j hj
 ·simp only [List.length_set] at hj
  have e1 := putCells_get u.cells.toList cc (ko + (k * esz + off)) (ko + (j * esz + l)) (by simp; omega)
  rw [List.getElem_set] at hl
  by_cases hjk : k = j
  ·subst hjk
   simp only [if_true] at hl
   rw [awrite_length _ _ _ (by omega)] at hl
   simp only [List.getElem_set_self]
   have e2 := awrite_get es[k] off (acells y) (by omega) l
   rw [List.getElem?_eq_getElem (by rw [awrite_length _ _ _ (by omega)]; exact hl)] at e2
   by_cases hin : off ≤ l ∧ l < off + (acells y).length
   ·rw [if_pos (by simp; omega)] at e1
    rw [if_pos hin, List.getElem?_eq_getElem (by omega)] at e2
    rw [Option.some.inj e2, e1]
    have : ko + (k * esz + l) - (ko + (k * esz + off)) = l - off := by omega
    rw [this, List.getElem?_eq_getElem (by simp; omega)]
    exact ⟨_, rfl, k3 _ (List.getElem_mem _), T (by simpa using k2 (l - off) (by omega) (by omega))⟩
   ·rw [if_neg (by simp; omega)] at e1
    rw [if_neg hin, List.getElem?_eq_getElem hl] at e2
    rw [Option.some.inj e2, e1]
    obtain ⟨v, hv, h1, hr⟩ := hrv k l hkl hl
    exact ⟨v, hv, h1, T hr⟩
  ·simp only [hjk, if_false] at hl
   simp only [List.getElem_set, hjk, if_false]
   have hel' := hes j hj
   rw [if_neg (by
    simp only [Array.length_toList]
    intro hcon
    rcases Nat.lt_or_gt_of_ne hjk with h | h
    ·have : (k + 1) * esz ≤ j * esz := Nat.mul_le_mul_right _ h
     rw [Nat.add_mul] at this; omega
    ·have : (j + 1) * esz ≤ k * esz := Nat.mul_le_mul_right _ h
     rw [Nat.add_mul] at this; omega)] at e1
   rw [e1]
   obtain ⟨v, hv, h1, hr⟩ := hrv j l hj hl
   exact ⟨v, hv, h1, T hr⟩
end
theorem fold_put_list (vs : List Value) : ∀ (k off : Nat) (c : Array Value), (vs.zipIdx k).foldl (fun cs (x : Value × Nat) => cs.setIfInBounds (off + x.2) x.1) c = putCells c (off + k) vs := by
 induction vs with
 | nil => intro k off c; rfl
 | cons v vs ih => intro k off c; simp only [List.zipIdx_cons, List.foldl_cons, putCells]; rw [ih, Nat.add_assoc]
theorem fold_put (vs : Array Value) (off : Nat) (c : Array Value) : vs.zipIdx.foldl (fun cs (x : Value × Nat) => cs.setIfInBounds (off + x.2) x.1) c = putCells c off vs.toList := by
 rw [← Array.foldl_toList, Array.toList_zipIdx, fold_put_list]; simp
section
variable {P : Program} {G : Nat → Option Value} {F : Nat → Nat → Prop} {M : Mem} {w w' : World} {nx id : Nat} {x : AV}
theorem fill_cons (place : Nat → Option (Nat × Nat)) (cells : Array Value) (i : Nat) (v : Value) (r : List (Nat × Value)) (off size : Nat) (h : place i = some (off, size)) (h1 : v.cells.size = size) (h2 : off + size ≤ cells.size) :
  Instr.fill place cells ((i, v) :: r) = Instr.fill place (putCells cells off v.cells.toList) r := by
 have e := fold_put v.cells off cells
 simp only [Instr.fill, h, h1, ne_eq, not_true_eq_false, decide_false, Bool.false_or, decide_eq_true_eq]
 rw [if_neg (by omega), ← e]
theorem fill_rv (hm : SimM P G F M nx w) (place : Nat → Option (Nat × Nat)) : ∀ (ps : List (Nat × Value)) (qs : List (Nat × AV)) (c : Array Value) (cs cs' : List AV), ps.length = qs.length →
  (∀ i (h1 : i < ps.length) (h2 : i < qs.length), ps[i].1 = qs[i].1 ∧ RV G F M w ps[i].2 qs[i].2) → c.size = cs.length → (∀ i (h1 : i < c.size) (h2 : i < cs.length), RV G F M w c[i] cs[i]) →
  fillAV M place cs qs = some cs' → ∃ c', Instr.fill place c ps = some c' ∧ c'.size = cs'.length ∧ ∀ i (h1 : i < c'.size) (h2 : i < cs'.length), RV G F M w c'[i] cs'[i]
 | [], [], c, cs, cs', _, _, hs, hc, h => by
   simp only [fillAV, Option.some.injEq] at h; subst h
   exact ⟨c, rfl, hs, hc⟩
 | (i, v) :: ps, (j, y) :: qs, c, cs, cs', hl, hp, hs, hc, h => by
   obtain ⟨rfl, hv⟩ := hp 0 (by simp) (by simp)
   simp only [List.getElem_cons_zero] at hv
   simp only [fillAV] at h
   split at h
   ·cases h
   ·rename_i off size hpl
    split at h
    ·rename_i hcond
     obtain ⟨h1, h2, h3⟩ := hcond
     obtain ⟨k1, k2, k3⟩ := hv.cells hm h3
     have hpl' : place i = some (off, size) := hpl
     rw [fill_cons place c i v ps off size hpl' (by omega) (by omega)]
     refine fill_rv hm place ps qs _ _ cs' (by simpa using hl) (fun i h1 h2 => hp (i + 1) (by simpa using h1) (by simpa using h2)) (by rw [putCells_size, awrite_length _ _ _ (by omega)]; exact hs) ?_ h
     exact put_rv hs (by simpa using k1) (by omega) hc (fun i a b => by simpa using k2 i (by simpa using a) b)
    ·cases h
 | [], _ :: _, _, _, _, hl, _, _, _, _ => by simp at hl
 | _ :: _, [], _, _, _, hl, _, _, _, _ => by simp at hl
theorem run_mapM_list {α β : Type} {f : α → Sem β} {g : α → β} {w : World} : ∀ (l : List α), (∀ x ∈ l, (f x).run P w = .ok (g x) w) → (l.mapM f).run P w = .ok (l.map g) w
 | [], _ => by simp
 | x :: l, h => by
   simp only [List.mapM_cons, Sem.run_bind, h x (by simp), Result.andThen_ok, run_mapM_list l (fun y hy => h y (by simp [hy])), Sem.run_pure, List.map_cons]
theorem run_mapM {α β : Type} {f : α → Sem β} {g : α → β} {w : World} (l : Array α) (h : ∀ x ∈ l, (f x).run P w = .ok (g x) w) : (l.mapM f).run P w = .ok (l.map g) w := by
 rw [Array.mapM_eq_mapM_toList, Sem.run_map, run_mapM_list l.toList (fun x hx => h x (by simpa using hx)), Result.andThen_ok, ← Array.toList_map]
theorem ok_build (hm : SimM P G F M nx w) {t : TypeId} {ti : TI} (ht : tinfo P t = some ti) (ps : Array (Nat × Value)) (qs : List (Nat × AV)) (hl : ps.size = qs.length)
  (hp : ∀ i (h1 : i < ps.size) (h2 : i < qs.length), ps[i].1 = qs[i].1 ∧ RV G F M w ps[i].2 qs[i].2) {cs : List AV} (hf : fillAV M (placeOf P t) (zeroOf ti) qs = some cs) (hb : tbuild P t = true) : ∃ u, (Instr.build t ps).run P w = .ok u w ∧ RV G F M w u (.ag cs) := by
 obtain ⟨z, hz, hzc⟩ := run_zero' (w := w) ht
 have hz0 : z.cells.size = (zeroOf ti).length := by simp [zeroOf, ← hzc]
 obtain ⟨c', h1, h2, h3⟩ := fill_rv hm (placeOf P t) ps.toList qs z.cells (zeroOf ti) cs (by simpa using hl) (fun i h1 h2 => by simpa using hp i (by simpa using h1) h2) hz0 (fun i h1 h2 => by
  have := Imm.zero (F := F) (w := w) (ti := ti) i (by simp [← hzc]; exact h1) h2
  simp only [← hzc, Array.getElem_toList] at this
  exact .imm this) hf
 have hkind' : (∃ fs, P.underlying t = some (.struct fs) ∧ (fs.all fun f => (P.info? f.type).isSome) = true) ∨ (∃ n e, P.underlying t = some (.array n e) ∧ (P.info? e).isSome = true) := by
  unfold tbuild at hb
  split at hb
  ·rename_i fs hfs; exact .inl ⟨fs, hfs, hb⟩
  ·rename_i n e hne; exact .inr ⟨n, e, hne, hb⟩
  ·cases hb
 refine ⟨.agg c', ?_, ?_⟩
 ·rcases hkind' with ⟨fs, hu, ha⟩ | ⟨n, e, hu, ha⟩
  ·have hmap : (fs.mapM fun f => do pure (f.offset, ← sizeOf f.type) : Sem _).run P w = .ok (fs.map fun f => (f.offset, P.cellsOf f.type)) w := by
     refine run_mapM fs fun f hf => ?_
     rw [Array.all_eq_true'] at ha
     have := ha f hf
     obtain ⟨i, hi⟩ := Option.isSome_iff_exists.1 this
     simp [sizeOf_any hi]
   have hpl : (fun i => (fs.map fun f => (f.offset, P.cellsOf f.type))[i]?) = placeOf P t := by
    funext i
    simp [placeOf, hu, ha]
   simp only [Instr.build, Sem.run_bind, hz, Result.andThen_ok, run_under hu, hmap]
   rw [hpl, h1]
   rfl
  ·obtain ⟨i, hi⟩ := Option.isSome_iff_exists.1 ha
   have hpl : (fun i => some (i * P.cellsOf e, P.cellsOf e)) = placeOf P t := by
    funext i
    simp [placeOf, hu, ha]
   simp only [Instr.build, Sem.run_bind, hz, Result.andThen_ok, run_under hu, sizeOf_any hi]
   rw [hpl, h1]
   rfl
 ·have := RV.ag (G := G) (F := F) (M := M) (w := w) c'.toList cs (by simpa using h2) (fun i h1 h2 => by simpa using h3 i (by simpa using h1) h2)
  simpa using this
end
theorem growBy_le (need : Nat) (h : 256 ≤ need) : ∀ r c, c ≤ 2 * need → Builtin.growBy need r c ≤ 2 * need
 | 0, c, hc => by simpa [Builtin.growBy] using hc
 | r + 1, c, hc => by
   unfold Builtin.growBy
   split
   ·exact hc
   ·exact growBy_le need h r _ (by omega)
theorem nextcap_le {need c : Nat} (h : c < need) : Builtin.nextslicecap need c ≤ 2 * need := by
 unfold Builtin.nextslicecap
 split
 ·omega
 ·split
  ·omega
  ·exact growBy_le need (by omega) 4 c (by omega)
section
variable {P : Program} {G : Nat → Option Value} {F : Nat → Nat → Prop} {M : Mem} {w w' : World} {nx id : Nat} {x : AV}
mutual
theorem norefs_get : ∀ (cs : List AV), AV.norefs cs = true → ∀ i (h : i < cs.length), cs[i].noref = true
 | [], _, i, h => by simp at h
 | c :: cs, hn, i, h => by
   simp only [AV.norefs, Bool.and_eq_true] at hn
   cases i with
   | zero => exact hn.1
   | succ i => exact norefs_get cs hn.2 i (by simpa using h)
end
theorem RV.imm_of {v : Value} {y : AV} (h : RV G F M w v y) (hn : y.noref = true) : Imm F w v y := by
 induction h with
 | imm h => exact h
 | ag vs cs hl _ ih => exact .ag vs cs hl fun i h1 h2 => ih i h1 h2 (norefs_get cs (by simpa [AV.noref] using hn) i h2)
 | tu vs cs hl _ ih => exact .tu vs cs hl fun i h1 h2 => ih i h1 h2 (norefs_get cs (by simpa [AV.noref] using hn) i h2)
 | ifc t v x _ ih => exact .ifc t v x (ih (by simpa [AV.noref] using hn))
 | fn f vs cs hl _ ih => exact .fn f vs cs hl fun i h1 h2 => ih i h1 h2 (norefs_get cs (by simpa [AV.noref] using hn) i h2)
 | opt b v x _ h' ih => exact .opt b v x (fun hb => ih hb (by simpa [AV.noref] using hn)) h'
 | _ => simp [AV.noref] at hn
def EsRel (G : Nat → Option Value) (F : Nat → Nat → Prop) (M : Mem) (w : World) (size : Nat) (c : List Value) (es : List (List AV)) : Prop :=
 c.length = es.length * size ∧ (∀ i (h : i < es.length), es[i].length = size) ∧ ∀ i j (h : i < es.length) (h' : j < es[i].length), ∃ v, c[i * size + j]? = some v ∧ v.oneCell' = true ∧ RV G F M w v es[i][j]
theorem row_lt {i n size j : Nat} (h : i < n) (hj : j < size) : i * size + j < n * size := by
 have : (i + 1) * size ≤ n * size := Nat.mul_le_mul_right _ h
 rw [Nat.add_mul] at this; omega
theorem row_end {i n size : Nat} (h : i < n) : i * size + size ≤ n * size := by
 have : (i + 1) * size ≤ n * size := Nat.mul_le_mul_right _ h
 rw [Nat.add_mul] at this; omega
theorem EsRel.append {size : Nat} {c d : List Value} {es ys : List (List AV)} (h : EsRel G F M w size c es) (k : EsRel G F M w size d ys) : EsRel G F M w size (c ++ d) (es ++ ys) := by
 obtain ⟨h1, h2, h3⟩ := h
 obtain ⟨k1, k2, k3⟩ := k
 refine ⟨by simp [h1, k1, Nat.add_mul], fun i hi => ?_, fun i j hi hj => ?_⟩
 ·rw [List.getElem_append]
  split
  ·exact h2 _ _
  ·exact k2 _ _
 ·by_cases hlt : i < es.length
  ·rw [List.getElem_append_left hlt] at hj
   obtain ⟨v, hv, h1c, hr⟩ := h3 i j hlt hj
   refine ⟨v, ?_, h1c, ?_⟩
   ·rw [List.getElem?_append_left (by rw [h1]; exact row_lt hlt (by rw [h2 i hlt] at hj; exact hj))]; exact hv
   ·simp only [List.getElem_append_left hlt]; exact hr
  ·have hi' : i - es.length < ys.length := by simp at hi; omega
   have e0 : (es ++ ys)[i] = ys[i - es.length] := List.getElem_append_right (by omega)
   have hj' : j < ys[i - es.length].length := by rw [← e0]; exact hj
   obtain ⟨v, hv, h1c, hr⟩ := k3 (i - es.length) j hi' hj'
   refine ⟨v, ?_, h1c, ?_⟩
   ·have hge : es.length * size ≤ i * size := Nat.mul_le_mul_right _ (by omega)
    rw [List.getElem?_append_right (by rw [h1]; omega), h1]
    have : i * size + j - es.length * size = (i - es.length) * size + j := by rw [Nat.sub_mul]; omega
    rw [this]; exact hv
   ·simp only [e0]; exact hr
theorem EsRel.step {size : Nat} {c : List Value} {es : List (List AV)} {G' : Nat → Option Value} {F' : Nat → Nat → Prop} {M' : Mem} (h : EsRel G F M w size c es) (S : Step All G F M w G' F' M' w') : EsRel G' F' M' w' size c es :=
 ⟨h.1, h.2.1, fun i j a b => by obtain ⟨v, hv, h1, hr⟩ := h.2.2 i j a b; exact ⟨v, hv, h1, hr.step S (fun _ _ => trivial)⟩⟩
theorem elems_cells (hm : SimM P G F M nx w) {v : Value} {y : AV} {ys : List (List AV)} {size : Nat} (hv : RV G F M w v y) (he : elemsOf M y = some ys) (hs : ∀ i (h : i < ys.length), ys[i].length = size) :
  (∃ a n c, v = .slice a n c) ∧ (Builtin.lenOf v).run P w = .ok ys.length w ∧ ∃ c : List Value, (Builtin.firstCells size ys.length v).run P w = .ok c.toArray w ∧ EsRel G F M w size c ys := by
 unfold elemsOf at he
 split at he
 ·rename_i nl es cap
  cases he
  cases hv.inv_sl with
  | nil _ _ => exact ⟨⟨_, _, _, rfl⟩, rfl, [], by simp [Builtin.firstCells], by simp, by simp, by simp⟩
  | sz a _ _ => exact ⟨⟨_, _, _, rfl⟩, rfl, [], by simp [Builtin.firstCells, loadCells, loadCellsFrom], by simp, by simp, by simp⟩
  | sl b off c esz _ _ vs hc hcap hes hF hi =>
    refine ⟨⟨_, _, _, rfl⟩, rfl, (List.range (ys.length * size)).map fun k => vs (k / size) (k % size), ?_, ?_⟩
    ·have hcell : ∀ j (hj : j < ((List.range (ys.length * size)).map fun k => vs (k / size) (k % size)).length), w.cell? ⟨b, off + j, none⟩ = some ((List.range (ys.length * size)).map fun k => vs (k / size) (k % size))[j] := by
       intro j hj
       simp only [List.length_map, List.length_range] at hj
       simp only [List.getElem_map, List.getElem_range]
       have hsz : 0 < size := by
        rcases Nat.eq_zero_or_pos size with h | h
        ·subst h; simp at hj
        ·exact h
       have h1 : j / size < ys.length := Nat.div_lt_of_lt_mul (by rw [Nat.mul_comm]; exact hj)
       have h2 : j % size < size := Nat.mod_lt _ hsz
       have e : esz = size := (hes _ h1).symm.trans (hs _ h1)
       subst e
       have := (hF (j / esz) (j % esz) h1 h2).2.1
       rw [← this]
       have hd := Nat.div_add_mod j esz
       rw [Nat.mul_comm] at hd
       congr 2; omega
     have := run_loadCells' (P := P) b off _ hcell
     simp only [List.length_map, List.length_range] at this
     simpa [Builtin.firstCells] using this
    ·have hj0 : ∀ i j (h : i < ys.length), j < ys[i].length → j < esz := fun i j h h' => by rw [hes i h] at h'; exact h'
     refine ⟨by simp, hs, fun i j h h' => ⟨vs i j, ?_, (hF i j h (hj0 i j h h')).2.2, .imm (hi i j h h')⟩⟩
     have hj : j < size := by rw [hs i h] at h'; exact h'
     rw [List.getElem?_map, List.getElem?_range (row_lt h hj)]
     simp only [Option.map_some, Option.some.injEq]
     have h1 : (i * size + j) / size = i := by
      rw [Nat.mul_comm, Nat.mul_add_div (by omega), Nat.div_eq_of_lt hj]; omega
     have h2 : (i * size + j) % size = j := by
      rw [Nat.mul_comm, Nat.mul_add_mod, Nat.mod_eq_of_lt hj]
     rw [h1, h2]
 ·rename_i i n nl
  split at he
  ·rename_i esz es fz ho
   split at he
   ·rename_i hn
    cases he
    obtain ⟨_, hh⟩ := hv.inv_tl
    obtain ⟨hG, _⟩ := (hh _ _ _ ho).2 hn
    rcases (hm.obj i _ ho).2 with ⟨h0, base, h1, _⟩ | ⟨b, ko, c, cc, e, h1, h2, h3, h4, h5, h6, h7, h8, _⟩
    ·rw [hG] at h1; cases h1; subst h0
     refine ⟨⟨_, _, _, rfl⟩, rfl, [], ?_, by simp, by simp, by simp⟩
     cases base <;> simp [Builtin.firstCells, loadCells, loadCellsFrom]
    ·rw [hG] at h1; cases h1
     have hle : ko + ys.length * size ≤ cc.size := by
      rcases Nat.eq_zero_or_pos ys.length with h | h
      ·rw [h, Nat.zero_mul, h5]; exact Nat.le_add_right _ _
      ·have e : esz = size := (h6 0 h).symm.trans (hs 0 h)
       subst e; rw [h5]; exact Nat.add_le_add_left (Nat.mul_le_mul_right _ h4) _
     have hl : ((cc.toList.drop ko).take (ys.length * size)).length = ys.length * size := by simp; omega
     refine ⟨⟨_, _, _, rfl⟩, rfl, (cc.toList.drop ko).take (ys.length * size), ?_, ?_⟩
     ·have := run_loadCells' (P := P) (w := w) b ko ((cc.toList.drop ko).take (ys.length * size)) (fun j hj => by
        rw [cell?_block h3]
        simp only [List.getElem_take, List.getElem_drop, Array.getElem_toList]
        rw [Array.getElem?_eq_getElem])
      rw [hl] at this
      simpa [Builtin.firstCells] using this
     ·refine ⟨hl, hs, fun i j h h' => ?_⟩
      obtain ⟨v, hv, h1c, hr⟩ := h7 i j h h'
      have e : esz = size := (h6 i h).symm.trans (hs i h)
      subst e
      refine ⟨v, ?_, h1c, hr⟩
      rw [List.getElem?_take_of_lt (row_lt h (by rw [h6 i h] at h'; exact h')), List.getElem?_drop]
      simpa using hv
   ·cases he
  ·cases he
 ·rename_i i n off len cap
  split at he
  ·rename_i esz es fz ho
   split at he
   ·rename_i hn
    cases he
    obtain ⟨_, hh⟩ := hv.inv_tv
    obtain ⟨hol, b, ko, c, hG, hc0, c', rfl, hlc, _⟩ := (hh _ _ _ ho).2 hn
    rcases hc0 with hc0 | ⟨hc0, _, hc1⟩
    rotate_left
    ·simp only [Value.slice.injEq] at hc1
     obtain ⟨_, rfl, rfl⟩ := hc1
     have : es = [] := List.length_eq_zero_iff.1 (by omega)
     subst this
     refine ⟨⟨_, _, _, rfl⟩, by simp [Builtin.lenOf], [], ?_, by simp, by simp, by simp⟩
     simp [Builtin.firstCells, loadCells, loadCellsFrom]
    obtain ⟨_, cc, e, hb, hc, hsz, hes, hrv, hF, _⟩ := arr_of hm hG hc0 ho
    have hlen : ((es.drop off).take len).length = len := by simp; omega
    have hget : ∀ i (h : i < ((es.drop off).take len).length), ((es.drop off).take len)[i] = es[off + i]'(by simp at h; omega) := fun i h => by simp
    have hle : ko + off * esz + ((es.drop off).take len).length * size ≤ cc.size := by
     rw [hlen, Nat.add_assoc, hsz]
     refine Nat.add_le_add_left ?_ _
     rcases Nat.eq_zero_or_pos len with h | h
     ·subst h
      rw [Nat.zero_mul]; exact Nat.mul_le_mul_right _ (by omega)
     ·have e : esz = size := by
        rw [← hs 0 (by omega), hget 0 (by omega)]
        exact (hes _ _).symm
      subst e
      rw [← Nat.add_mul]; exact Nat.mul_le_mul_right _ (by omega)
    have hl : ((cc.toList.drop (ko + off * esz)).take (((es.drop off).take len).length * size)).length = ((es.drop off).take len).length * size := by simp at hle ⊢; omega
    refine ⟨⟨_, _, _, rfl⟩, by simp [Builtin.lenOf, hlen], (cc.toList.drop (ko + off * esz)).take (((es.drop off).take len).length * size), ?_, ?_⟩
    ·have := run_loadCells' (P := P) (w := w) b (ko + off * esz) ((cc.toList.drop (ko + off * esz)).take (((es.drop off).take len).length * size)) (fun j hj => by
       rw [cell?_block hb]
       simp only [List.getElem_take, List.getElem_drop, Array.getElem_toList]
       rw [Array.getElem?_eq_getElem])
     rw [hl] at this
     simpa [Builtin.firstCells] using this
    ·refine ⟨hl, hs, fun i j h h' => ?_⟩
     simp only [hget i h] at h' ⊢
     obtain ⟨v, hv, h1c, hr⟩ := hrv (off + i) j _ h'
     have e : esz = size := by
      rw [← hs i h, hget i h]; exact (hes _ _).symm
     subst e
     refine ⟨v, ?_, h1c, hr⟩
     rw [List.getElem?_take_of_lt (row_lt h (by rw [hes] at h'; exact h')), List.getElem?_drop]
     rw [Nat.add_mul, Nat.add_assoc, ← Nat.add_assoc] at hv
     simpa using hv
   ·cases he
  ·cases he
 ·cases he
end
section
variable {P : Program} {G : Nat → Option Value} {F : Nat → Nat → Prop} {M : Mem} {w w' : World} {nx id : Nat} {x : AV}
theorem simM_nil (hm : SimM P G F M nx w) (hid : G id = none) (hn : id < nx) (h : Value) (ob : RObj) (hb : blkOf h = none)
  (S' : Step All G F M w (upG G id h) F ((id, ob) :: M) w → ObjOk P (upG G id h) F ((id, ob) :: M) w id ob) :
  SimM P (upG G id h) F ((id, ob) :: M) nx w ∧ Step All G F M w (upG G id h) F ((id, ob) :: M) w := by
 have hne : ∀ j, G j ≠ none → j ≠ id := fun j hj e => hj (e ▸ hid)
 have S : Step All G F M w (upG G id h) F ((id, ob) :: M) w :=
  { kept := .refl
    size := Nat.le_refl _
    out := fun b hb _ => rfl
    F1 := fun _ _ h => h
    F2 := fun b o' hF => rfl
    F3 := fun _ _ h => .inl h
    own := fun b ⟨j, o', v, ho, hv, hbv⟩ => by
     by_cases e : j = id
     ·subst e
      rw [upG_self] at hv; cases hv
      rw [hb] at hbv; cases hbv
     ·rw [mlook_cons, if_neg e] at ho
      rw [upG_other G h e] at hv
      exact .inr ⟨j, o', v, ho, hv, hbv⟩
    some' := fun j _ hj => by rw [upG_other G h (hne j hj)]; exact hj
    same := fun j v _ hj _ => by rw [upG_other G h (hne j (by simp [hj]))]; exact hj
    keep := fun j o' _ hj ho => by
     have e := hne j hj
     rw [mlook_cons, if_neg e] at ho
     cases hv : G j with
     | none => exact absurd hv hj
     | some v => exact ⟨o', v, v, ho, rfl, by rw [upG_other G h e]; exact hv, objKeep.refl v o'⟩ }
 refine ⟨simM_gen hm S (fun j o' ho => ?_) (fun i j v v' b hi hj hv hv' hbv hbv' => ?_) hm.inF, S⟩
 ·by_cases e : j = id
  ·subst e
   rw [mlook_cons, if_pos rfl] at ho; cases ho
   exact ⟨hn, .inl (S' S)⟩
  ·rw [mlook_cons, if_neg e] at ho
   exact ⟨(hm.obj j o' ho).1, .inr ⟨ho, upG_other G h e, fun b v hv hbv => ⟨rfl, fun _ h => h⟩⟩⟩
 ·have old : ∀ j v, j ≠ id → mlook ((id, ob) :: M) j ≠ none → upG G id h j = some v → mlook M j ≠ none ∧ G j = some v := fun j v e h1 h2 =>
    ⟨by rwa [mlook_cons, if_neg e] at h1, by rwa [upG_other G h e] at h2⟩
  by_cases ei : i = id
  ·subst ei
   rw [upG_self] at hv; cases hv
   rw [hb] at hbv; cases hbv
  ·by_cases ej : j = id
   ·subst ej
    rw [upG_self] at hv'; cases hv'
    rw [hb] at hbv'; cases hbv'
   ·obtain ⟨h1, h2⟩ := old i v ei hi hv
    obtain ⟨h3, h4⟩ := old j v' ej hj hv'
    exact hm.inj i j v v' b h1 h3 h2 h4 hbv hbv'
theorem OpOk.newNil {run : Result Next} {h : Value} {ob : RObj} (hm : SimM P G F M nx w) (hid : G id = none) (hn : id < nx) (hrun : run = .ok (.value h) w)
  (hb : blkOf h = none)
  (S' : Step All G F M w (upG G id h) F ((id, ob) :: M) w → ObjOk P (upG G id h) F ((id, ob) :: M) w id ob)
  (hr : RV (upG G id h) F ((id, ob) :: M) w h x) : OpOk P G F M nx w id run x ((id, ob) :: M) := by
 obtain ⟨h1, h2⟩ := simM_nil hm hid hn h ob hb S'
 exact ⟨h, _, _, _, .inl hrun, h1, h2, hr, fun j hj hG => by rw [upG_other G h hj]; exact hG⟩
theorem OpOk.drew {run : Result Next} {M' : Mem} {w1 : World} (hm : SimM P G F M nx w) (hh : w1.heap = w.heap) (h : OpOk P G F M nx w1 id run x M') (hkp : Kept w w1 := by exact ⟨rfl, rfl, rfl, fun _ es c h => ⟨es, c, h, List.prefix_refl _⟩⟩) : OpOk P G F M nx w id run x M' := by
 obtain ⟨u, w', G', F', h1, h2, h3, h4, h5⟩ := h
 exact ⟨u, w', G', F', h1, h2, (simM_drew hm hh hkp).2.trans h3, h4, h5⟩
theorem ok_nil (hm : SimM P G F M nx w) (hid : G id = none) (hn : id < nx) {esz : Nat} {run : Result Next} (hrun : run = .ok (.value (.slice none 0 0)) w) :
  OpOk P G F M nx w id run (.tl id 0 true) ((id, .arr esz [] true) :: M) :=
 OpOk.newNil hm hid hn hrun rfl (fun _ => .inl ⟨rfl, none, upG_self _ _ _, fun a h => by cases h⟩)
  (.tl id 0 true _ (by simp [upG_self]) (fun esz' es fz ho => by
   rw [mlook_cons, if_pos rfl] at ho; cases ho
   exact ⟨Nat.le_refl _, fun _ => ⟨upG_self _ _ _, rfl⟩⟩))
theorem fillEs_rv (hm : SimM P G F M nx w) {size n : Nat} : ∀ (ps : List (Nat × Value)) (qs : List (Nat × AV)) (c : Array Value) (es es' : List (List AV)), ps.length = qs.length →
  (∀ i (h1 : i < ps.length) (h2 : i < qs.length), ps[i].1 = qs[i].1 ∧ RV G F M w ps[i].2 qs[i].2) → es.length = n → EsRel G F M w size c.toList es →
  fillEs M size es qs = some es' → ∃ c', Instr.fill (fun i => some (i * size, size)) c ps = some c' ∧ es'.length = n ∧ EsRel G F M w size c'.toList es'
 | [], [], c, es, es', _, _, hn, hc, h => by
   simp only [fillEs, Option.some.injEq] at h; subst h
   exact ⟨c, rfl, hn, hc⟩
 | (i, v) :: ps, (j, y) :: qs, c, es, es', hl, hp, hn, hc, h => by
   have hp0 := hp 0 (by simp) (by simp)
   simp only [List.getElem_cons_zero] at hp0
   obtain ⟨hij, hv⟩ := hp0
   subst hij
   simp only [fillEs] at h
   split at h
   ·rename_i hcond
    obtain ⟨h1, h2, h3⟩ := hcond
    obtain ⟨k1, k2, k3⟩ := hv.cells hm h3
    obtain ⟨c1, c2, c3⟩ := hc
    have hsz : i * size + size ≤ c.size := by
     have := row_end (size := size) h2
     simp at c1; omega
    rw [fill_cons _ c i v ps (i * size) size rfl (by omega) (by omega)]
    refine fillEs_rv hm ps qs _ _ es' (by simpa using hl) (fun i h1 h2 => hp (i + 1) (by simpa using h1) (by simpa using h2)) (by simpa using hn) ⟨?_, ?_, ?_⟩ h
    ·simp [putCells_size]; simpa using c1
    ·intro k hk
     rw [List.getElem_set]
     split
     ·exact h1
     ·exact c2 _ _
    ·intro k l hk hl'
     simp only [List.length_set] at hk
     have e1 := putCells_get v.cells.toList c (i * size) (k * size + l) (by simp; omega)
     rw [Array.getElem?_toList, e1]
     rw [List.getElem_set] at hl'
     by_cases hik : i = k
     ·subst hik
      simp only [if_true] at hl'
      simp only [List.getElem_set_self]
      rw [if_pos (by simp; omega)]
      have : i * size + l - i * size = l := by omega
      rw [this, List.getElem?_eq_getElem (by simp; omega)]
      exact ⟨_, rfl, k3 _ (List.getElem_mem _), by simpa using k2 l (by omega) hl'⟩
     ·simp only [hik, if_false] at hl'
      simp only [List.getElem_set, hik, if_false]
      have hll : l < size := by rw [c2 k hk] at hl'; exact hl'
      rw [if_neg (by
       simp only [Array.length_toList]
       intro hcon
       rcases Nat.lt_or_gt_of_ne hik with h | h
       ·have : (i + 1) * size ≤ k * size := Nat.mul_le_mul_right _ h
        rw [Nat.add_mul] at this; omega
       ·have : (k + 1) * size ≤ i * size := Nat.mul_le_mul_right _ h
        rw [Nat.add_mul] at this; omega)]
      obtain ⟨u, hu, h1c, hr⟩ := c3 k l hk hl'
      exact ⟨u, by simpa using hu, h1c, hr⟩
   ·cases h
 | [], _ :: _, _, _, _, hl, _, _, _, _ => by simp at hl
 | _ :: _, [], _, _, _, hl, _, _, _, _ => by simp at hl
theorem mod_row {i size j : Nat} (hj : j < size) : (i * size + j) % size = j := by
 rw [Nat.mul_comm, Nat.mul_add_mod, Nat.mod_eq_of_lt hj]
theorem zeros_rel {ti : TI} (n : Nat) (hz : ti.zero.length = ti.size) (z : Array Value) (hzz : z.toList = ti.zero) (hone : (ti.zero.all Value.oneCell') = true) :
  EsRel G F M w ti.size ((Array.range (n * ti.size)).map fun k => z[k % z.size]!).toList (List.replicate n (zeroOf ti)) := by
 have hzs : z.size = ti.size := by rw [← hz, ← hzz]; simp
 refine ⟨by simp, fun i hi => by simp [zeroOf, hz], fun i j hi hj => ?_⟩
 simp only [List.length_replicate] at hi
 simp only [List.getElem_replicate] at hj
 have hj' : j < ti.size := by simpa [zeroOf, hz] using hj
 refine ⟨ti.zero[j]'(by omega), ?_, (by rw [List.all_eq_true] at hone; exact hone _ (List.getElem_mem _)), ?_⟩
 ·have hlt := row_lt hi hj'
  rw [Array.getElem?_toList, Array.getElem?_map]
  rw [Array.getElem?_eq_getElem (by simpa using hlt)]
  simp only [Array.getElem_range, Option.map_some, Option.some.injEq]
  rw [hzs, mod_row hj']
  have : z[j]! = z[j]'(by omega) := by simp [show j < z.size by omega]
  rw [this]
  simp only [← hzz, Array.getElem_toList]
 ·simp only [List.getElem_replicate]
  exact .imm (Imm.zero j _ hj)
theorem imm_row {size c : Nat} {cells : Array Value} {es : List (List AV)} {b : Nat} {e : TypeId} {cap : Cp} {F' : Nat → Nat → Prop} (hb : w.heap[b]? = some (.cells cells e (0, 0))) (hF : ∀ o, F' b o) (hle : es.length ≤ c)
  (hcap : cap = .unk ∨ (cap = .zer ∧ c = 0) ∨ (cap = .full ∧ c = es.length) ∨ cap = .val c)
  (h1 : ∀ i (h : i < es.length), es[i].length = size) (h2 : ∀ i j (h : i < es.length) (h' : j < es[i].length), ∃ v, cells[i * size + j]? = some v ∧ v.oneCell' = true ∧ Imm F' w v es[i][j]) :
  Imm F' w (.slice (some ⟨b, 0, none⟩) es.length c) (.sl false es cap) := by
 refine .sl b 0 c size es cap (fun i j => (cells[i * size + j]?).getD undef) hle hcap h1 (fun i j hi hj => ⟨hF _, ?_⟩) (fun i j hi hj => ?_)
 ·rw [cell?_block hb, Nat.zero_add]
  obtain ⟨v, hv, h1c, _⟩ := h2 i j hi (by rw [h1 i hi]; exact hj)
  rw [hv]; exact ⟨rfl, h1c⟩
 ·obtain ⟨v, hv, _, hr⟩ := h2 i j hi hj
  rw [hv]; exact hr
theorem all_norefs {es : List (List AV)} (h : es.all AV.norefs = true) : ∀ i j (h1 : i < es.length) (h2 : j < es[i].length), es[i][j].noref = true := fun i j h1 h2 => by
 rw [List.all_eq_true] at h
 exact norefs_get _ (h _ (List.getElem_mem h1)) j h2
theorem tvEs_len {es : List (List AV)} {n off len : Nat} (h : off + len ≤ n) (hn : n = es.length) : (tvEs es n off len).length = len := by
 unfold tvEs; split
 ·omega
 ·simp; omega
theorem tvEs_get {es : List (List AV)} {n off len : Nat} (h : off + len ≤ n) (hn : n = es.length) (k : Nat) (hk : k < (tvEs es n off len).length) : (tvEs es n off len)[k] = es[off + k]'(by rw [tvEs_len h hn] at hk; omega) := by
 unfold tvEs at hk ⊢
 by_cases hc : off = 0 ∧ len = n
 ·simp only [if_pos hc]
  obtain ⟨rfl, rfl⟩ := hc
  simp
 ·simp only [if_neg hc]
  simp
theorem RV.snap (hm : SimM P G F M nx w) {v : Value} {y : AV} (h : RV G F M w v y) : RV G F M w v (snap M y) := by
 unfold Avl.snap
 split
 ·rename_i i n b
  split
  ·rename_i esz es ho
   split
   ·rename_i hn
    obtain ⟨_, hh⟩ := h.inv_tl
    obtain ⟨hG, hb⟩ := (hh _ _ _ ho).2 hn
    rcases (hm.obj i _ ho).2 with ⟨h0, base, h1, hsp⟩ | ⟨b', ko, c, cc, e, h1, h2, h3, h4, h5, h6, h7, h8, h9⟩
    ·rw [hG] at h1; cases h1
     subst h0
     cases base with
     | none => simp [isNilSlice] at hb; subst hb; exact .imm (.nil _ (.inl rfl))
     | some a =>
       simp [isNilSlice] at hb; subst hb
       exact .imm (.sz a .unk (.inl rfl))
    ·rw [hG] at h1; cases h1
     simp [isNilSlice] at hb; subst hb
     obtain ⟨k1, k2⟩ := h9 rfl
     refine .imm ?_
     refine .sl b' ko c esz es .unk (fun i j => (cc[ko + (i * esz + j)]?).getD undef) h4 (.inl rfl) h6 (fun k j hk hj => ⟨by rw [Nat.add_assoc]; exact k2 _ (row_lt hk hj), ?_⟩) (fun k j hk hj => ?_)
     ·rw [cell?_block h3, Nat.add_assoc]
      obtain ⟨v, hv, h1c, _⟩ := h7 k j hk (by rw [h6 k hk]; exact hj)
      rw [hv]; exact ⟨rfl, h1c⟩
     ·obtain ⟨v, hv, _, hr⟩ := h7 k j hk hj
      rw [hv]; exact hr.imm_of (k1 k j hk hj)
   ·exact h
  ·exact h
 ·rename_i i n off len cap
  split
  ·rename_i esz es ho
   split
   ·rename_i hn
    obtain ⟨_, hh⟩ := h.inv_tv
    obtain ⟨hol, b', ko, c, hG, hc0, c', rfl, hlc, hcp⟩ := (hh _ _ _ ho).2 hn
    rcases hc0 with hc0 | ⟨hc0, hc2, hc1⟩
    rotate_left
    ·subst hc2
     simp only [Value.slice.injEq] at hc1
     obtain ⟨_, rfl, rfl⟩ := hc1
     have : es = [] := List.length_eq_zero_iff.1 (by omega)
     subst this
     have e1 : tvEs ([] : List (List AV)) n off 0 = [] := by unfold tvEs; split <;> simp
     rw [e1]
     exact .imm (.sz _ _ (by simp [tvCap]))
    rcases (hm.obj i _ ho).2 with ⟨h0, base, h1, hsp⟩ | ⟨b2, ko2, c2, cc, e, h1, h2, h3, h4, h5, h6, h7, h8, h9⟩
    ·rw [hG] at h1; cases h1; exact absurd rfl hc0
    ·rw [hG] at h1; cases h1
     obtain ⟨k1, k2⟩ := h9 rfl
     have hlen := tvEs_len hol hn
     have hget := tvEs_get hol hn
     refine .imm ?_
     have := Imm.sl (F := F) (w := w) b' (ko + off * esz) c' esz (tvEs es es.length off len) (tvCap len cap) (fun i j => (cc[ko + ((off + i) * esz + j)]?).getD undef) (by rw [hlen]; exact hlc)
      (by
       rcases hcp with rfl | rfl | ⟨rfl, _⟩
       ·exact .inl rfl
       ·simp only [tvCap]
        by_cases e : c' = len
        ·rw [if_pos e, hlen]; exact .inr (.inr (.inl ⟨rfl, e⟩))
        ·rw [if_neg e]; exact .inl rfl
       ·exact .inl rfl)
      (fun k hk => by rw [hget k hk]; exact h6 _ _)
      (fun k j hk hj => by
       rw [hlen] at hk
       have hk2 : off + k < es.length := by omega
       rw [show ko + off * esz + k * esz + j = ko + ((off + k) * esz + j) by rw [Nat.add_mul]; omega]
       refine ⟨k2 _ (row_lt hk2 hj), ?_⟩
       rw [cell?_block h3]
       obtain ⟨v, hv, h1c, _⟩ := h7 (off + k) j hk2 (by rw [h6 _ hk2]; exact hj)
       rw [hv]; exact ⟨rfl, h1c⟩)
      (fun k j hk hj => by
       have hk' := hk
       rw [hlen] at hk'
       have hk2 : off + k < es.length := by omega
       simp only [hget k hk] at hj ⊢
       obtain ⟨v, hv, _, hr⟩ := h7 (off + k) j hk2 hj
       rw [hv]; exact hr.imm_of (k1 _ j hk2 hj))
     rw [hlen] at this
     exact this
   ·exact h
  ·exact h
 ·exact h
end
end Go.Avl
