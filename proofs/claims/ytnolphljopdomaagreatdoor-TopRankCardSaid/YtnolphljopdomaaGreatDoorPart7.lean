/-
  Lemmas.
  Contracts of the library, from the shelf (the layings were printed by the shelf's tool).
  The evaluator, second make (definitions): freezing, drawn regions, ranges over iterators, calls.
-/
import Derived.Test.YtnolphljopdomaaGreatDoorProg
import Derived.Shelf.Strings.OnBuilder
import Derived.Shelf.Strings.LastIndex
import Derived.Shelf.Strings.Count
import Derived.Shelf.Small.Strs
import Derived.Test.YtnolphljopdomaaGreatDoorPart6
set_option linter.unusedSimpArgs false
set_option linter.unusedVariables false
set_option linter.unnecessarySimpa false
set_option linter.deprecated false
namespace Go.Avl
open Go Go.Proofs.Tryz
set_option maxRecDepth 10000
attribute [go_sem] Nat.reduceLT Nat.reduceLeDiff Nat.reduceEqDiff Nat.reduceAdd Nat.reduceSub Nat.reduceMul Nat.reduceBEq Int.reduceToNat Int.reduceEq Int.reduceLT Int.reduceLE Int.reduceAdd reduceCtorEq
attribute [go_sem ↓] reduceIte
theorem mixed : prog.follows .mixedOrders = true := by kernel_rfl
theorem none_is : PureIs prog 50 [] (.ag [.sc (.int .i64 (-1)), .sc (.int .i64 (-1))]) := by
 refine PureIs.of (nv := 1) (hid := []) func50 rfl (by kernel_rfl) (by simp) fun _ => ?_
 rw [ntmps50, results50]
 refine EvC.seq (EvC.rg (by simp only [go_sem]; rfl) rfl ?_)
 refine EvC.seq (EvC.rg (by simp only [go_sem]; rfl) rfl ?_)
 refine EvC.ret ⟨.inl rfl, _, (by simp only [go_sem]; rfl), rfl, rfl⟩
def I (n : Int) : AV := .sc (.int .i64 n)
def B (b : Bool) : AV := .sc (.bool b)
def intC (x : Int) : List AV := [.sc (.int .i64 x)]
@[go_sem] theorem norefs_ints (l : List Int) : (l.map intC).all AV.norefs = true := by simp [List.all_eq_true, intC, AV.norefs, AV.noref]
def fitsR (n o to out : Int) : Bool := decide (to = -1) && decide (out = -1) || (decide (0 ≤ to) && decide (to < n) && decide (0 ≤ out) && decide (out < o))
theorem fits_is (i o : Int) (nl : Bool) (rows : List (List AV)) (c : Cp) (to out : Int) :
  PureIs prog 85 [.ag [.sc (.int .i64 i), .sc (.int .i64 o), .sl nl rows c], .ag [.sc (.int .i64 to), .sc (.int .i64 out)]] (.sc (.bool (fitsR rows.length o to out))) := by
 refine PureIs.of1 5 [] func85 ntmps85 results85 fun _ => ?_
 refine EvC.seq (EvC.rg (by simp only [go_sem]; rfl) rfl ?_)
 apply EvC.seq
 apply EvC.drw mixed
 case ht =>
  apply Tr.run
  ·simp only [go_sem] <;> rfl
  ·rfl
  apply Tr.cons
  ·exact .call rfl rfl (by simp only [go_sem] <;> rfl) (by simp only [go_sem] <;> rfl) (by simp only [go_sem] <;> rfl) (by simp only [go_sem] <;> rfl) (by simp only [go_sem] <;> rfl) none_is
  apply Tr.done
  ·simp only [go_sem] <;> rfl
  ·simp
 case hc => kernel_rfl
 case hq =>
  refine EvC.rz ?_
  simp only [go_sem]
  congr 2
  unfold fitsR
  by_cases h1 : to = -1 <;> by_cases h2 : out = -1 <;> by_cases h3 : 0 ≤ to <;> by_cases h4 : to < rows.length <;> by_cases h5 : 0 ≤ out <;> simp [h1, h2, h3, h4, h5]
def edgeC (e : Int × Int) : List AV := [.sc (.int .i64 e.1), .sc (.int .i64 e.2)]
@[go_sem] theorem norefs_edges (l : List (Int × Int)) : (l.map edgeC).all AV.norefs = true := by simp [List.all_eq_true, edgeC, AV.norefs, AV.noref]
theorem check1_is (i o : Int) (nl : Bool) (rows : List (List AV)) (c : Cp) (to out : Int) :
  PureIs prog 84 [.ag [.sc (.int .i64 to), .sc (.int .i64 out)], .ia [.sc (.int .i64 i), .sc (.int .i64 o), .sl nl rows c]] (.sc (.bool (!fitsR rows.length o to out))) := by
 refine PureIs.of1 4 [] func84 ntmps84 results84 fun _ => ?_
 refine EvC.seq (EvC.rg (by simp only [go_sem] <;> rfl) rfl ?_)
 apply EvC.s1
 ·apply Tr.run
  ·simp only [go_sem] <;> rfl
  ·rfl
  apply Tr.cons
  ·exact .ca (fits_is _ _ _ _ _ _ _)
  apply Tr.done
  ·simp only [go_sem] <;> rfl
  ·rfl
 refine EvC.rz ?_
 simp only [go_sem]
def findIdxR (p : Int × Int → Bool) : List (Int × Int) → Int → Int
 | [], _ => -1
 | e :: es, i => if p e = true then i else findIdxR p es (i + 1)
theorem indexFunc_is (nl : Bool) (xs : List (Int × Int)) (c : Cp) (f : FuncId) (cs : List AV) (hcs : AV.norefs cs = true) (p : Int × Int → Bool) (hp : ∀ e ∈ xs, PureIs prog f (.ag (edgeC e) :: cs) (.sc (.bool (p e)))) (hl : xs.length < 1000000) :
  PureIs prog 131 [.sl nl (xs.map edgeC) c, .fn f cs] (.sc (.int .i64 (findIdxR p xs 0))) := by
 refine PureIs.of1 6 [6, 7, 8, 9, 16] func131 ntmps131 results131 fun _ => ?_
 refine EvC.seq (EvC.rg (by simp only [go_sem] <;> rfl) rfl ?_)
 refine EvC.seq ?_
 refine EvC.seq (EvC.rg (by simp only [go_sem] <;> rfl) rfl ?_)
 refine EvC.block (EvC.loopS (σ := Nat) (fun i => ⟨[(0, .sl nl (xs.map edgeC) c), (1, .fn f cs), (7, .sc (.int .i64 xs.length)), (8, .sc (.int .i64 i))], [], [], 0⟩) (fun i => xs.length - i) (fun i => i ≤ xs.length ∧ findIdxR p xs 0 = findIdxR p (xs.drop i) i) [0, 1, 7, 8] 0 ?_ ?_)
 ·refine ⟨[], 0, rfl, (by simp only [go_sem, hcs] <;> rfl), Nat.zero_le _, by simp⟩
 ·rintro i ⟨h1, h2⟩
  refine EvC.seq (EvC.rg (by simp only [go_sem] <;> rfl) rfl ?_)
  refine EvC.seq (EvC.cond (by simp only [go_sem] <;> rfl) (fun hc => ?_) (fun hc => ?_))
  ·refine EvC.skip ?_
   have hi : i < xs.length := by simpa using hc
   have he : xs[i]? = some xs[i] := List.getElem?_eq_getElem hi
   generalize xs[i] = e at he
   have hm : e ∈ xs := List.mem_of_getElem? he
   have hd : xs.drop i = e :: xs.drop (i + 1) := by
    rw [List.drop_eq_getElem_cons hi]; congr 1; rw [List.getElem?_eq_getElem hi] at he; simpa using he
   refine EvC.seq ?_
   refine EvC.block (EvC.seq (EvC.rg (by simp only [go_sem] <;> rfl) rfl ?_))
   apply EvC.s1
   ·apply Tr.run
    ·simp only [go_sem, he, edgeC] <;> rfl
    ·simp
    apply Tr.cons
    ·exact .call rfl rfl (by simp only [go_sem] <;> rfl) (by simp only [go_sem] <;> rfl) (by simp only [go_sem] <;> rfl) (by simp only [go_sem, hcs] <;> rfl) (by simp only [go_sem] <;> rfl) (hp e hm)
    apply Tr.done
    ·simp only [go_sem] <;> rfl
    ·rfl
   refine EvC.cd (fun hc => ?_) (fun hc => ?_)
   ·refine EvC.seq (EvC.rg (by simp only [go_sem] <;> rfl) rfl ?_)
    refine EvC.rz ?_
    simp only [go_sem]
    rw [h2, hd, findIdxR, if_pos hc]
   ·refine EvC.skip ?_
    refine EvC.rg (by simp only [go_sem] <;> rfl) ?_ ?_
    ·exact inI64_of (by omega) (by omega)
    refine ⟨[], i + 1, rfl, ?_, ⟨by omega, ?_⟩, by omega⟩
    ·simp only [go_sem, hcs] <;> rfl
    ·rw [h2, hd, findIdxR, if_neg (by simp [hc])]; rfl
  ·refine EvC.exit ?_
   have hi : ¬ i < xs.length := by simpa using hc
   refine EvC.seq (EvC.rg (by simp only [go_sem] <;> rfl) rfl ?_)
   refine EvC.rz ?_
   simp only [go_sem]
   rw [h2, List.drop_of_length_le (by omega)]; rfl
theorem findIdxR_any (p : Int × Int → Bool) : ∀ (es : List (Int × Int)) (i : Int), 0 ≤ i → decide (0 ≤ findIdxR p es i) = es.any p
 | [], i, _ => by simp [findIdxR]
 | e :: es, i, h => by
   unfold findIdxR
   split
   ·rename_i hp; simp [hp, h]
   ·rename_i hp
    rw [findIdxR_any p es (i + 1) (by omega)]
    simp [hp]
theorem containsFunc_is (nl : Bool) (xs : List (Int × Int)) (c : Cp) (f : FuncId) (cs : List AV) (hcs : AV.norefs cs = true) (p : Int × Int → Bool) (hp : ∀ e ∈ xs, PureIs prog f (.ag (edgeC e) :: cs) (.sc (.bool (p e)))) (hl : xs.length < 1000000) :
  PureIs prog 83 [.sl nl (xs.map edgeC) c, .fn f cs] (.sc (.bool (xs.any p))) := by
 refine PureIs.of1 5 [] func83 ntmps83 results83 fun _ => ?_
 refine EvC.seq (EvC.rg (by simp only [go_sem] <;> rfl) rfl ?_)
 apply EvC.s1
 ·apply Tr.run
  ·simp only [go_sem] <;> rfl
  ·rfl
  apply Tr.cons
  ·exact .call rfl rfl (by simp only [go_sem] <;> rfl) (by simp only [go_sem] <;> rfl) (by simp only [go_sem] <;> rfl) (by simp only [go_sem, hcs] <;> rfl) (by simp only [go_sem] <;> rfl) (indexFunc_is _ _ _ _ _ hcs _ hp hl)
  apply Tr.done
  ·simp only [go_sem] <;> rfl
  ·rfl
 refine EvC.rz ?_
 simp only [go_sem]
 rw [findIdxR_any _ _ _ (Int.le_refl 0)]
abbrev Row := Bool × List (Int × Int)
def rowC (r : Row) : List AV := [.sl r.1 (r.2.map edgeC) .unk]
structure Mach where
 ins : Int
 outs : Int
 nl : Bool
 rows : List Row
def Mach.cells (m : Mach) : List AV := [.sc (.int .i64 m.ins), .sc (.int .i64 m.outs), .sl m.nl (m.rows.map rowC) .unk]
def rowOk (m : Mach) (r : Row) : Bool := decide ((r.2.length : Int) = m.ins) && !(r.2.any fun e => !fitsR m.rows.length m.outs e.1 e.2)
def checkM (m : Mach) : Int :=
 if 16 < m.ins ∨ 16 < m.outs ∨ 64 < (m.rows.length : Int) then 3
 else if m.ins < 1 ∨ m.outs < 1 ∨ (m.rows.length : Int) < 1 then 1
 else if m.rows.all (rowOk m) = true then 0 else 1
theorem check_is (m : Mach) (hr : ∀ r ∈ m.rows, r.2.length < 1000000) : PureIs prog 44 [.ag m.cells] (.sc (.int .i64 (checkM m))) := by
 refine PureIs.of1 5 [18, 32, 34, 35, 36, 37, 49] func44 ntmps44 results44 fun _ => ?_
 refine EvC.seq (EvC.rg (by simp only [go_sem, Mach.cells] <;> rfl) rfl ?_)
 refine EvC.z 0 ?_
 refine EvC.seq ?_
 apply EvC.seq
 apply EvC.trd
 ·simp only [go_sem] <;> rfl
 ·simp
 refine EvC.cd (fun hc => ?_) (fun hc => ?_)
 ·refine EvC.seq (EvC.rg (by simp only [go_sem] <;> rfl) rfl ?_)
  refine EvC.rz ?_
  simp only [go_sem]
  have h : 16 < m.ins ∨ 16 < m.outs ∨ 64 < (m.rows.length : Int) := by
   by_cases h1 : 16 < m.ins <;> by_cases h2 : 16 < m.outs <;> simp_all
  rw [checkM, if_pos h]
 have hn : ¬ (16 < m.ins ∨ 16 < m.outs ∨ 64 < (m.rows.length : Int)) := by
  by_cases h1 : 16 < m.ins <;> by_cases h2 : 16 < m.outs <;> simp_all
 refine EvC.skip ?_
 refine EvC.seq ?_
 apply EvC.seq
 apply EvC.trd
 ·simp only [go_sem] <;> rfl
 ·simp
 refine EvC.cd (fun hc => ?_) (fun hc => ?_)
 ·refine EvC.seq (EvC.rg (by simp only [go_sem] <;> rfl) rfl ?_)
  refine EvC.rz ?_
  simp only [go_sem]
  have h : m.ins < 1 ∨ m.outs < 1 ∨ (m.rows.length : Int) < 1 := by
   by_cases h1 : m.ins < 1 <;> by_cases h2 : m.outs < 1 <;> simp_all
  rw [checkM, if_neg hn, if_pos h]
 have hn2 : ¬ (m.ins < 1 ∨ m.outs < 1 ∨ (m.rows.length : Int) < 1) := by
  by_cases h1 : m.ins < 1 <;> by_cases h2 : m.outs < 1 <;> simp_all
 refine EvC.skip ?_
 have hlen : (m.rows.length : Int) ≤ 64 := by omega
 refine EvC.seq ?_
 refine EvC.a ?_
 refine EvC.block (EvC.loopS (σ := Nat) (fun i => ⟨[(1, .ia m.cells), (34, .sl m.nl (m.rows.map rowC) .unk), (35, .sc (.int .i64 m.rows.length)), (36, .sc (.int .i64 i))], [], [], 0⟩) (fun i => m.rows.length - i) (fun i => i ≤ m.rows.length ∧ m.rows.all (rowOk m) = (m.rows.drop i).all (rowOk m)) [1, 34, 35, 36] 0 ?_ ?_)
 ·refine ⟨[], 0, rfl, (by simp only [go_sem, Mach.cells] <;> rfl), Nat.zero_le _, by simp⟩
 rintro i ⟨h1, h2⟩
 refine EvC.seq (EvC.rg (by simp only [go_sem] <;> rfl) rfl ?_)
 refine EvC.seq (EvC.cond (by simp only [go_sem] <;> rfl) (fun hc => ?_) (fun hc => ?_))
 ·refine EvC.skip ?_
  have hi : i < m.rows.length := by simpa using hc
  have he : m.rows[i]? = some m.rows[i] := List.getElem?_eq_getElem hi
  generalize m.rows[i] = r at he
  have hm : r ∈ m.rows := List.mem_of_getElem? he
  have hd : m.rows.drop i = r :: m.rows.drop (i + 1) := by
   rw [List.drop_eq_getElem_cons hi]; congr 1; rw [List.getElem?_eq_getElem hi] at he; simpa using he
  refine EvC.seq ?_
  refine EvC.block (EvC.seq (EvC.rg (by simp only [go_sem, he, rowC] <;> rfl) (by simp) ?_))
  by_cases hl : (r.2.length : Int) = m.ins
  ·apply EvC.s1
   ·apply Tr.run
    ·simp only [go_sem, Mach.cells, hl] <;> rfl
    ·simp
    apply Tr.cons
    ·exact .cg (containsFunc_is r.1 r.2 .unk 84 [.ia m.cells] rfl (fun e => !fitsR m.rows.length m.outs e.1 e.2) (fun e _ => by simpa [edgeC, Mach.cells] using check1_is m.ins m.outs m.nl (m.rows.map rowC) .unk e.1 e.2) (hr r hm))
    apply Tr.done
    ·simp only [go_sem] <;> rfl
    ·simp
   refine EvC.cond (by simp only [go_sem] <;> rfl) (fun hc2 => ?_) (fun hc2 => ?_)
   ·refine EvC.seq (EvC.rg (by simp only [go_sem] <;> rfl) rfl ?_)
    refine EvC.rz ?_
    simp only [go_sem]
    rw [checkM, if_neg hn, if_neg hn2, h2, hd, List.all_cons]
    simp [rowOk, hc2]
   ·refine EvC.skip ?_
    refine EvC.rg (by simp only [go_sem] <;> rfl) ?_ ?_
    ·exact inI64_of (by omega) (by omega)
    refine ⟨[], i + 1, rfl, (by simp only [go_sem, Mach.cells] <;> rfl), ⟨by omega, ?_⟩, by omega⟩
    rw [h2, hd, List.all_cons]
    simp [rowOk, hl, hc2]
  ·apply EvC.s1
   ·apply Tr.run
    ·simp only [go_sem, Mach.cells, hl] <;> rfl
    ·simp
    apply Tr.cons
    ·exact .skipv (.sc (.bool false)) rfl rfl (by simp only [go_sem] <;> rfl) (by simp only [go_sem] <;> rfl)
    apply Tr.done
    ·simp only [go_sem] <;> rfl
    ·simp
   refine EvC.ct ?_
   refine EvC.seq (EvC.rg (by simp only [go_sem] <;> rfl) rfl ?_)
   refine EvC.rz ?_
   simp only [go_sem]
   rw [checkM, if_neg hn, if_neg hn2, h2, hd, List.all_cons]
   simp [rowOk, hl]
 ·refine EvC.exit ?_
  have hi : ¬ i < m.rows.length := by simpa using hc
  refine EvC.seq (EvC.rg (by simp only [go_sem] <;> rfl) rfl ?_)
  refine EvC.rz ?_
  simp only [go_sem]
  rw [checkM, if_neg hn, if_neg hn2, h2, List.drop_of_length_le (by omega)]; rfl
def edgeA (e : Int × Int) : AV := .ag [.sc (.int .i64 e.1), .sc (.int .i64 e.2)]
structure Valid (m : Mach) : Prop where
 ins : 1 ≤ m.ins ∧ m.ins ≤ 16
 outs : 1 ≤ m.outs ∧ m.outs ≤ 16
 rows : 1 ≤ m.rows.length ∧ m.rows.length ≤ 64
 row : ∀ r ∈ m.rows, (r.2.length : Int) = m.ins ∧ ∀ e ∈ r.2, fitsR m.rows.length m.outs e.1 e.2 = true
theorem Valid.of {m : Mach} (h : checkM m = 0) : Valid m := by
 unfold checkM at h
 split at h
 ·cases h
 ·split at h
  ·cases h
  ·split at h
   ·rename_i h1 h2 h3
    rw [List.all_eq_true] at h3
    refine ⟨by omega, by omega, by omega, fun r hr => ?_⟩
    have := h3 r hr
    simp only [rowOk, Bool.and_eq_true, decide_eq_true_eq, Bool.not_eq_true', List.any_eq_false] at this
    exact ⟨this.1, fun e he => by simpa using this.2 e he⟩
   ·cases h
def stepR (m : Mach) (s a : Int) : Int × Int := if s < 0 then (-1, -1) else (((m.rows[s.toNat]?).map (·.2)).getD [])[a.toNat]?.getD (-1, -1)
theorem stepR_get {m : Mach} (hv : Valid m) {s a : Int} (h0 : 0 ≤ s) (hs : s < m.rows.length) (ha : 0 ≤ a ∧ a < m.ins) :
  ∃ r e, m.rows[s.toNat]? = some r ∧ r.2[a.toNat]? = some e ∧ stepR m s a = e ∧ fitsR m.rows.length m.outs e.1 e.2 = true := by
 have h1 : m.rows[s.toNat]? = some m.rows[s.toNat] := List.getElem?_eq_getElem (by omega)
 obtain ⟨h2, h3⟩ := hv.row _ (List.getElem_mem (show s.toNat < m.rows.length by omega))
 have h4 : (m.rows[s.toNat]).2[a.toNat]? = some ((m.rows[s.toNat]).2[a.toNat]'(by omega)) := List.getElem?_eq_getElem _
 exact ⟨_, _, h1, h4, by rw [stepR, if_neg (by omega), h1]; simp only [Option.map_some, Option.getD_some, h4], h3 _ (List.getElem_mem _)⟩
def runR (m : Mach) : Int → List Int → List Int
 | _, [] => []
 | s, a :: w => (stepR m s a).2 :: runR m (stepR m s a).1 w
theorem stepR_lt {m : Mach} (hv : Valid m) {s a : Int} (hs : s < m.rows.length) (ha : 0 ≤ a ∧ a < m.ins) : (stepR m s a).1 < m.rows.length := by
 by_cases h0 : 0 ≤ s
 ·obtain ⟨r, e, _, _, h3, h4⟩ := stepR_get hv h0 hs ha
  rw [h3]
  have := hv.rows
  unfold fitsR at h4
  simp at h4; omega
 ·rw [stepR, if_pos (by omega)]; have := hv.rows; simp only; omega
def rowF (r : List (Int × Int)) : List AV := rowC (false, r)
@[go_sem] theorem norefs_rowF (l : List (List (Int × Int))) : (l.map rowF).all AV.norefs = true := by simp [List.all_eq_true, rowF, rowC, AV.norefs, AV.noref]
structure LM where
 st : Int
 ins : Int
 outs : Int
 part : Bool
 nl : Bool
 es : List Int
 cap : Cp
def u16C (x : Int) : List AV := [.sc (.int .u16 x)]
@[go_sem] theorem norefs_u16 (l : List Int) : (l.map u16C).all AV.norefs = true := by simp [List.all_eq_true, u16C, AV.norefs, AV.noref]
def LM.cells (x : LM) : List AV := [.sc (.int .u8 x.st), .sc (.int .u8 x.ins), .sc (.int .u8 x.outs), .sc (.bool x.part), .sl x.nl (x.es.map u16C) x.cap]
structure LM.Ok (x : LM) : Prop where
 st : 0 ≤ x.st
 ins : 0 ≤ x.ins
 outs : 0 ≤ x.outs
 es : ∀ e ∈ x.es, 0 ≤ e ∧ e < 65536
def LM.n (x : LM) : Nat := (1 + x.st % 6).toNat
def LM.i (x : LM) : Nat := (1 + x.ins % 3).toNat
def LM.o (x : LM) : Int := 1 + x.outs % 3
def LM.v (x : LM) (s i : Nat) : Int := (x.es[s * x.i + i]?).getD 0
def LM.edge (x : LM) (s i : Nat) : Int × Int :=
 if x.part = true ∧ x.v s i % 4 = 3 then (-1, -1) else (x.v s i / 4 % x.n, x.v s i / 4 / x.n % x.o)
def LM.row (x : LM) (s : Nat) : List (Int × Int) := (List.range x.i).map (x.edge s)
def LM.mach (x : LM) : Mach := ⟨x.i, x.o, false, (List.range x.n).map fun s => (false, x.row s)⟩
theorem LM.bounds {x : LM} (h : x.Ok) : 1 ≤ x.n ∧ x.n ≤ 6 ∧ 1 ≤ x.i ∧ x.i ≤ 3 ∧ 1 ≤ x.o ∧ x.o ≤ 3 ∧ (x.n : Int) = 1 + x.st % 6 ∧ (x.i : Int) = 1 + x.ins % 3 := by
 have h1 := h.st
 have h2 := h.ins
 have h3 := h.outs
 unfold LM.n LM.i LM.o
 omega
theorem LM.v_ok {x : LM} (h : x.Ok) (s i : Nat) : 0 ≤ x.v s i ∧ x.v s i < 65536 := by
 unfold LM.v
 cases he : x.es[s * x.i + i]? with
 | none => simp
 | some e => exact h.es e (List.mem_of_getElem? he)
theorem mOf_is {x : LM} (h : x.Ok) : PureIs prog 13 [.ag x.cells] (.ag x.mach.cells) := by
 refine PureIs.of1 10 [28, 34, 47, 60] func13 ntmps13 results13 fun _ => ?_
 obtain ⟨b1, b2, b3, b4, b5, b6, b7, b8⟩ := LM.bounds h
 have h1 := h.st
 have h2 := h.ins
 have h3 := h.outs
 have hI1 : inI64 (x.st % 6) = true := inI64_of (by omega) (by omega)
 have hI2 : inI64 (x.ins % 3) = true := inI64_of (by omega) (by omega)
 have hI3 : inI64 (x.outs % 3) = true := inI64_of (by omega) (by omega)
 have hI4 : inI64 (1 + x.st % 6) = true := inI64_of (by omega) (by omega)
 have hI5 : inI64 (1 + x.ins % 3) = true := inI64_of (by omega) (by omega)
 have hI6 : inI64 (1 + x.outs % 3) = true := inI64_of (by omega) (by omega)
 refine EvC.a ?_ (by simp only [go_sem, LM.cells] <;> rfl)
 refine EvC.z 0 ?_
 refine EvC.a ?_ (hok := by simp [hI1, hI4, h1])
 refine EvC.a ?_ (hok := by simp [hI2, hI3, hI5, hI6, h2, h3])
 refine EvC.seq ?_
 refine EvC.a ?_
 refine EvC.block ?_
 have hmem : ∀ {s : Nat}, (fun s => ((false, x.row s) : Row)) s = (false, x.row s) := fun {_} => rfl
 have hO : x.o = 1 + x.outs % 3 := rfl
 refine EvC.ownC 19 2 1 (by simp only [go_sem] <;> rfl) ?_
 refine EvC.loopS (σ := Nat) (fun s => ⟨[(1, .ia x.cells), (2, .rf 0 0), (3, .sc (.int .i64 x.n)), (4, .rf 1 0), (5, .sc (.int .i64 s))], [],
   [(0, .cells [.sc (.int .i64 0), .sc (.int .i64 0), .sl true [] .zer]), (1, .cells [.sc (.int .i64 x.i), .sc (.int .i64 x.o), .tl 2 s (s == 0)]), (2, .arr 1 (((List.range s).map x.row).map rowF) true)], 3⟩) (fun s => x.n - s)
  (fun s => s ≤ x.n) [1, 2, 3, 4, 5] 3 ?_ ?_
 ·exact ⟨[(1, 0), (19, 1), (22, 2)], 0, rfl, (by simp only [go_sem, LM.cells, ← b7, ← b8, ← hO, List.range_zero] <;> rfl), Nat.zero_le _⟩
 intro s hs
 have hls : (((List.range s).map x.row).map rowF).length = s := by simp
 refine EvC.seq ?_
 refine EvC.a ?_
 refine EvC.cd (fun hc => ?_) (fun hc => ?_)
 rotate_left
 ·refine EvC.exit ?_
  have hc : ¬ s < x.n := by simpa using hc
  obtain rfl : s = x.n := by omega
  refine EvC.frzD 2 (by simp only [go_sem, hls] <;> rfl) ?_
  refine EvC.a ?_
  refine EvC.rz ?_
  simp only [go_sem]
  have hne : (x.n == 0) = false := by simp; omega
  simp only [Mach.cells, LM.mach, hne]
  rw [List.map_map, List.map_map]
  rfl
 have hc : s < x.n := by simpa using hc
 refine EvC.skip ?_
 refine EvC.seq ?_
 refine EvC.block ?_
 refine EvC.a ?_
 refine EvC.seq ?_
 refine EvC.a ?_
 refine EvC.block ?_
 refine EvC.loopS (σ := Nat) (fun i => ⟨[(1, .ia x.cells), (2, .rf 0 0), (3, .sc (.int .i64 x.n)), (4, .rf 1 0), (5, .sc (.int .i64 s)), (6, .tl 3 i (i == 0)), (7, .sc (.int .i64 i))], [],
   [(0, .cells [.sc (.int .i64 0), .sc (.int .i64 0), .sl true [] .zer]), (1, .cells [.sc (.int .i64 x.i), .sc (.int .i64 x.o), .tl 2 s (s == 0)]), (2, .arr 1 (((List.range s).map x.row).map rowF) true),
    (3, .arr 2 (((List.range i).map (x.edge s)).map edgeC) true)], 4⟩) (fun i => x.i - i)
  (fun i => i ≤ x.i) [1, 2, 3, 4, 5, 6, 7] 4 ?_ ?_
 ·exact ⟨[(0, 0), (1, 1), (2, 2), (6, 3)], 0, rfl, (by simp only [go_sem, List.range_zero] <;> rfl), Nat.zero_le _⟩
 intro i hi
 have hli : (((List.range i).map (x.edge s)).map edgeC).length = i := by simp
 refine EvC.seq ?_
 refine EvC.a ?_
 refine EvC.cd (fun hc => ?_) (fun hc => ?_)
 rotate_left
 ·refine EvC.exit ?_
  have hc : ¬ i < x.i := by simpa using hc
  obtain rfl : i = x.i := by omega
  have hne : (x.i == 0) = false := by simp; omega
  refine EvC.frz 3 (by simp only [go_sem, hli, hne] <;> rfl) ?_
  refine EvC.b ?_ (hok := by simp [room_eq, AV.norefs, AV.noref, hls]; omega)
  refine EvC.b ?_ (hok := inI64_of (by omega) (by omega))
  refine ⟨[(0, 0), (1, 1), (2, 2)], s + 1, rfl, ?_, by omega, by omega⟩
  have hs0 : (s + 1 == 0) = false := rfl
  simp only [go_sem, hs0, List.range_succ, rowF, rowC, LM.row, List.length_map, List.length_range] <;> rfl
 have hc : i < x.i := by simpa using hc
 have hv := LM.v_ok h s i
 have hsi : (0 : Int) ≤ (s : Int) * x.i := Int.mul_nonneg (by omega) (by omega)
 have hsi2 : (s : Int) * x.i ≤ 18 := by
  have : s * x.i ≤ 6 * 3 := Nat.mul_le_mul (by omega) (by omega)
  have := Int.ofNat_le.2 this
  simpa using this
 have hk : ((s * x.i + i : Nat) : Int) = (s : Int) * x.i + i := by simp
 have hkn : ((s : Int) * x.i + i).toNat = s * x.i + i := by omega
 have hIm : inI64 ((s : Int) * x.i) = true := inI64_of (by omega) (by omega)
 have hIk : inI64 ((s : Int) * x.i + i) = true := inI64_of (by omega) (by omega)
 have hIi : inI64 ((i : Int) + 1) = true := inI64_of (by omega) (by omega)
 have hIv : inI64 (x.v s i) = true := inI64_of (by omega) (by omega)
 refine EvC.skip ?_
 refine EvC.seq ?_
 refine EvC.block ?_
 refine EvC.a ?_
 refine EvC.seq ?_
 refine EvC.a ?_ (hok := by simp [hIm, hIk])
 refine EvC.a ?_ (by simp only [go_sem, LM.cells] <;> rfl)
 refine EvC.cd (fun hc => ?_) (fun hc => ?_)
 ·have hkl : s * x.i + i < x.es.length := by
    have : (s : Int) * x.i + i < x.es.length := by simpa using hc
    omega
  have hev : x.es[s * x.i + i]? = some (x.v s i) := by
   unfold LM.v
   rw [List.getElem?_eq_getElem hkl]; rfl
  refine EvC.b ?_ (by simp only [go_sem, LM.cells, hkn, hev, u16C] <;> rfl) (by simp [hIv]; omega)
  apply EvC.seq
  apply EvC.trd
  ·simp only [go_sem, LM.cells] <;> rfl
  ·simp [hv.1]
  have hi0 : (i + 1 == 0) = false := rfl
  refine EvC.cond (by simp only [go_sem] <;> rfl) (fun hp => ?_) (fun hp => ?_)
  ·have hp : x.part = true ∧ x.v s i % 4 = 3 := by
     by_cases h1 : x.part = true
     ·simp [h1] at hp; exact ⟨h1, hp⟩
     ·simp [h1] at hp
   have he : x.edge s i = (-1, -1) := if_pos hp
   refine EvC.b ?_ (hok := by simp [room_eq, AV.norefs, AV.noref]; omega)
   refine EvC.rg (by simp only [go_sem] <;> rfl) hIi ?_
   refine ⟨[(0, 0), (1, 1), (2, 2), (3, 3)], i + 1, rfl, ?_, by omega, by omega⟩
   simp only [go_sem, hi0, List.range_succ, he, edgeC, List.length_map, List.length_range] <;> rfl
  ·have hp : ¬ (x.part = true ∧ x.v s i % 4 = 3) := by
     rintro ⟨h1, h2⟩
     simp [h1, h2] at hp
   have he : x.edge s i = (x.v s i / 4 % x.n, x.v s i / 4 / x.n % x.o) := if_neg hp
   have hq1 : 0 ≤ x.v s i / 4 := Int.ediv_nonneg hv.1 (by omega)
   have hq2 : 0 ≤ x.v s i / 4 / x.n := Int.ediv_nonneg hq1 (by omega)
   have hq3 : x.v s i / 4 ≤ 65536 := by omega
   have hq4 : x.v s i / 4 / x.n ≤ x.v s i / 4 := Int.ediv_le_self _ hq1
   have hIq1 : inI64 (x.v s i / 4) = true := inI64_of (by omega) (by omega)
   have hIq2 : inI64 (x.v s i / 4 / x.n) = true := inI64_of (by omega) (by omega)
   apply EvC.drd mixed
   ·simp only [go_sem] <;> rfl
   ·simp [room_eq, AV.norefs, AV.noref, hv.1, hq1, hq2, hIq1, hIq2]; omega
   ·kernel_rfl
   refine EvC.rg (by simp only [go_sem] <;> rfl) hIi ?_
   refine ⟨[(0, 0), (1, 1), (2, 2), (3, 3)], i + 1, rfl, ?_, by omega, by omega⟩
   simp only [go_sem, hi0, List.range_succ, he, edgeC, List.length_map, List.length_range] <;> rfl
 ·have hkl : ¬ s * x.i + i < x.es.length := by
    have : ¬ (s : Int) * x.i + i < x.es.length := by simpa using hc
    omega
  have hev : x.v s i = 0 := by
   unfold LM.v
   rw [List.getElem?_eq_none (by omega)]; rfl
  refine EvC.skip ?_
  rw [← hev]
  apply EvC.seq
  apply EvC.trd
  ·simp only [go_sem, LM.cells] <;> rfl
  ·simp [hv.1]
  have hi0 : (i + 1 == 0) = false := rfl
  refine EvC.cond (by simp only [go_sem] <;> rfl) (fun hp => ?_) (fun hp => ?_)
  ·have hp : x.part = true ∧ x.v s i % 4 = 3 := by
     by_cases h1 : x.part = true
     ·simp [h1] at hp; exact ⟨h1, hp⟩
     ·simp [h1] at hp
   have he : x.edge s i = (-1, -1) := if_pos hp
   refine EvC.b ?_ (hok := by simp [room_eq, AV.norefs, AV.noref]; omega)
   refine EvC.rg (by simp only [go_sem] <;> rfl) hIi ?_
   refine ⟨[(0, 0), (1, 1), (2, 2), (3, 3)], i + 1, rfl, ?_, by omega, by omega⟩
   simp only [go_sem, hi0, List.range_succ, he, edgeC, List.length_map, List.length_range] <;> rfl
  ·have hp : ¬ (x.part = true ∧ x.v s i % 4 = 3) := by
     rintro ⟨h1, h2⟩
     simp [h1, h2] at hp
   have he : x.edge s i = (x.v s i / 4 % x.n, x.v s i / 4 / x.n % x.o) := if_neg hp
   have hq1 : 0 ≤ x.v s i / 4 := Int.ediv_nonneg hv.1 (by omega)
   have hq2 : 0 ≤ x.v s i / 4 / x.n := Int.ediv_nonneg hq1 (by omega)
   have hq3 : x.v s i / 4 ≤ 65536 := by omega
   have hq4 : x.v s i / 4 / x.n ≤ x.v s i / 4 := Int.ediv_le_self _ hq1
   have hIq1 : inI64 (x.v s i / 4) = true := inI64_of (by omega) (by omega)
   have hIq2 : inI64 (x.v s i / 4 / x.n) = true := inI64_of (by omega) (by omega)
   apply EvC.drd mixed
   ·simp only [go_sem] <;> rfl
   ·simp [room_eq, AV.norefs, AV.noref, hv.1, hq1, hq2, hIq1, hIq2]; omega
   ·kernel_rfl
   refine EvC.rg (by simp only [go_sem] <;> rfl) hIi ?_
   refine ⟨[(0, 0), (1, 1), (2, 2), (3, 3)], i + 1, rfl, ?_, by omega, by omega⟩
   simp only [go_sem, hi0, List.range_succ, he, edgeC, List.length_map, List.length_range] <;> rfl
def fdiff : List Int → List Int → Int
 | x :: xs, y :: ys => if x < y then -1 else if y < x then 1 else fdiff xs ys
 | _, _ => 0
def cmpW (a b : List Int) : Int := if a.length < b.length then -1 else if b.length < a.length then 1 else fdiff a b
theorem fdiff_zero : ∀ {a b : List Int}, a.length = b.length → (fdiff a b = 0 ↔ a = b)
 | [], [], _ => by simp [fdiff]
 | x :: xs, y :: ys, h => by
   have := fdiff_zero (a := xs) (b := ys) (by simpa using h)
   unfold fdiff
   split
   ·rename_i h1
    constructor
    ·intro h; cases h
    ·intro h; cases h; omega
   ·split
    ·constructor
     ·intro h; cases h
     ·intro h; cases h; omega
    ·rw [this]
     have : x = y := by omega
     simp [this]
theorem cmpW_zero {a b : List Int} : cmpW a b = 0 ↔ a = b := by
 unfold cmpW
 split
 ·rename_i h
  constructor
  ·intro h; cases h
  ·rintro rfl; omega
 ·split
  ·constructor
   ·intro h; cases h
   ·rintro rfl; omega
  ·exact fdiff_zero (by omega)
theorem set_mid {α : Type} (a b : List α) (x y : α) : (a ++ x :: b).set a.length y = a ++ y :: b := by simp
def findIdxI (p : Int → Bool) : List Int → Int → Int
 | [], _ => -1
 | e :: es, i => if p e = true then i else findIdxI p es (i + 1)
theorem findIdxI_any (p : Int → Bool) : ∀ (es : List Int) (i : Int), 0 ≤ i → decide (0 ≤ findIdxI p es i) = es.any p
 | [], i, _ => by simp [findIdxI]
 | e :: es, i, h => by
   unfold findIdxI
   split
   ·rename_i hp; simp [hp, h]
   ·rename_i hp
    rw [findIdxI_any p es (i + 1) (by omega)]
    simp [hp]
theorem indexInt_is (nl : Bool) (xs : List Int) (c : Cp) (f : FuncId) (cs : List AV) (hcs : AV.norefs cs = true) (p : Int → Bool) (hp : ∀ e ∈ xs, PureIs prog f (.sc (.int .i64 e) :: cs) (.sc (.bool (p e)))) (hl : xs.length < 1000000) :
  PureIs prog 88 [.sl nl (xs.map intC) c, .fn f cs] (.sc (.int .i64 (findIdxI p xs 0))) := by
 refine PureIs.of1 2 [4, 5, 7, 8, 9, 16] func88 ntmps88 results88 fun _ => ?_
 refine EvC.a ?_
 refine EvC.seq ?_
 refine EvC.a ?_
 refine EvC.block ?_
 refine EvC.loopS (σ := Nat) (fun i => ⟨[(0, .sl nl (xs.map intC) c), (1, .fn f cs), (7, .sc (.int .i64 xs.length)), (8, .sc (.int .i64 i))], [], [], 0⟩) (fun i => xs.length - i) (fun i => i ≤ xs.length ∧ findIdxI p xs 0 = findIdxI p (xs.drop i) i) [0, 1, 7, 8] 0 ?_ ?_
 ·refine ⟨[], 0, rfl, (by simp only [go_sem, hcs] <;> rfl), Nat.zero_le _, by simp⟩
 rintro i ⟨h1, h2⟩
 refine EvC.a ?_
 refine EvC.seq ?_
 refine EvC.cd (fun hc => ?_) (fun hc => ?_)
 rotate_left
 ·refine EvC.exit ?_
  have hi : ¬ i < xs.length := by simpa using hc
  refine EvC.a ?_
  refine EvC.rz ?_
  simp only [go_sem]
  rw [h2, List.drop_of_length_le (by omega)]; rfl
 have hi : i < xs.length := by simpa using hc
 have he : xs[i]? = some xs[i] := List.getElem?_eq_getElem hi
 have hd : xs.drop i = xs[i] :: xs.drop (i + 1) := List.drop_eq_getElem_cons hi
 have hm : xs[i] ∈ xs := List.getElem_mem hi
 generalize xs[i] = e at he hd hm
 refine EvC.skip ?_
 refine EvC.seq ?_
 refine EvC.block ?_
 refine EvC.a ?_
 apply EvC.s1
 ·apply Tr.run
  ·simp only [go_sem, he, intC] <;> rfl
  ·simp
  apply Tr.cons
  ·exact .call rfl rfl (by simp only [go_sem] <;> rfl) (by simp only [go_sem] <;> rfl) (by simp only [go_sem] <;> rfl) (by simp only [go_sem, hcs] <;> rfl) (by simp only [go_sem] <;> rfl) (hp e hm)
  apply Tr.done
  ·simp only [go_sem] <;> rfl
  ·simp
 refine EvC.cd (fun hc => ?_) (fun hc => ?_)
 ·refine EvC.a ?_
  refine EvC.rz ?_
  simp only [go_sem]
  rw [h2, hd, findIdxI, if_pos hc]
 refine EvC.skip ?_
 refine EvC.bi ?_
 refine ⟨[], i + 1, rfl, (by simp only [go_sem, hcs] <;> rfl), ⟨by omega, ?_⟩, by omega⟩
 rw [h2, hd, findIdxI, if_neg (by simp [hc])]; rfl
theorem containsInt_is (nl : Bool) (xs : List Int) (c : Cp) (f : FuncId) (cs : List AV) (hcs : AV.norefs cs = true) (p : Int → Bool) (hp : ∀ e ∈ xs, PureIs prog f (.sc (.int .i64 e) :: cs) (.sc (.bool (p e)))) (hl : xs.length < 1000000) :
  PureIs prog 48 [.sl nl (xs.map intC) c, .fn f cs] (.sc (.bool (xs.any p))) := by
 refine PureIs.of1 2 [4] func48 ntmps48 results48 fun _ => ?_
 refine EvC.a ?_
 apply EvC.s1
 ·apply Tr.run
  ·simp only [go_sem] <;> rfl
  ·simp
  apply Tr.cons
  ·exact .call rfl rfl (by simp only [go_sem] <;> rfl) (by simp only [go_sem] <;> rfl) (by simp only [go_sem] <;> rfl) (by simp only [go_sem, hcs] <;> rfl) (by simp only [go_sem] <;> rfl) (indexInt_is _ _ _ _ _ hcs _ hp hl)
  apply Tr.done
  ·simp only [go_sem] <;> rfl
  ·simp
 refine EvC.rz ?_
 simp only [go_sem]
 rw [findIdxI_any _ _ _ (Int.le_refl 0)]
theorem wcheck1_is (x n : Int) : PureIs prog 49 [.sc (.int .i64 x), .ia [.sc (.int .i64 n)]] (.sc (.bool (decide (x < 0) || decide (n ≤ x)))) := by
 refine PureIs.of1 2 [3] func49 ntmps49 results49 fun _ => ?_
 refine EvC.a ?_
 refine EvC.g ?_
 refine EvC.rz ?_
 simp only [go_sem]
 by_cases h : x < 0 <;> simp [h]
def wordErr (n : Int) (w : List Int) : Int := if 16 < n ∨ 256 < w.length then 3 else if n < 1 ∨ w.any (fun c => decide (c < 0) || decide (n ≤ c)) = true then 1 else 0
theorem wordCheck_is (nl : Bool) (w : List Int) (c : Cp) (n : Int) (hl : w.length < 1000000) : PureIs prog 23 [.sl nl (w.map intC) c, .sc (.int .i64 n)] (.sc (.int .i64 (wordErr n w))) := by
 refine PureIs.of1 2 [3, 4, 11, 18] func23 ntmps23 results23 fun _ => ?_
 refine EvC.a ?_
 refine EvC.z 0 ?_
 refine EvC.seq ?_
 refine EvC.g ?_
 refine EvC.cd (fun hc => ?_) (fun hc => ?_)
 ·have h : 16 < n ∨ 256 < w.length := by by_cases h1 : 16 < n <;> simp_all; omega
  refine EvC.a ?_
  refine EvC.rz ?_
  simp only [go_sem]
  rw [wordErr, if_pos h]
 have hn : ¬ (16 < n ∨ 256 < w.length) := by by_cases h1 : 16 < n <;> simp_all; omega
 refine EvC.skip ?_
 refine EvC.seq ?_
 by_cases h1 : n < 1
 ·have h1' : decide (n < 1) = true := by simp [h1]
  apply EvC.s1
  ·apply Tr.run
   ·simp only [go_sem] <;> rfl
   ·simp
   apply Tr.cons
   ·exact .skipv (.sc (.bool false)) rfl rfl (by simp only [go_sem, h1'] <;> rfl) (by simp only [go_sem] <;> rfl)
   apply Tr.done
   ·simp only [go_sem, h1'] <;> rfl
   ·simp
  refine EvC.ct ?_
  refine EvC.a ?_
  refine EvC.rz ?_
  simp only [go_sem]
  rw [wordErr, if_neg hn, if_pos (.inl h1)]
 have h1' : decide (n < 1) = false := by simp [h1]
 refine EvC.k1 ?_ (h1 := by simp only [go_sem, h1'] <;> rfl) (c1 := .cg (containsInt_is nl w c 49 [.ia [.sc (.int .i64 n)]] rfl (fun c => decide (c < 0) || decide (n ≤ c)) (fun e _ => wcheck1_is e n) hl)) (h2 := by simp only [go_sem, h1'] <;> rfl)
 refine EvC.cd (fun hc => ?_) (fun hc => ?_)
 ·refine EvC.a ?_
  refine EvC.rz ?_
  simp only [go_sem]
  rw [wordErr, if_neg hn, if_pos (.inr hc)]
 refine EvC.skip ?_
 refine EvC.a ?_
 refine EvC.rz ?_
 simp only [go_sem]
 rw [wordErr, if_neg hn, if_neg (by simp only [not_or]; exact ⟨h1, by simpa using hc⟩)]
def stateErr (m : Mach) (l : List Int) : Int := if checkM m ≠ 0 then checkM m else if l.any (fun x => decide (x < 0) || decide ((m.rows.length : Int) ≤ x)) = true then 1 else 0
theorem mstate_is (m : Mach) (hr : ∀ r ∈ m.rows, r.2.length < 1000000) (s : Int) : PureIs prog 22 [.ag m.cells, .sc (.int .i64 s)] (.sc (.int .i64 (stateErr m [s]))) := by
 refine PureIs.of1 3 [4, 5, 9, 19] func22 ntmps22 results22 fun _ => ?_
 refine EvC.a ?_ (by simp only [go_sem, Mach.cells] <;> rfl)
 refine EvC.z 0 ?_
 refine EvC.seq ?_
 refine EvC.k1 ?_ (h1 := by simp only [go_sem, Mach.cells] <;> rfl) (c1 := .ca (check_is m hr))
 refine EvC.a ?_
 refine EvC.cd (fun hc => ?_) (fun hc => ?_)
 ·refine EvC.a ?_
  refine EvC.rz ?_
  simp only [go_sem]
  rw [stateErr, if_pos (by simpa using hc)]
 have hck : ¬ checkM m ≠ 0 := by simpa using hc
 refine EvC.skip ?_
 refine EvC.seq ?_
 refine EvC.g ?_ (h := by simp only [go_sem, Mach.cells] <;> rfl)
 refine EvC.cd (fun hc => ?_) (fun hc => ?_)
 ·have h : s < 0 ∨ (m.rows.length : Int) ≤ s := by by_cases h1 : s < 0 <;> simp_all
  refine EvC.a ?_
  refine EvC.rz ?_
  simp only [go_sem]
  rw [stateErr, if_neg hck, if_pos (by simpa using h)]
 have h : ¬ (s < 0 ∨ (m.rows.length : Int) ≤ s) := by by_cases h1 : s < 0 <;> simp_all
 refine EvC.skip ?_
 refine EvC.a ?_
 refine EvC.rz ?_
 simp only [go_sem]
 rw [stateErr, if_neg hck, if_neg (by simpa using h)]
def afterR (m : Mach) : Int → List Int → Int
 | s, [] => s
 | s, a :: w => afterR m (stepR m s a).1 w
theorem run75_is {m : Mach} (hv : Valid m) (s : Int) (hs : s < m.rows.length) (hs0 : -1 ≤ s) (nl : Bool) (w : List Int) (c : Cp) (hw : ∀ a ∈ w, 0 ≤ a ∧ a < m.ins) (hl : w.length < 1000000) :
  PureIs prog 24 [.ag m.cells, .sc (.int .i64 s), .sl nl (w.map intC) c] (.tu [.sl false ((runR m s w).map intC) .unk, .sc (.int .i64 (afterR m s w))]) := by
 refine PureIs.of1 4 [6, 7, 8, 9, 10, 11, 15, 16, 17, 18, 24] func24 ntmps24 results24 fun _ => ?_
 refine EvC.a ?_ (by simp only [go_sem, Mach.cells] <;> rfl)
 refine EvC.z 0 ?_
 refine EvC.a ?_ (hok := by simp [room_eq]; omega)
 refine EvC.seq ?_
 refine EvC.a ?_
 refine EvC.block ?_
 have hz : ∀ n : Nat, List.replicate n [AV.sc (.int .i64 0)] = (List.replicate n (0 : Int)).map intC := fun n => by simp [intC]
 refine EvC.loopS (σ := Nat × Int × List Int × List Int) (fun g => ⟨[(1, .sc (.int .i64 g.2.1)), (3, .ia m.cells), (8, .tl 0 w.length false), (15, .sl nl (w.map intC) c), (16, .sc (.int .i64 w.length)), (17, .sc (.int .i64 g.1))], [], [(0, .arr 1 (g.2.2.2.map intC) false)], 1⟩) (fun g => w.length - g.1)
  (fun g => g.1 ≤ w.length ∧ g.2.2.1.length = g.1 ∧ g.2.1 < m.rows.length ∧ -1 ≤ g.2.1 ∧ runR m s w = g.2.2.1 ++ runR m g.2.1 (w.drop g.1) ∧ afterR m s w = afterR m g.2.1 (w.drop g.1) ∧ g.2.2.2 = g.2.2.1 ++ List.replicate (w.length - g.1) 0) [1, 3, 8, 15, 16, 17] 1 ?_ ?_
 ·refine ⟨[(5, 0)], (0, s, [], List.replicate w.length 0), rfl, (by simp only [go_sem, Mach.cells, hz, Int.toNat_natCast] <;> rfl), Nat.zero_le _, rfl, hs, hs0, rfl, rfl, by simp⟩
 rintro ⟨i, t, os, out⟩ ⟨h1, h2, h3, h4, h5, h6, ho⟩
 simp only at h1 h2 h3 h4 h5 h6 ho
 have hlen : out.length = w.length := by rw [ho]; simp; omega
 refine EvC.a ?_
 refine EvC.seq ?_
 refine EvC.cd (fun hc => ?_) (fun hc => ?_)
 rotate_left
 ·refine EvC.exit ?_
  obtain rfl : i = w.length := by have : ¬ i < w.length := by simpa using hc
                                  omega
  rw [List.drop_length] at h5 h6
  refine EvC.frz 0 (by simp only [go_sem, hlen, List.length_map] <;> rfl) ?_
  refine EvC.a ?_
  refine EvC.rz ?_
  simp only [go_sem]
  rw [h5, h6, ho]
  simp [runR, afterR]
 have hi : i < w.length := by simpa using hc
 have he : w[i]? = some w[i] := List.getElem?_eq_getElem hi
 have hd : w.drop i = w[i] :: w.drop (i + 1) := List.drop_eq_getElem_cons hi
 have ha := hw _ (List.getElem_mem hi)
 generalize w[i] = a at he hd ha
 rw [hd, runR] at h5
 rw [hd, afterR] at h6
 refine EvC.skip ?_
 refine EvC.seq ?_
 refine EvC.block ?_
 refine EvC.a ?_ (by simp only [go_sem, he, intC] <;> rfl)
 refine EvC.k1 ?_ (c1 := .ca none_is)
 refine EvC.seq ?_
 refine EvC.a ?_
 have hr : w.length - i = (w.length - (i + 1)) + 1 := by omega
 have hset' : ∀ y : Int, out.set i y = (os ++ [y]) ++ List.replicate (w.length - (i + 1)) 0 := fun y => by
  rw [ho, hr, List.replicate_succ, ← h2, set_mid]
  simp
 have hset : ∀ y : Int, (out.map intC).set i [.sc (.int .i64 y)] = (out.set i y).map intC := fun y => by
  rw [show [AV.sc (.int .i64 y)] = intC y from rfl, ← List.map_set]
 have hge : out[i]? = some 0 := by
  rw [ho, List.getElem?_append_right (by omega), hr, h2]; simp
 have hlt := stepR_lt hv h3 ha
 have hge1 : -1 ≤ (stepR m t a).1 := by
  by_cases h0 : 0 ≤ t
  ·obtain ⟨r, e, _, _, k3, k4⟩ := stepR_get hv h0 h3 ha
   rw [k3]; unfold fitsR at k4; simp at k4; omega
  ·rw [stepR, if_pos (by omega)]; simp
 refine EvC.cd (fun hc => ?_) (fun hc => ?_)
 ·have hc : ¬ t = -1 := by simpa using hc
  obtain ⟨r, e, k1, k2, k3, k4⟩ := stepR_get hv (show 0 ≤ t by omega) h3 ha
  have htl : t.toNat < m.rows.length := by omega
  refine EvC.b ?_ (by simp only [go_sem, Mach.cells, k1, rowC, k2, edgeC] <;> rfl) (by simp; omega)
  refine EvC.dL mixed ?_ (h := by simp only [go_sem, hset, hge, intC] <;> rfl) (hok := by simp [hlen]; omega)
  refine EvC.bi ?_
  rw [k3] at h5 h6 hlt hge1
  refine ⟨[(0, 0)], (i + 1, e.1, os ++ [e.2], out.set i e.2), rfl, (by simp only [go_sem, Mach.cells] <;> rfl), ⟨by simp only; omega, by simp [h2], hlt, hge1, ?_, h6, hset' _⟩, by simp only; omega⟩
  simp only [h5, List.append_assoc]; rfl
 have hc : t = -1 := by simpa using hc
 refine EvC.skip ?_
 refine EvC.dL mixed ?_ (h := by simp only [go_sem, hset, hge, intC] <;> rfl) (hok := by simp [hlen]; omega)
 refine EvC.bi ?_
 have k3 : stepR m t a = (-1, -1) := by rw [stepR, if_pos (by omega)]
 rw [k3] at h5 h6 hlt hge1
 refine ⟨[(0, 0)], (i + 1, -1, os ++ [-1], out.set i (-1)), rfl, (by simp only [go_sem, Mach.cells] <;> rfl), ⟨by simp only; omega, by simp [h2], hlt, hge1, ?_, h6, hset' _⟩, by simp only; omega⟩
 simp only [h5, List.append_assoc]; rfl
theorem runR_len (m : Mach) : ∀ (s : Int) (w : List Int), (runR m s w).length = w.length
 | _, [] => rfl
 | s, a :: w => by simp only [runR, List.length_cons]; rw [runR_len m _ w]
theorem wordErr_zero {n : Int} {w : List Int} (h : wordErr n w = 0) : ∀ a ∈ w, 0 ≤ a ∧ a < n := by
 unfold wordErr at h
 split at h
 ·cases h
 ·split at h
  ·cases h
  ·rename_i h2
   simp only [not_or, Bool.not_eq_true, List.any_eq_false] at h2
   intro a ha
   have := h2.2 a ha
   simp at this; omega
theorem wordErr_of {n : Int} {w : List Int} (hn : 1 ≤ n ∧ n ≤ 16) (hl : w.length ≤ 256) (h : ∀ a ∈ w, 0 ≤ a ∧ a < n) : wordErr n w = 0 := by
 have h2 : ¬ (n < 1 ∨ w.any (fun c => decide (c < 0) || decide (n ≤ c)) = true) := by
  simp only [not_or, Bool.not_eq_true, List.any_eq_false]
  exact ⟨by omega, fun a ha => by have := h a ha; simp; omega⟩
 rw [wordErr, if_neg (by omega), if_neg h2]
theorem checkM_of {m : Mach} (hv : Valid m) : checkM m = 0 := by
 have h1 := hv.ins
 have h2 := hv.outs
 have h3 := hv.rows
 have h4 : m.rows.all (rowOk m) = true := by
  rw [List.all_eq_true]
  intro r hr
  obtain ⟨k1, k2⟩ := hv.row r hr
  simp only [rowOk, Bool.and_eq_true, decide_eq_true_eq, Bool.not_eq_true', List.any_eq_false]
  exact ⟨k1, fun e he => by simp [k2 e he]⟩
 rw [checkM, if_neg (by omega), if_neg (by omega), if_pos h4]
theorem stateErr_of {m : Mach} {l : List Int} (hv : Valid m) (h : ∀ s ∈ l, 0 ≤ s ∧ s < m.rows.length) : stateErr m l = 0 := by
 have h2 : ¬ l.any (fun x => decide (x < 0) || decide ((m.rows.length : Int) ≤ x)) = true := by
  simp only [Bool.not_eq_true, List.any_eq_false]
  exact fun s hs => by have := h s hs; simp; omega
 rw [stateErr, if_neg (by simp [checkM_of hv]), if_neg h2]
theorem Valid.small {m : Mach} (hv : Valid m) : ∀ r ∈ m.rows, r.2.length < 1000000 := fun r hr => by
 have := (hv.row r hr).1
 have := hv.ins
 omega
theorem run52_is {m : Mach} (hv : Valid m) (s : Int) (hs : 0 ≤ s ∧ s < m.rows.length) (nl : Bool) (w : List Int) (c : Cp) (hw : wordErr m.ins w = 0) (hl : w.length < 1000000) :
  PureIs prog 8 [.ag m.cells, .sc (.int .i64 s), .sl nl (w.map intC) c] (.tu [.sl false ((runR m s w).map intC) .unk, .sc (.int .i64 0)]) := by
 refine PureIs.of1 4 [6, 7, 8, 9, 10, 16, 23] func8 ntmps8 results8 fun _ => ?_
 have h1 : stateErr m [s] = 0 := stateErr_of hv (by simpa using hs)
 refine EvC.a ?_ (by simp only [go_sem, Mach.cells] <;> rfl)
 refine EvC.z 0 ?_
 refine EvC.seq ?_
 refine EvC.k1 ?_ (h1 := by simp only [go_sem, Mach.cells] <;> rfl) (c1 := .ca (mstate_is m hv.small s)) (h2 := by simp only [go_sem, h1] <;> rfl)
 refine EvC.a ?_
 refine EvC.cs ?_
 refine EvC.seq ?_
 refine EvC.k1 ?_ (h1 := by simp only [go_sem, Mach.cells] <;> rfl) (c1 := .ca (wordCheck_is nl w c m.ins hl)) (h2 := by simp only [go_sem, hw] <;> rfl)
 refine EvC.a ?_
 refine EvC.cs ?_
 refine EvC.k1 ?_ (h1 := by simp only [go_sem, Mach.cells] <;> rfl) (c1 := .ca (run75_is hv s hs.2 (by omega) nl w c (wordErr_zero hw) hl))
 refine EvC.a ?_
 refine EvC.rz ?_
 simp only [go_sem]
theorem clipI_is (nl : Bool) (es : List (List AV)) (c : Cp) (h : (es.all fun y => decide (y.length = 1)) = true) : PureIs prog 26 [.sl nl es c] (.sl nl es .full) := by
 refine PureIs.of1 3 [] func26 ntmps26 results26 fun _ => ?_
 refine EvC.seq (EvC.rg (by simp only [go_sem] <;> rfl) rfl ?_)
 refine EvC.a ?_ (hok := by simp [h])
 refine EvC.ret ⟨.inl rfl, _, (by simp only [go_sem] <;> rfl), rfl, rfl⟩
def u8C (x : Int) : List AV := [.sc (.int .u8 x)]
@[go_sem] theorem norefs_u8 (l : List Int) : (l.map u8C).all AV.norefs = true := by simp [List.all_eq_true, u8C, AV.norefs, AV.noref]
theorem LM.valid {x : LM} (h : x.Ok) : Valid x.mach := by
 obtain ⟨b1, b2, b3, b4, b5, b6, -, -⟩ := LM.bounds h
 have hl : x.mach.rows.length = x.n := by simp [LM.mach]
 refine ⟨⟨by show (1 : Int) ≤ x.i; omega, by show (x.i : Int) ≤ 16; omega⟩, ⟨b5, by show x.o ≤ 16; omega⟩, by rw [hl]; omega, fun r hr => ?_⟩
 rw [hl]
 simp only [LM.mach, List.mem_map, List.mem_range] at hr ⊢
 obtain ⟨s, hs, rfl⟩ := hr
 refine ⟨by simp [LM.row], fun e he => ?_⟩
 simp only [LM.row, List.mem_map, List.mem_range] at he
 obtain ⟨i, hi, rfl⟩ := he
 obtain ⟨v1, v2⟩ := LM.v_ok h s i
 unfold LM.edge
 split
 ·simp [fitsR]
 ·have h1 := Int.emod_nonneg (x.v s i / 4) (b := x.n) (by omega)
  have h2 := Int.emod_lt_of_pos (x.v s i / 4) (b := x.n) (by omega)
  have h3 := Int.emod_nonneg (x.v s i / 4 / x.n) (b := x.o) (by omega)
  have h4 := Int.emod_lt_of_pos (x.v s i / 4 / x.n) (b := x.o) (by omega)
  simp [fitsR, h1, h2, h3, h4]
def rowN (m : Mach) (s : Nat) : List (Int × Int) := ((m.rows[s]?).map (·.2)).getD []
def boolC (b : Bool) : List AV := [.sc (.bool b)]
@[go_sem] theorem norefs_bool (l : List Bool) : (l.map boolC).all AV.norefs = true := by simp [List.all_eq_true, boolC, AV.norefs, AV.noref]
def ex (xs : List (Int × Int)) (a : Nat) : Int × Int := xs[a]?.getD (-1, -1)
theorem fits_cases {n o a b : Int} (h : fitsR n o a b = true) : (a = -1 ∧ b = -1) ∨ (0 ≤ a ∧ a < n ∧ 0 ≤ b ∧ b < o) := by
 unfold fitsR at h; simp at h; omega
theorem step_ex (m : Mach) (s a : Nat) : stepR m s a = ex (rowN m s) a := by
 rw [stepR, if_neg (by omega)]; simp [ex, rowN]
theorem run_cons (m : Mach) (s a : Nat) (w : List Int) : runR m s ((a : Int) :: w) = (ex (rowN m s) a).2 :: runR m (ex (rowN m s) a).1 w := by
 rw [runR, step_ex]
structure WV (m : Mach) : Prop where
 ins : 1 ≤ m.ins ∧ m.ins ≤ 16
 rows : 1 ≤ m.rows.length ∧ m.rows.length ≤ 1000
 row : ∀ r ∈ m.rows, (r.2.length : Int) = m.ins ∧ ∀ e ∈ r.2, fitsR m.rows.length m.outs e.1 e.2 = true
theorem Valid.w {m : Mach} (h : Valid m) : WV m := ⟨h.ins, ⟨h.rows.1, by have := h.rows.2; omega⟩, h.row⟩
theorem row_lenW {m : Mach} (hv : WV m) {s : Nat} (hs : s < m.rows.length) : (rowN m s).length = m.ins.toNat := by
 have h1 : m.rows[s]? = some m.rows[s] := List.getElem?_eq_getElem hs
 have := (hv.row _ (List.getElem_mem hs)).1
 simp only [rowN, h1, Option.map_some, Option.getD_some]; omega
theorem ex_fitsW {m : Mach} (hv : WV m) {s a : Nat} (hs : s < m.rows.length) (ha : a < m.ins.toNat) :
  ((ex (rowN m s) a).1 = -1 ∧ (ex (rowN m s) a).2 = -1) ∨ (0 ≤ (ex (rowN m s) a).1 ∧ (ex (rowN m s) a).1 < m.rows.length ∧ 0 ≤ (ex (rowN m s) a).2 ∧ (ex (rowN m s) a).2 < m.outs) := by
 have h0 := row_lenW hv hs
 have h1 : m.rows[s]? = some m.rows[s] := List.getElem?_eq_getElem hs
 have h2 := (hv.row _ (List.getElem_mem hs)).2
 have h3 : rowN m s = m.rows[s].2 := by simp [rowN, h1]
 have h4 : a < (rowN m s).length := by omega
 have h5 : ex (rowN m s) a = (rowN m s)[a] := by rw [ex, List.getElem?_eq_getElem h4]; rfl
 rw [h5]
 refine fits_cases (h2 _ ?_)
 rw [← h3]; exact List.getElem_mem h4
theorem ex_bothW {m : Mach} (hv : WV m) {s t a : Nat} (hs : s < m.rows.length) (ht : t < m.rows.length) (ha : a < m.ins.toNat) (h : (ex (rowN m s) a).2 = (ex (rowN m t) a).2) :
  ((ex (rowN m s) a).1 = -1 ∧ (ex (rowN m t) a).1 = -1) ∨ ∃ p q : Nat, (ex (rowN m s) a).1 = (p : Int) ∧ (ex (rowN m t) a).1 = (q : Int) ∧ p < m.rows.length ∧ q < m.rows.length := by
 have h1 := ex_fitsW hv hs ha
 have h2 := ex_fitsW hv ht ha
 rcases h1 with h1 | h1 <;> rcases h2 with h2 | h2
 ·exact .inl ⟨h1.1, h2.1⟩
 ·omega
 ·omega
 ·exact .inr ⟨(ex (rowN m s) a).1.toNat, (ex (rowN m t) a).1.toNat, by omega, by omega, by omega, by omega⟩
abbrev Mtx := Nat → Nat → Bool
def mrow (cp : Cp) (n : Nat) (M : Mtx) (i : Nat) : List AV := [.sl false (((List.range n).map (M i)).map boolC) cp]
@[go_sem] theorem norefs_mrow (cp : Cp) (n : Nat) (M : Mtx) (l : List Nat) : (l.map (mrow cp n M)).all AV.norefs = true := by
 rw [List.all_eq_true]
 intro y hy
 obtain ⟨i, _, rfl⟩ := List.mem_map.1 hy
 simp only [mrow, AV.norefs, AV.noref, norefs_bool, Bool.and_self]
def mtab (n : Nat) (M : Mtx) (i : Nat) : List (List AV) := (List.range i).map (mrow .unk n M)
@[go_sem] theorem norefs_mtab (n : Nat) (M : Mtx) (i : Nat) : (mtab n M i).all AV.norefs = true := norefs_mrow _ _ _ _
@[go_sem] theorem mtab_ren (n : Nat) (M : Mtx) (i : Nat) (ρ : List (Nat × Nat)) : (mtab n M i).map (fun c => c.map (AV.ren ρ)) = mtab n M i := by
 rw [mtab, List.map_map]
 refine List.map_congr_left fun k _ => ?_
 simp only [Function.comp, mrow, List.map_cons, List.map_nil]
 rfl
def orR : List Int → Int
 | [] => 0
 | x :: xs => if x ≠ 0 then x else orR xs
theorem or_is (nl : Bool) (xs : List Int) (c : Cp) (hl : xs.length < 1000000) : PureIs prog 43 [.sl nl (xs.map intC) c] (.sc (.int .i64 (orR xs))) := by
 refine PureIs.of1 6 [6, 7, 8, 9, 14] func43 ntmps43 results43 fun _ => ?_
 refine EvC.seq (EvC.rg (by simp only [go_sem] <;> rfl) rfl ?_)
 refine EvC.seq (EvC.rg (by simp only [go_sem] <;> rfl) rfl ?_)
 refine EvC.seq ?_
 refine EvC.seq (EvC.rg (by simp only [go_sem] <;> rfl) rfl ?_)
 refine EvC.block (EvC.loopS (σ := Nat) (fun i => ⟨[(3, .sc (.int .i64 0)), (6, .sl nl (xs.map intC) c), (7, .sc (.int .i64 xs.length)), (8, .sc (.int .i64 i))], [], [], 0⟩) (fun i => xs.length - i) (fun i => i ≤ xs.length ∧ orR xs = orR (xs.drop i)) [3, 6, 7, 8] 0 ?_ ?_)
 ·refine ⟨[], 0, rfl, (by simp only [go_sem] <;> rfl), Nat.zero_le _, by simp⟩
 rintro i ⟨h1, h2⟩
 refine EvC.seq (EvC.rg (by simp only [go_sem] <;> rfl) rfl ?_)
 refine EvC.seq (EvC.cond (by simp only [go_sem] <;> rfl) (fun hc => ?_) (fun hc => ?_))
 ·refine EvC.skip ?_
  have hi : i < xs.length := by simpa using hc
  have he : xs[i]? = some xs[i] := List.getElem?_eq_getElem hi
  generalize xs[i] = e at he
  have hd : xs.drop i = e :: xs.drop (i + 1) := by
   rw [List.drop_eq_getElem_cons hi]; congr 1; rw [List.getElem?_eq_getElem hi] at he; simpa using he
  refine EvC.seq ?_
  refine EvC.block (EvC.seq (EvC.rg (by simp only [go_sem, he, intC] <;> rfl) (by simp) ?_))
  refine EvC.a ?_
  refine EvC.cond (by simp only [go_sem] <;> rfl) (fun hc1 => ?_) (fun hc1 => ?_)
  ·refine EvC.seq (EvC.rg (by simp only [go_sem] <;> rfl) rfl ?_)
   refine EvC.rz ?_
   simp only [go_sem]
   rw [h2, hd, orR, if_pos (by simpa using hc1)]
  refine EvC.skip ?_
  refine EvC.rg (by simp only [go_sem] <;> rfl) ?_ ?_
  ·exact inI64_of (by omega) (by omega)
  refine ⟨[], i + 1, rfl, (by simp only [go_sem] <;> rfl), ⟨by omega, ?_⟩, by omega⟩
  rw [h2, hd, orR, if_neg (by simpa using hc1)]
 ·refine EvC.exit ?_
  have hi : ¬ i < xs.length := by simpa using hc
  refine EvC.seq (EvC.rg (by simp only [go_sem] <;> rfl) rfl ?_)
  refine EvC.rz ?_
  simp only [go_sem]
  rw [h2, List.drop_of_length_le (by omega)]; rfl
def bothR (a b : Mach) : Int := if checkM a ≠ 0 then checkM a else if checkM b ≠ 0 then checkM b else if a.ins ≠ b.ins then 5 else 0
theorem both_is (a b : Mach) (ha : ∀ r ∈ a.rows, r.2.length < 1000000) (hb : ∀ r ∈ b.rows, r.2.length < 1000000) : PureIs prog 20 [.ag a.cells, .ag b.cells] (.sc (.int .i64 (bothR a b))) := by
 refine PureIs.of1 6 [20] func20 ntmps20 results20 fun _ => ?_
 refine EvC.seq (EvC.rg (by simp only [go_sem, Mach.cells] <;> rfl) rfl ?_)
 apply EvC.seq
 apply EvC.drw mixed
 ·apply Tr.run
  ·simp only [go_sem] <;> rfl
  ·simp
  apply Tr.cons
  ·exact .ca (check_is a ha)
  apply Tr.run
  ·simp only [go_sem] <;> rfl
  ·simp
  apply Tr.cons
  ·exact .ca (check_is b hb)
  apply Tr.run
  ·simp only [go_sem, List.set_cons_zero, List.set_cons_succ] <;> rfl
  ·simp
  apply Tr.cons
  ·exact .ca (or_is false [checkM a, checkM b] .full (by simp))
  apply Tr.done
  ·simp only [go_sem] <;> rfl
  ·simp
 ·kernel_rfl
 apply EvC.seq
 apply EvC.seq
 apply EvC.trd
 ·simp only [go_sem] <;> rfl
 ·simp
 have ho : orR [checkM a, checkM b] = if checkM a ≠ 0 then checkM a else checkM b := by
  unfold orR orR orR; by_cases h : checkM a = 0 <;> simp [h] <;> omega
 refine EvC.cd (fun hc => ?_) (fun hc => ?_)
 ·refine EvC.rg (by simp only [go_sem] <;> rfl) rfl ?_
  refine EvC.seq (EvC.rg (by simp only [go_sem] <;> rfl) rfl ?_)
  refine EvC.rz ?_
  simp only [go_sem]
  rw [ho] at hc
  have : bothR a b = 5 := by unfold bothR; grind
  rw [this]
 ·refine EvC.skip ?_
  refine EvC.seq (EvC.rg (by simp only [go_sem] <;> rfl) rfl ?_)
  refine EvC.rz ?_
  simp only [go_sem]
  rw [ho] at hc ⊢
  have : bothR a b = if checkM a ≠ 0 then checkM a else checkM b := by unfold bothR; grind
  rw [this]
theorem index49_is (nl : Bool) (xs : List (Int × Int)) (c : Cp) (v : Int × Int) (hl : xs.length < 1000000) :
  PureIs prog 87 [.sl nl (xs.map edgeC) c, edgeA v] (.sc (.int .i64 (findIdxR (fun e => decide (e = v)) xs 0))) := by
 refine PureIs.of1 2 [3, 4, 5, 7, 8, 9, 16] func87 ntmps87 results87 fun _ => ?_
 refine EvC.a ?_ (by simp only [go_sem, edgeA] <;> rfl)
 refine EvC.seq ?_
 refine EvC.a ?_
 refine EvC.block ?_
 refine EvC.loopS (σ := Nat) (fun i => ⟨[(0, .sl nl (xs.map edgeC) c), (3, .rf 0 0), (7, .sc (.int .i64 xs.length)), (8, .sc (.int .i64 i))], [], [(0, .cells (edgeC v))], 1⟩) (fun i => xs.length - i)
  (fun i => i ≤ xs.length ∧ findIdxR (fun e => decide (e = v)) xs 0 = findIdxR (fun e => decide (e = v)) (xs.drop i) i) [0, 3, 7, 8] 1 ?_ ?_
 ·refine ⟨[(0, 0)], 0, rfl, (by simp only [go_sem, edgeC] <;> rfl), Nat.zero_le _, by simp⟩
 rintro i ⟨h1, h2⟩
 refine EvC.a ?_
 refine EvC.seq ?_
 refine EvC.cd (fun hc => ?_) (fun hc => ?_)
 rotate_left
 ·refine EvC.exit ?_
  have hi : ¬ i < xs.length := by simpa using hc
  refine EvC.a ?_
  refine EvC.rz ?_
  simp only [go_sem]
  rw [h2, List.drop_of_length_le (by omega)]; rfl
 refine EvC.skip ?_
 have hi : i < xs.length := by simpa using hc
 have he : xs[i]? = some xs[i] := List.getElem?_eq_getElem hi
 have hd : xs.drop i = xs[i] :: xs.drop (i + 1) := List.drop_eq_getElem_cons hi
 generalize xs[i] = e at he hd
 refine EvC.seq ?_
 refine EvC.block ?_
 refine EvC.a ?_
 apply EvC.seq
 apply EvC.drd mixed
 ·simp only [go_sem, he, edgeC] <;> rfl
 ·simp
 ·kernel_rfl
 have hev : (decide (v.1 = e.1) && (decide (v.2 = e.2) && true)) = decide (e = v) := by
  obtain ⟨a, b⟩ := e; obtain ⟨c, d⟩ := v
  by_cases h1 : a = c <;> by_cases h2 : b = d <;> simp [h1, h2, eq_comm]
 refine EvC.cd (fun hc => ?_) (fun hc => ?_)
 ·refine EvC.a ?_
  refine EvC.rz ?_
  simp only [go_sem]
  have : decide (e = v) = true := by rw [← hev]; simpa using hc
  rw [h2, hd, findIdxR, if_pos this]
 refine EvC.skip ?_
 refine EvC.b ?_ (hok := inI64_of (by omega) (by omega))
 refine ⟨[(0, 0)], i + 1, rfl, (by simp only [go_sem] <;> rfl), ⟨by omega, ?_⟩, by omega⟩
 have : ¬ decide (e = v) = true := by rw [← hev]; simpa using hc
 rw [h2, hd, findIdxR, if_neg this]; rfl
theorem any_mem (xs : List (Int × Int)) (v : Int × Int) : (xs.any fun e => decide (e = v)) = decide (v ∈ xs) := by
 rw [Bool.eq_iff_iff]; simp
theorem contains46_is (nl : Bool) (xs : List (Int × Int)) (c : Cp) (v : Int × Int) (hl : xs.length < 1000000) :
  PureIs prog 47 [.sl nl (xs.map edgeC) c, edgeA v] (.sc (.bool (decide (v ∈ xs)))) := by
 refine PureIs.of1 2 [3, 4] func47 ntmps47 results47 fun _ => ?_
 refine EvC.a ?_ (by simp only [go_sem, edgeA] <;> rfl)
 apply EvC.seq
 apply EvC.tr
 ·apply Tr.run
  ·simp only [go_sem] <;> rfl
  ·simp
  apply Tr.cons
  ·exact .ca (index49_is nl xs c v hl)
  apply Tr.done
  ·simp only [go_sem] <;> rfl
  ·simp
 refine EvC.rz ?_
 simp only [go_sem]
 rw [findIdxR_any _ _ _ (Int.le_refl 0), any_mem]
abbrev Arr := (Int × Int) × Int × Int
def arrC (a : Arr) : List AV := [.sc (.int .i64 a.1.1), .sc (.int .i64 a.1.2), .sc (.int .i64 a.2.1), .sc (.int .i64 a.2.2)]
@[go_sem] theorem norefs_arrs (l : List Arr) : (l.map arrC).all AV.norefs = true := by simp [List.all_eq_true, arrC, AV.norefs, AV.noref]
def wordR (l : List Arr) : Nat → Int → List Int → List Int
 | 0, _, acc => acc
 | n + 1, at', acc => match l[at'.toNat]? with
   | some a => if a.2.1 = -1 then acc else wordR l n a.2.1 (a.2.2 :: acc)
   | none => acc
def WfArr (l : List Arr) : Prop := ∀ (i : Nat) (a : Arr), l[i]? = some a → -1 ≤ a.2.1 ∧ a.2.1 < i
theorem word_is (nl : Bool) (l : List Arr) (c : Cp) (hw : WfArr l) (at' : Int) (h0 : 0 ≤ at') (ha : at' < l.length) (acc : List Int) (c2 : Cp) (hl : l.length + acc.length < 1000000) :
  PureIs prog 46 [.sl nl (l.map arrC) c, .sc (.int .i64 at'), .sl false (acc.map intC) c2] (.sl false ((wordR l l.length at' acc).map intC) .full) := by
 refine PureIs.of1 3 [6, 12] func46 ntmps46 results46 fun _ => ?_
 refine EvC.a ?_
 refine EvC.seq ?_
 refine EvC.block ?_
 refine EvC.loopS (σ := Int × List Int × Cp) (fun g => ⟨[(0, .sl nl (l.map arrC) c), (1, .sc (.int .i64 g.1)), (2, .sl false (g.2.1.map intC) g.2.2)], [], [], 0⟩) (fun g => g.1.toNat)
  (fun g => 0 ≤ g.1 ∧ g.1 < l.length ∧ g.2.1.length + g.1 < 1000000 ∧ ∃ n : Nat, g.1 < n ∧ wordR l l.length at' acc = wordR l n g.1 g.2.1) [0, 1, 2] 0 ?_ ?_
 ·refine ⟨[], (at', acc, c2), rfl, (by simp only [go_sem] <;> rfl), h0, ha, ?_, l.length, by omega, rfl⟩
  simp only; omega
 rintro ⟨t, xs, c3⟩ ⟨h1, h2, h3, n, h4, h5⟩
 simp only at h1 h2 h3 h4 h5
 have hi : t.toNat < l.length := by omega
 have he : l[t.toNat]? = some l[t.toNat] := List.getElem?_eq_getElem hi
 generalize l[t.toNat] = a at he
 obtain ⟨w1, w2⟩ := hw _ _ he
 refine EvC.seq ?_
 refine EvC.a ?_ (by simp only [go_sem, he, arrC] <;> rfl) (by simp [h1])
 refine EvC.cd (fun hc => ?_) (fun hc => ?_)
 rotate_left
 ·refine EvC.exit ?_
  have hc : a.2.1 = -1 := by simpa using hc
  apply EvC.seq
  apply EvC.tr
  ·apply Tr.run
   ·simp only [go_sem] <;> rfl
   ·simp
   apply Tr.cons
   ·exact .ca (clipI_is false (xs.map intC) c3 (by simp [intC]))
   apply Tr.done
   ·simp only [go_sem] <;> rfl
   ·simp
  refine EvC.rz ?_
  simp only [go_sem]
  rw [h5]
  obtain ⟨m, rfl⟩ : ∃ m, n = m + 1 := ⟨n - 1, by omega⟩
  simp only [wordR, he, hc, if_true]
 have hc : a.2.1 ≠ -1 := by simpa using hc
 refine EvC.skip ?_
 refine EvC.block ?_
 refine EvC.seq (EvC.rg (by simp only [go_sem, he, arrC, List.set_cons_zero] <;> rfl) ?_ ?_)
 ·have hx : xs.length < 1000000 := by omega
  simp [h1, room_eq, intC, AV.norefs, AV.noref]; omega
 refine EvC.b ?_ (by simp only [go_sem, he, arrC] <;> rfl) (by simp [h1])
 refine ⟨[], (a.2.1, a.2.2 :: xs, .unk), rfl, (by simp only [go_sem, intC] <;> rfl), ⟨?_, ?_, ?_, n - 1, ?_, ?_⟩, ?_⟩
 all_goals simp only [List.length_cons]
 ·omega
 ·omega
 ·omega
 ·omega
 ·rw [h5]
  obtain ⟨m, rfl⟩ : ∃ m, n = m + 1 := ⟨n - 1, by omega⟩
  simp only [wordR, he, if_neg hc, Nat.add_sub_cancel]
 ·omega
theorem nodup_bound : ∀ (n : Nat) (l : List Nat), l.Nodup → (∀ x ∈ l, x < n) → l.length ≤ n
 | 0, [], _, _ => Nat.le_refl _
 | 0, x :: _, _, h => absurd (h x List.mem_cons_self) (Nat.not_lt_zero _)
 | n + 1, l, hn, h => by
   have h1 := nodup_bound n (l.filter (fun x => decide (x ≠ n))) (hn.filter _) fun x hx => by
    obtain ⟨h2, h3⟩ := List.mem_filter.1 hx
    have := h x h2
    have h3 : x ≠ n := by simpa using h3
    omega
   have h2 : (l.filter (fun x => decide (x = n))).length ≤ 1 := by
    have h3 : ∀ x ∈ l.filter (fun x => decide (x = n)), x = n := fun x hx => by simpa using (List.mem_filter.1 hx).2
    have h4 := hn.filter (fun x => decide (x = n))
    generalize l.filter (fun x => decide (x = n)) = m at h3 h4
    match m, h3, h4 with
    | [], _, _ => simp
    | [_], _, _ => simp
    | x :: y :: m, h3, h4 =>
      have e1 := h3 x (by simp)
      have e2 := h3 y (by simp)
      subst e1; subst e2
      simp at h4
   have h3 : l.length = (l.filter (fun x => decide (x ≠ n))).length + (l.filter (fun x => decide (x = n))).length := by
    clear hn h h1 h2
    induction l with
    | nil => rfl
    | cons x l ih =>
      by_cases hx : x = n <;> simp [List.filter_cons, hx, ih] <;> omega
   omega
theorem pairs_bound (l : List (Int × Int)) (hn : l.Nodup) (h : ∀ p ∈ l, 0 ≤ p.1 ∧ p.1 < 64 ∧ 0 ≤ p.2 ∧ p.2 < 64) : l.length ≤ 4096 := by
 have := nodup_bound 4096 (l.map fun p => p.1.toNat * 64 + p.2.toNat) (by
  refine List.Pairwise.map _ (R := fun a b => a ∈ l ∧ b ∈ l ∧ a ≠ b) ?_ ?_
  ·rintro ⟨a, b⟩ ⟨c, d⟩ ⟨h1, h2, h3⟩ h4
   have k1 := h _ h1
   have k2 := h _ h2
   simp only at k1 k2 h4
   exact h3 (by rw [Prod.mk.injEq]; omega)
  ·exact List.Pairwise.imp_of_mem (fun h1 h2 h3 => ⟨h1, h2, h3⟩) hn) (by
  intro x hx
  obtain ⟨p, hp, rfl⟩ := List.mem_map.1 hx
  have := h p hp; omega)
 simpa using this
structure Yld where
 at' : Int
 inp : Int
 x : Int × Int
 y : Int × Int
 l : List Arr
def meetA (z : Yld) : AV := .ag [.sc (.int .i64 z.at'), .sc (.int .i64 z.inp), .sc (.int .i64 z.x.1), .sc (.int .i64 z.x.2), .sc (.int .i64 z.y.1), .sc (.int .i64 z.y.2)]
def yldC (z : Yld) : List AV := [meetA z, .sl false (z.l.map arrC) .unk]
def nextL (at' i : Int) (x y : Int × Int) (l : List Arr) : List Arr :=
 if x.1 ≠ -1 ∧ y.1 ≠ -1 ∧ (x.1, y.1) ∉ l.map (·.1) then l ++ [((x.1, y.1), at', i)] else l
def inR (a b : Mach) (at' s t : Int) : Nat → Nat → List Arr → List Yld × List Arr
 | 0, _, l => ([], l)
 | n + 1, i, l => (⟨at', i, stepR a s i, stepR b t i, l⟩ :: (inR a b at' s t n (i + 1) (nextL at' i (stepR a s i) (stepR b t i) l)).1, (inR a b at' s t n (i + 1) (nextL at' i (stepR a s i) (stepR b t i) l)).2)
def outR (a b : Mach) : Nat → Nat → List Arr → List Yld
 | 0, _, _ => []
 | n + 1, at', l => match l[at']? with
   | none => []
   | some p => (inR a b at' p.1.1 p.1.2 a.ins.toNat 0 l).1 ++ outR a b n (at' + 1) (inR a b at' p.1.1 p.1.2 a.ins.toNat 0 l).2
def arr0 : List Arr := [((0, 0), -1, 0)]
def meetsR (a b : Mach) : List Yld := outR a b 5000 0 arr0
structure GoodL (a b : Mach) (l : List Arr) : Prop where
 nd : (l.map (·.1)).Nodup
 rng : ∀ p ∈ l, 0 ≤ p.1.1 ∧ p.1.1 < a.rows.length ∧ 0 ≤ p.1.2 ∧ p.1.2 < b.rows.length
 wf : WfArr l
theorem GoodL.len {a b : Mach} (ha : Valid a) (hb : Valid b) {l : List Arr} (h : GoodL a b l) : l.length ≤ 4096 := by
 have := pairs_bound (l.map (·.1)) h.nd fun p hp => by
  obtain ⟨q, hq, rfl⟩ := List.mem_map.1 hp
  have := h.rng q hq
  have h1 := ha.rows; have h2 := hb.rows; omega
 simpa using this
theorem GoodL.zero {a b : Mach} (ha : Valid a) (hb : Valid b) : GoodL a b arr0 := by
 have h1 := ha.rows
 have h2 := hb.rows
 refine ⟨by simp [arr0], ?_, ?_⟩
 ·intro p hp
  simp only [arr0, List.mem_singleton] at hp
  subst hp
  simp only; omega
 ·intro i p hp
  cases i with
  | zero => simp only [arr0, List.getElem?_cons_zero, Option.some.injEq] at hp; subst hp; simp
  | succ i => simp [arr0] at hp
theorem GoodL.next {a b : Mach} (ha : Valid a) (hb : Valid b) {l : List Arr} (h : GoodL a b l) {at' : Nat} (hat : at' < l.length) {i : Int} {s t : Int} (hs : 0 ≤ s ∧ s < a.rows.length) (ht : 0 ≤ t ∧ t < b.rows.length) (hi : 0 ≤ i ∧ i < a.ins) (hab : a.ins = b.ins) :
  GoodL a b (nextL at' i (stepR a s i) (stepR b t i) l) ∧ at' < (nextL at' i (stepR a s i) (stepR b t i) l).length := by
 unfold nextL
 split
 ·rename_i hx
  obtain ⟨h1, h2, h3⟩ := hx
  obtain ⟨_, _, _, _, e1, f1⟩ := stepR_get ha hs.1 hs.2 hi
  obtain ⟨_, _, _, _, e2, f2⟩ := stepR_get hb ht.1 ht.2 (by rw [← hab]; exact hi)
  rw [← e1] at f1
  rw [← e2] at f2
  refine ⟨⟨?_, ?_, ?_⟩, by simp; omega⟩
  ·rw [List.map_append, List.nodup_append]
   refine ⟨h.nd, by simp, ?_⟩
   rintro p hp q hq rfl
   simp only [List.map_cons, List.map_nil, List.mem_singleton] at hq
   subst hq
   exact h3 hp
  ·intro p hp
   rcases List.mem_append.1 hp with hp | hp
   ·exact h.rng p hp
   ·simp only [List.mem_singleton] at hp
    subst hp
    unfold fitsR at f1 f2
    simp at f1 f2
    simp only; omega
  ·intro j p hp
   by_cases hj : j < l.length
   ·rw [List.getElem?_append_left hj] at hp; exact h.wf j p hp
   ·rw [List.getElem?_append_right (by omega)] at hp
    by_cases h0 : j - l.length = 0
    ·rw [h0] at hp
     simp only [List.getElem?_cons_zero, Option.some.injEq] at hp
     subst hp
     simp only; omega
    ·obtain ⟨m, hm⟩ : ∃ m, j - l.length = m + 1 := ⟨j - l.length - 1, by omega⟩
     rw [hm] at hp; simp at hp
 ·exact ⟨h, hat⟩
def pairV (p : Int × Int) : Value := .agg [Value.int .i64 p.1, .int .i64 p.2].toArray
def seenE (a : Arr) : Value × AV := (pairV a.1, .sc (.bool true))
@[go_sem] theorem key91 : isKey prog 91 = keyTest true [.int .i64, .int .i64] := isKey_of (by kernel_rfl) (by kernel_rfl)
@[go_sem] theorem norefs_seen (l : List Arr) : ((l.map seenE).all fun p => p.2.noref) = true := by simp [List.all_eq_true, seenE, AV.noref]
theorem eqVal_pair (p q : Int × Int) : eqVal (pairV p) (pairV q) = decide (p = q) := by
 obtain ⟨a, b⟩ := p; obtain ⟨c, d⟩ := q
 simp [eqVal, pairV, Value.cells, eqCells, eqCell]
theorem elook_seen (l : List Arr) (p : Int × Int) : elook (l.map seenE) (pairV p) = if p ∈ l.map (·.1) then some (.sc (.bool true)) else none := by
 induction l with
 | nil => rfl
 | cons a l ih =>
   simp only [List.map_cons, seenE, elook, eqVal_pair, List.mem_cons]
   by_cases h : p = a.1
   ·simp [h]
   ·simp only [h, decide_false, Bool.false_eq_true, if_false, false_or]; exact ih
theorem eset_seen (l : List Arr) (p : Int × Int) (h : p ∉ l.map (·.1)) (q : Int × Int) : eset (l.map seenE) (pairV p) (.sc (.bool true)) = (l ++ [(p, q)]).map seenE := by
 induction l with
 | nil => rfl
 | cons a l ih =>
   simp only [List.map_cons, List.mem_cons, not_or] at h
   simp only [List.map_cons, List.cons_append, seenE, eset, eqVal_pair]
   rw [if_neg (by simpa using h.1)]
   congr 1
   exact ih h.2
theorem meets1_seq (a b : Mach) (ha : Valid a) (hb : Valid b) (hab : a.ins = b.ins) : SeqIs prog 86 [.ia a.cells, .ia b.cells] ((meetsR a b).map yldC) := by
 refine SeqIs.of (nv := 3) (hid := [4, 5, 6, 7, 8, 9, 10, 11, 12, 17, 21, 37, 38, 39, 65, 84]) func86 rfl (by kernel_rfl) (by simp [ntmps86]) (by rw [results86]) fun lp J h0 hJ hy => ?_
 rw [ntmps86]
 refine EvY.seqL hJ (EvC.rg (by simp only [go_sem] <;> rfl) (by simp [descAgg, matchKinds, matchKind]) ?_)
 refine EvY.seqL hJ (EvC.rg (by simp only [go_sem] <;> rfl) (by simp) ?_)
 refine EvY.fz hJ 6 (by simp only [go_sem] <;> rfl) ?_
 refine EvY.seqL hJ (EvC.rg (by simp only [go_sem] <;> rfl) (by simp) ?_)
 refine EvY.block ?_
 refine EvY.loopS hJ (σ := Nat × Nat × List Arr × List Yld) (fun g => ⟨[(0, .sc (yv lp)), (1, .ia a.cells), (2, .ia b.cells), (4, .mp 0), (5, .tl 1 g.2.2.1.length false), (6, .sc (.int .i64 g.2.1))], [], [(0, .map 91 (g.2.2.1.map seenE)), (1, .arr 4 (g.2.2.1.map arrC) true)], 2⟩) (fun g => g.2.2.2.length) (fun g => 5000 - g.2.1)
  (fun g => GoodL a b g.2.2.1 ∧ g.2.1 ≤ g.2.2.1.length ∧ meetsR a b = g.2.2.2 ++ outR a b g.1 g.2.1 g.2.2.1 ∧ g.1 + g.2.1 = 5000) [0, 1, 2, 4, 5, 6] 2 ?_ ?_
 ·refine ⟨[(0, 0), (6, 1)], (5000, 0, arr0, []), rfl, (by simp only [go_sem, arr0, seenE, pairV, arrC] <;> rfl), ⟨.zero ha hb, Nat.zero_le _, rfl, rfl⟩, rfl⟩
 rintro ⟨n, at', l, pre⟩ ⟨hg, hat, hpre, hn⟩
 simp only at hg hat hpre hn
 have hlen := hg.len ha hb
 have hra := ha.rows
 have hrb := hb.rows
 have hia := ha.ins
 refine EvY.seq ?_
 refine EvY.seqL hJ (EvC.rg (by simp only [go_sem] <;> rfl) (by simp) ?_)
 refine EvY.cond (by simp only [go_sem] <;> rfl) (fun hc => ?_) (fun hc => ?_)
 rotate_left
 ·refine EvY.exit ⟨.inr rfl, .inl ?_⟩
  have hc : ¬ at' < l.length := by simpa using hc
  have : outR a b n at' l = [] := by
   cases n with
   | zero => rfl
   | succ n => simp only [outR, List.getElem?_eq_none (show l.length ≤ at' by omega)]
  rw [hpre, this]; simp
 have hc : at' < l.length := by simpa using hc
 have he : l[at']? = some l[at'] := List.getElem?_eq_getElem hc
 have hmem := List.getElem_mem hc
 generalize l[at'] = p at he hmem
 have hp := hg.rng p hmem
 obtain ⟨n, rfl⟩ : ∃ m, n = m + 1 := ⟨n - 1, by omega⟩
 refine EvY.skip ?_
 refine EvY.seq ?_
 refine EvY.block ?_
 refine EvY.seqL hJ ?_
 intro _
 apply EvC.drd mixed
 ·simp only [go_sem, he, arrC] <;> rfl
 ·simp [hc]
 ·kernel_rfl
 refine EvY.seqL hJ (EvC.rg (by simp only [go_sem, Mach.cells] <;> rfl) (by simp) ?_)
 refine EvY.block ?_
 refine EvY.loopS hJ (σ := Nat × Nat × List Arr × List Yld) (fun g => ⟨[(0, .sc (yv lp)), (1, .ia a.cells), (2, .ia b.cells), (4, .mp 0), (5, .tl 1 g.2.2.1.length false), (6, .sc (.int .i64 at')), (7, .sc (.int .i64 p.1.1)), (8, .sc (.int .i64 p.1.2)), (37, .sc (.int .i64 a.ins)), (38, .sc (.int .i64 g.2.1))], [],
   [(0, .map 91 (g.2.2.1.map seenE)), (1, .arr 4 (g.2.2.1.map arrC) true)], 2⟩) (fun g => g.2.2.2.length) (fun g => g.1)
  (fun g => GoodL a b g.2.2.1 ∧ at' < g.2.2.1.length ∧ meetsR a b = g.2.2.2 ++ ((inR a b at' p.1.1 p.1.2 g.1 g.2.1 g.2.2.1).1 ++ outR a b n (at' + 1) (inR a b at' p.1.1 p.1.2 g.1 g.2.1 g.2.2.1).2) ∧ g.1 + g.2.1 = a.ins.toNat) [0, 1, 2, 4, 5, 6, 7, 8, 37, 38] 2 ?_ ?_
 ·refine ⟨[(0, 0), (1, 1)], (a.ins.toNat, 0, l, pre), rfl, (by simp only [go_sem] <;> rfl), ⟨hg, hc, ?_, rfl⟩, rfl⟩
  simp only
  rw [hpre, outR, he]
 clear hpre hg hlen hc he hmem hat
 rintro ⟨m, i, l, pre⟩ ⟨hg, hat, hpre, hm⟩
 simp only at hg hat hpre hm
 have hlen := hg.len ha hb
 refine EvY.seqL hJ (EvC.rg (by simp only [go_sem] <;> rfl) (by simp) ?_)
 refine EvY.seq ?_
 refine EvY.cond (by simp only [go_sem] <;> rfl) (fun hc => ?_) (fun hc => ?_)
 rotate_left
 ·refine EvY.exit ?_
  have hc : ¬ (i : Int) < a.ins := by simpa using hc
  have hm0 : m = 0 := by omega
  subst hm0
  refine EvY.lift hJ (EvC.rg (by simp only [go_sem] <;> rfl) (inI64_of (by omega) (by omega)) ?_)
  refine ⟨[(0, 0), (1, 1)], (n, at' + 1, l, pre), rfl, (by simp only [go_sem] <;> rfl), ⟨hg, by simp only; omega, ?_, by simp only; omega⟩, rfl, by simp only; omega⟩
  simp only
  rw [hpre, inR]; rfl
 have hc : (i : Int) < a.ins := by simpa using hc
 obtain ⟨m, rfl⟩ : ∃ k, m = k + 1 := ⟨m - 1, by omega⟩
 obtain ⟨r1, e, q1, q2, q3, f1⟩ := stepR_get ha hp.1 hp.2.1 (a := (i : Int)) (by omega)
 obtain ⟨r2, f, q4, q5, q6, f2⟩ := stepR_get hb hp.2.2.1 hp.2.2.2 (a := (i : Int)) (by omega)
 rw [Int.toNat_natCast] at q2 q5
 have hnx := hg.next ha hb hat (s := p.1.1) (t := p.1.2) (i := i) ⟨hp.1, hp.2.1⟩ ⟨hp.2.2.1, hp.2.2.2⟩ (by omega) hab
 rw [inR, q3, q6] at hpre
 rw [q3, q6] at hnx
 refine EvY.skip ?_
 refine EvY.seq ?_
 refine EvY.block ?_
 refine EvY.seqL hJ (EvC.rg (by simp only [go_sem] <;> rfl) (by simp) ?_)
 refine EvY.seqL hJ ?_
 intro _
 apply EvC.drd mixed
 ·simp only [go_sem, Mach.cells, q1, q4, rowC, q2, q5, edgeC] <;> rfl
 ·simp; omega
 ·kernel_rfl
 refine EvY.seq ?_
 refine EvY.seq (EvY.region ?_)
 have hlt : pre.length < ((meetsR a b).map yldC).length := by rw [hpre]; simp
 have hget : ((meetsR a b).map yldC)[pre.length] = yldC ⟨at', i, e, f, l⟩ := by
  simp only [hpre]; simp
 refine XRY.run hJ (by simp only [go_sem] <;> rfl) (by simp) ?_
 refine XRY.yield hlt hy rfl rfl (by simp only [go_sem] <;> rfl) (by simp only [go_sem] <;> rfl) (by rw [hget]; simp only [go_sem, yldC, meetA] <;> rfl) (by rw [hget]; simp only [go_sem, yldC, meetA]) fun b => ?_
 refine XRY.done hJ (by simp only [go_sem] <;> rfl) rfl ?_
 refine EvY.cond (by simp only [go_sem] <;> rfl) (fun hb => ?_) (fun hb => ?_)
 ·have hb : b = false := by simpa using hb
  subst hb
  exact EvY.ret ⟨.inl rfl, .inr rfl⟩
 have hb : b = true := by simpa using hb
 subst hb
 refine EvY.skip ?_
 refine EvY.seqL hJ (EvC.rg (by simp only [go_sem] <;> rfl) (by simp) ?_)
 have hI : inI64 (i + 1 : Int) = true := inI64_of (by omega) (by omega)
 have hel : elook (l.map seenE) (.agg [Value.int .i64 e.1, .int .i64 f.1].toArray) = some (.sc (.bool true)) ∨ elook (l.map seenE) (.agg [Value.int .i64 e.1, .int .i64 f.1].toArray) = none := by
  have := elook_seen l (e.1, f.1)
  by_cases hmm : (e.1, f.1) ∈ l.map (·.1)
  ·exact .inl (this.trans (if_pos hmm))
  ·exact .inr (this.trans (if_neg hmm))
 by_cases hx : e.1 = -1
 ·have hl' : nextL at' i e f l = l := by unfold nextL; rw [if_neg (fun h => h.1 hx)]
  rw [hl'] at hpre hnx
  have hx := decide_eq_true hx
  rcases hel with hel | hel
  all_goals
   refine EvY.seqL hJ ?_
   intro _
   apply EvC.trd
   ·simp only [go_sem, hx, hel] <;> rfl
   ·simp
   refine EvY.cond_false (by simp only [go_sem] <;> rfl) ?_
   refine EvY.skip ?_
   refine EvY.lift hJ (EvC.rg (by simp only [go_sem] <;> rfl) hI ?_)
   exact ⟨[(0, 0), (1, 1)], (m, i + 1, l, pre ++ [⟨at', i, e, f, l⟩]), rfl, (by simp only [go_sem] <;> rfl), ⟨hg, hnx.2, by rw [hpre]; simp, by simp only; omega⟩, by simp, by simp⟩
 by_cases hyy : f.1 = -1
 ·have hl' : nextL at' i e f l = l := by unfold nextL; rw [if_neg (fun h => h.2.1 hyy)]
  rw [hl'] at hpre hnx
  have hx := decide_eq_false hx
  have hyy := decide_eq_true hyy
  rcases hel with hel | hel
  all_goals
   refine EvY.seqL hJ ?_
   intro _
   apply EvC.trd
   ·simp only [go_sem, hx, hyy, hel] <;> rfl
   ·simp
   refine EvY.cond_false (by simp only [go_sem] <;> rfl) ?_
   refine EvY.skip ?_
   refine EvY.lift hJ (EvC.rg (by simp only [go_sem] <;> rfl) hI ?_)
   exact ⟨[(0, 0), (1, 1)], (m, i + 1, l, pre ++ [⟨at', i, e, f, l⟩]), rfl, (by simp only [go_sem] <;> rfl), ⟨hg, hnx.2, by rw [hpre]; simp, by simp only; omega⟩, by simp, by simp⟩
 by_cases hmm : (e.1, f.1) ∈ l.map (·.1)
 ·have hl' : nextL at' i e f l = l := by unfold nextL; rw [if_neg (fun h => h.2.2 hmm)]
  have hel : elook (l.map seenE) (.agg [Value.int .i64 e.1, .int .i64 f.1].toArray) = some (.sc (.bool true)) := (elook_seen l (e.1, f.1)).trans (if_pos hmm)
  rw [hl'] at hpre hnx
  refine EvY.seqL hJ ?_
  intro _
  apply EvC.trd
  ·simp only [go_sem, hx, hyy, hel] <;> rfl
  ·simp [descAgg, matchKinds, matchKind]
  refine EvY.cond_false (by simp only [go_sem] <;> rfl) ?_
  refine EvY.skip ?_
  refine EvY.lift hJ (EvC.rg (by simp only [go_sem] <;> rfl) hI ?_)
  exact ⟨[(0, 0), (1, 1)], (m, i + 1, l, pre ++ [⟨at', i, e, f, l⟩]), rfl, (by simp only [go_sem] <;> rfl), ⟨hg, hnx.2, by rw [hpre]; simp, by simp only; omega⟩, by simp, by simp⟩
 have hl' : nextL at' i e f l = l ++ [((e.1, f.1), (at' : Int), (i : Int))] := by unfold nextL; rw [if_pos ⟨hx, hyy, hmm⟩]
 have hel : elook (l.map seenE) (.agg [Value.int .i64 e.1, .int .i64 f.1].toArray) = none := (elook_seen l (e.1, f.1)).trans (if_neg hmm)
 have hes : eset (l.map seenE) (.agg [Value.int .i64 e.1, .int .i64 f.1].toArray) (.sc (.bool true)) = (l ++ [((e.1, f.1), (at' : Int), (i : Int))]).map seenE := eset_seen l (e.1, f.1) hmm _
 rw [hl'] at hpre hnx
 refine EvY.seqL hJ ?_
 intro _
 apply EvC.trd
 ·simp only [go_sem, hx, hyy, hel] <;> rfl
 ·simp [descAgg, matchKinds, matchKind]
 refine EvY.cond_true (by simp only [go_sem] <;> rfl) ?_
 refine EvY.seqL hJ (EvC.rg (by simp only [go_sem, hes] <;> rfl) (by simp [descAgg, matchKinds, matchKind]) ?_)
 refine EvY.lift hJ (EvC.rg (by simp only [go_sem] <;> rfl) (by simp [room_eq, AV.norefs, AV.noref]; omega) ?_)
 refine EvY.lift hJ (EvC.rg (by simp only [go_sem] <;> rfl) hI ?_)
 exact ⟨[(0, 0), (1, 1)], (m, i + 1, l ++ [((e.1, f.1), (at' : Int), (i : Int))], pre ++ [⟨at', i, e, f, l⟩]), rfl, (by simp only [go_sem, arrC] <;> rfl), ⟨hnx.1, hnx.2, by rw [hpre]; simp, by simp only; omega⟩, by simp, by simp⟩
theorem meets_is (a b : Mach) : PureIs prog 45 [.ag a.cells, .ag b.cells] (.fn 86 [.ia a.cells, .ia b.cells]) := by
 refine PureIs.of1 5 [] func45 ntmps45 results45 fun _ => ?_
 refine EvC.a ?_ (by simp only [go_sem, Mach.cells] <;> rfl)
 refine EvC.z 0 ?_
 refine EvC.z 1 ?_
 refine EvC.a ?_
 refine EvC.rz ?_
 simp only [go_sem, Mach.cells]
structure GoodY (a b : Mach) (z : Yld) : Prop where
 l : GoodL a b z.l
 at0 : 0 ≤ z.at'
 at1 : z.at' < z.l.length
 inp : 0 ≤ z.inp ∧ z.inp < a.ins
 xy : ∃ p, z.l[z.at'.toNat]? = some p ∧ z.x = stepR a p.1.1 z.inp ∧ z.y = stepR b p.1.2 z.inp
theorem nextL_get {at' i : Int} {x y : Int × Int} {l : List Arr} {j : Nat} {p : Arr} (h : l[j]? = some p) : (nextL at' i x y l)[j]? = some p := by
 unfold nextL
 split
 ·rw [List.getElem?_append_left (List.getElem?_eq_some_iff.1 h).1]; exact h
 ·exact h
theorem inR_good {a b : Mach} (ha : Valid a) (hb : Valid b) (hab : a.ins = b.ins) {at' : Nat} {p : Arr} : ∀ (n i : Nat) (l : List Arr), GoodL a b l → l[at']? = some p → n + i = a.ins.toNat →
  (∀ z ∈ (inR a b at' p.1.1 p.1.2 n i l).1, GoodY a b z) ∧ GoodL a b (inR a b at' p.1.1 p.1.2 n i l).2 ∧ (inR a b at' p.1.1 p.1.2 n i l).2[at']? = some p
 | 0, i, l, hg, hp, _ => ⟨fun _ h => (by cases h), hg, hp⟩
 | n + 1, i, l, hg, hp, hn => by
   have hia := ha.ins
   have hat := (List.getElem?_eq_some_iff.1 hp).1
   have hr := hg.rng p (List.mem_of_getElem? hp)
   have hnx := hg.next ha hb hat (s := p.1.1) (t := p.1.2) (i := i) ⟨hr.1, hr.2.1⟩ ⟨hr.2.2.1, hr.2.2.2⟩ (by omega) hab
   obtain ⟨h1, h2, h3⟩ := inR_good ha hb hab n (i + 1) _ hnx.1 (nextL_get hp) (by omega)
   simp only [inR]
   refine ⟨fun z hz => ?_, h2, h3⟩
   rcases List.mem_cons.1 hz with rfl | hz
   ·exact ⟨hg, by simp, by simp only; omega, by simp only; omega, p, by simpa using hp, rfl, rfl⟩
   ·exact h1 z hz
theorem inR_len {a b : Mach} {at' s t : Int} : ∀ (n i : Nat) (l : List Arr), (inR a b at' s t n i l).1.length = n
 | 0, _, _ => rfl
 | n + 1, i, l => by simp only [inR, List.length_cons]; rw [inR_len n]
theorem outR_good {a b : Mach} (ha : Valid a) (hb : Valid b) (hab : a.ins = b.ins) : ∀ (n at' : Nat) (l : List Arr), GoodL a b l → (∀ z ∈ outR a b n at' l, GoodY a b z) ∧ (outR a b n at' l).length ≤ n * 16
 | 0, _, _, _ => ⟨fun _ h => (by cases h), by simp [outR]⟩
 | n + 1, at', l, hg => by
   have hia := ha.ins
   simp only [outR]
   cases hp : l[at']? with
   | none => exact ⟨fun _ h => (by cases h), by simp⟩
   | some p =>
     obtain ⟨h1, h2, _⟩ := inR_good ha hb hab a.ins.toNat 0 l hg hp rfl
     obtain ⟨h3, h4⟩ := outR_good ha hb hab n (at' + 1) _ h2
     refine ⟨fun z hz => ?_, ?_⟩
     ·rcases List.mem_append.1 hz with hz | hz
      ·exact h1 z hz
      ·exact h3 z hz
     ·simp only [List.length_append, inR_len]; omega
theorem meetsR_good {a b : Mach} (ha : Valid a) (hb : Valid b) (hab : a.ins = b.ins) : (∀ z ∈ meetsR a b, GoodY a b z) ∧ (meetsR a b).length ≤ 80000 := outR_good ha hb hab 5000 0 _ (.zero ha hb)
def pairsR : List Yld → List (Int × Int) → List (Int × Int)
 | [], ps => ps
 | z :: zs, ps => pairsR zs (if z.x.1 ≠ -1 ∧ (z.x.1, z.y.1) ∉ ps then ps ++ [(z.x.1, z.y.1)] else ps)
def diffA (zs : List Yld) : AV := match zs.find? (fun z => decide (z.x.2 ≠ z.y.2)) with
 | some z => .tu [.sl false ((wordR z.l z.l.length z.at' [z.inp]).map intC) .full, .sl true [] .zer]
 | none => .tu [.sl true [] .zer, .sl false ((pairsR zs [(0, 0)]).map edgeC) .unk]
theorem diffA_noref (zs : List Yld) : (diffA zs).noref = true := by unfold diffA; split <;> rfl
theorem find_at {α : Type} {p : α → Bool} : ∀ {l : List α} {k : Nat} {z : α}, ((l.take k).all fun x => !p x) = true → l.drop k = z :: l.drop (k + 1) → p z = true → l.find? p = some z
 | [], k, z, _, h, _ => by simp at h
 | x :: l, 0, z, _, h, hz => by
   simp only [List.drop_zero, List.cons.injEq] at h
   rw [List.find?_cons, h.1, hz]
 | x :: l, k + 1, z, h1, h, hz => by
   simp only [List.take_succ_cons, List.all_cons, Bool.and_eq_true, Bool.not_eq_true'] at h1
   rw [List.find?_cons, h1.1]
   exact find_at h1.2 (by simpa using h) hz
theorem find_no {α : Type} {p : α → Bool} {l : List α} (h : (l.all fun x => !p x) = true) : l.find? p = none := by
 rw [List.find?_eq_none]
 intro x hx
 rw [List.all_eq_true] at h
 simpa using h x hx
theorem differ_is (a b : Mach) (ha : Valid a) (hb : Valid b) (hab : a.ins = b.ins) : PureIs prog 21 [.ag a.cells, .ag b.cells] (diffA (meetsR a b)) := by
 refine PureIs.of1 10 [11, 14, 15, 16, 23, 47] func21 ntmps21 results21 fun _ => ?_
 refine EvC.a ?_ (by simp only [go_sem, Mach.cells] <;> rfl)
 refine EvC.z 0 ?_
 refine EvC.z 1 ?_
 refine EvC.a ?_
 refine EvC.fz 5 (by simp only [go_sem] <;> rfl) ?_
 refine EvC.seq ?_
 apply EvC.seq
 apply EvC.tr
 ·apply Tr.run
  ·simp only [go_sem] <;> rfl
  ·simp
  apply Tr.cons
  ·exact .ca (by simpa [Mach.cells] using meets_is a b)
  apply Tr.done
  ·simp only [go_sem] <;> rfl
  ·simp
 refine EvC.block ?_
 refine EvC.gcTo ⟨[(4, .rf 0 0), (5, .rf 1 0), (6, .rf 2 0), (14, .fn 86 [.ia a.cells, .ia b.cells])], [], [(0, .cells [.sl true [] .zer]), (1, .cells [.sl true [] .zer]), (2, .cells [.tl 3 1 false]), (3, .arr 2 [[.sc (.int .i64 0), .sc (.int .i64 0)]] true)], 4⟩ [4, 5, 6, 14] [(2, 0), (3, 1), (6, 2), (5, 3)] (by rfl) (by simp only [go_sem] <;> rfl) ?_
 obtain ⟨gY, gl⟩ := meetsR_good ha hb hab
 refine EvC.range (σ := List (Int × Int)) (gf := 86) (caps := [.ia a.cells, .ia b.cells]) (xs := (meetsR a b).map yldC) rfl (fun _ => rfl) (by simp only [go_sem] <;> rfl) rfl (meets1_seq a b ha hb hab) ?_ (by simp) (Nat.zero_le _)
  (fun _ ps => [(0, .cells [.sl true [] .zer]), (1, .cells [.sl true [] .zer]), (2, .cells [.tl 3 ps.length false]), (3, .arr 2 (ps.map edgeC) true)])
  (fun k ps => ps.length ≤ 1 + k ∧ (((meetsR a b).take k).all fun z => decide (z.x.2 = z.y.2)) = true ∧ pairsR (meetsR a b) [(0, 0)] = pairsR ((meetsR a b).drop k) ps) ⟨[(0, 0)], rfl, by simp, rfl, rfl⟩ ?_ ?_
 ·intro x hx
  obtain ⟨z, _, rfl⟩ := List.mem_map.1 hx
  rfl
 ·rintro k ps lp hk ⟨h1, h2, h3⟩
  have hk' : k < (meetsR a b).length := by simpa using hk
  have hz : ((meetsR a b).map yldC)[k] = yldC (meetsR a b)[k] := by simp
  have gz := gY _ (List.getElem_mem hk')
  have hd : (meetsR a b).drop k = (meetsR a b)[k] :: (meetsR a b).drop (k + 1) := List.drop_eq_getElem_cons hk'
  rw [hz]
  generalize (meetsR a b)[k] = z at gz hd
  refine EvC.a ?_ (by simp only [go_sem, yldC, meetA] <;> rfl)
  refine EvC.rg (by simp only [go_sem] <;> rfl) (by simp) ⟨rfl, ?_⟩
  refine EvC.block ?_
  refine EvC.seq ?_
  refine EvC.a ?_
  refine EvC.cd (fun hc => ?_) (fun hc => ?_)
  ·have hc : ¬ z.x.2 = z.y.2 := by simpa using hc
   have hlen := gz.l.len ha hb
   apply EvC.seq
   apply EvC.tr
   ·apply Tr.run
    ·simp only [go_sem] <;> rfl
    ·simp
    apply Tr.cons
    ·exact .ca (by simpa [intC] using word_is false z.l .unk gz.l.wf z.at' gz.at0 gz.at1 [z.inp] .full (by simp; omega))
    apply Tr.done
    ·simp only [go_sem] <;> rfl
    ·simp
   refine EvC.ret ⟨.inl rfl, _, (by simp only [go_sem] <;> rfl), ?_, diffA_noref _⟩
   simp only [go_sem]
   rw [diffA, find_at (k := k) (z := z) (by simpa using h2) hd (by simpa using hc)]
  have hc : z.x.2 = z.y.2 := by simpa using hc
  have h2' : (((meetsR a b).take (k + 1)).all fun z => decide (z.x.2 = z.y.2)) = true := by
   have : (meetsR a b).take (k + 1) = (meetsR a b).take k ++ [z] := by
    have h := List.getElem?_drop (xs := meetsR a b) (i := k) (j := 0)
    rw [hd] at h
    rw [List.take_add_one]
    simp only [Nat.add_zero, List.getElem?_cons_zero] at h
    rw [← h]; rfl
   rw [this, List.all_append, h2]
   simp [hc]
  rw [hd] at h3
  rw [pairsR] at h3
  refine EvC.skip ?_
  refine EvC.a ?_
  by_cases hx : z.x.1 = -1
  ·have hx' := decide_eq_true hx
   rw [if_neg (fun h => h.1 hx)] at h3
   apply EvC.seq
   apply EvC.tr
   ·apply Tr.run
    ·simp only [go_sem, hx'] <;> rfl
    ·simp
    apply Tr.cons
    ·exact .skipv (.sc (.bool false)) rfl rfl (by simp only [go_sem] <;> rfl) (by simp only [go_sem] <;> rfl)
    apply Tr.done
    ·simp only [go_sem] <;> rfl
    ·simp
   refine EvC.cs ?_
   exact ⟨[(0, 0), (1, 1), (2, 2), (3, 3)], ps, rfl, (by simp only [go_sem] <;> rfl), by omega, h2', h3⟩
  have hx' := decide_eq_false hx
  have hpl : ps.length < 1000000 := by omega
  apply EvC.seq
  apply EvC.tr
  ·apply Tr.run
   ·simp only [go_sem, hx'] <;> rfl
   ·simp
   apply Tr.cons
   ·exact .cg (by simpa [edgeA] using contains46_is false ps .unk (z.x.1, z.y.1) hpl)
   apply Tr.done
   ·simp only [go_sem] <;> rfl
   ·simp
  refine EvC.cond (by simp only [go_sem] <;> rfl) (fun hm => ?_) (fun hm => ?_)
  ·have hm : ¬ (z.x.1, z.y.1) ∈ ps := by simpa using hm
   rw [if_pos ⟨hx, hm⟩] at h3
   refine EvC.b ?_ (hok := by simp [room_eq, AV.norefs, AV.noref]; omega)
   exact ⟨[(0, 0), (1, 1), (2, 2), (3, 3)], ps ++ [(z.x.1, z.y.1)], rfl, (by simp only [go_sem, edgeC] <;> rfl), by simp; omega, h2', h3⟩
  ·have hm : (z.x.1, z.y.1) ∈ ps := by simpa using hm
   rw [if_neg (fun h => h.2 hm)] at h3
   refine EvC.skip ?_
   exact ⟨[(0, 0), (1, 1), (2, 2), (3, 3)], ps, rfl, (by simp only [go_sem] <;> rfl), by omega, h2', h3⟩
 ·rintro ps ⟨h1, h2, h3⟩
  rw [List.length_map] at h2 h3
  rw [List.take_length] at h2
  rw [List.drop_length, pairsR] at h3
  refine EvC.frzD 3 (by simp only [go_sem] <;> rfl) ?_
  apply EvC.seq
  apply EvC.drd mixed
  ·simp only [go_sem] <;> rfl
  ·simp
  ·kernel_rfl
  refine EvC.ret ⟨.inl rfl, _, (by simp only [go_sem] <;> rfl), ?_, diffA_noref _⟩
  simp only [go_sem]
  rw [diffA, find_no (by simpa using h2), h3]
def diffO (a b : Mach) : Option Yld := (meetsR a b).find? (fun z => decide (z.x.2 ≠ z.y.2))
def diffW (a b : Mach) : List Int := match diffO a b with
 | some z => wordR z.l z.l.length z.at' [z.inp]
 | none => []
theorem diffA_eq (a b : Mach) : diffA (meetsR a b) = .tu [.sl (diffO a b).isNone ((diffW a b).map intC) (if (diffO a b).isNone then .zer else .full), if (diffO a b).isNone then .sl false ((pairsR (meetsR a b) [(0, 0)]).map edgeC) .unk else .sl true [] .zer] := by
 unfold diffA diffW diffO
 split
 ·rename_i z hz; rw [hz]; rfl
 ·rename_i hz; rw [hz]; rfl
theorem wordR_len (l : List Arr) : ∀ (n : Nat) (t : Int) (acc : List Int), acc.length ≤ (wordR l n t acc).length
 | 0, _, _ => Nat.le_refl _
 | n + 1, t, acc => by
   simp only [wordR]
   split
   ·split
    ·exact Nat.le_refl _
    ·exact Nat.le_trans (by simp) (wordR_len l n _ _)
   ·exact Nat.le_refl _
theorem diffW_pos (a b : Mach) : decide (0 < ((diffW a b).length : Int)) = (diffO a b).isSome := by
 unfold diffW
 cases h : diffO a b with
 | none => rfl
 | some z =>
   have := wordR_len z.l z.l.length z.at' [z.inp]
   simp only [List.length_cons, List.length_nil] at this
   simp only [Option.isSome_some, decide_eq_true_eq]
   omega
def differA (a b : Mach) : AV := if bothR a b = 0 then .tu [.sl (diffO a b).isNone ((diffW a b).map intC) (if (diffO a b).isNone then .zer else .full), .sc (.bool (diffO a b).isSome), .sc (.int .i64 0)]
 else .tu [.sl true [] .unk, .sc (.bool false), .sc (.int .i64 (bothR a b))]
theorem both_valid {a b : Mach} (h : bothR a b = 0) : Valid a ∧ Valid b ∧ a.ins = b.ins := by
 unfold bothR at h
 split at h
 ·contradiction
 ·rename_i h1
  split at h
  ·contradiction
  ·rename_i h2
   split at h
   ·cases h
   ·rename_i h3
    exact ⟨.of (by simpa using h1), .of (by simpa using h2), by simpa using h3⟩
theorem equals_differ_is (a b : Mach) (ha : ∀ r ∈ a.rows, r.2.length < 1000000) (hb : ∀ r ∈ b.rows, r.2.length < 1000000) : PureIs prog 6 [.ag a.cells, .ag b.cells] (differA a b) := by
 refine PureIs.of1 9 [14] func6 ntmps6 results6 fun _ => ?_
 refine EvC.a ?_ (by simp only [go_sem, Mach.cells] <;> rfl)
 refine EvC.seq ?_
 apply EvC.seq
 apply EvC.tr
 ·apply Tr.run
  ·simp only [go_sem] <;> rfl
  ·simp
  apply Tr.cons
  ·exact .ca (both_is a b ha hb)
  apply Tr.done
  ·simp only [go_sem] <;> rfl
  ·simp
 refine EvC.a ?_
 refine EvC.cd (fun hc => ?_) (fun hc => ?_)
 ·have hc : bothR a b ≠ 0 := by simpa using hc
  refine EvC.a ?_
  refine EvC.ret ⟨.inl rfl, _, (by simp only [go_sem] <;> rfl), ?_, by unfold differA; split <;> rfl⟩
  simp only [go_sem]
  rw [differA, if_neg hc]
 have hc : bothR a b = 0 := by simpa using hc
 obtain ⟨va, vb, hab⟩ := both_valid hc
 have hd := differ_is a b va vb hab
 rw [diffA_eq] at hd
 refine EvC.skip ?_
 apply EvC.seq
 apply EvC.tr
 ·apply Tr.run
  ·simp only [go_sem] <;> rfl
  ·simp
  apply Tr.cons
  ·exact .call rfl rfl (by simp only [go_sem] <;> rfl) (by simp only [go_sem] <;> rfl) (by simp only [go_sem] <;> rfl) (by simp only [go_sem] <;> rfl) (by simp only [go_sem] <;> rfl) hd
  apply Tr.done
  ·simp only [go_sem] <;> rfl
  ·simp
 refine EvC.a ?_
 refine EvC.ret ⟨.inl rfl, _, (by simp only [go_sem] <;> rfl), ?_, by unfold differA; split <;> rfl⟩
 simp only [go_sem]
 have := diffW_pos a b
 rw [differA, if_pos hc, ← this]
def sumK (k : Nat) : Nat → Nat
 | 0 => 0
 | n + 1 => sumK k n + k ^ n
def rank (k : Nat) : List Int → Nat
 | [] => 0
 | a :: w => (a.toNat + 1) * k ^ w.length + rank k w
def WOk (k : Nat) (w : List Int) : Prop := ∀ a ∈ w, 0 ≤ a ∧ a < k
theorem WOk.tail {k : Nat} {a : Int} {w : List Int} (h : WOk k (a :: w)) : WOk k w := fun x hx => h x (List.mem_cons_of_mem _ hx)
theorem WOk.head {k : Nat} {a : Int} {w : List Int} (h : WOk k (a :: w)) : 0 ≤ a ∧ a < k := h a List.mem_cons_self
theorem WOk.cons {k : Nat} {a : Int} {w : List Int} (ha : 0 ≤ a ∧ a < k) (h : WOk k w) : WOk k (a :: w) := fun x hx => by
 rcases List.mem_cons.1 hx with rfl | hx
 ·exact ha
 ·exact h x hx
theorem rank_ge {k : Nat} : ∀ (w : List Int), sumK k w.length ≤ rank k w
 | [] => Nat.le_refl _
 | a :: w => by
   have h1 := rank_ge (k := k) w
   have h2 : 1 * k ^ w.length ≤ (a.toNat + 1) * k ^ w.length := Nat.mul_le_mul_right _ (by omega)
   simp only [rank, List.length_cons, sumK]
   omega
theorem rank_lt {k : Nat} : ∀ {w : List Int}, WOk k w → rank k w < sumK k (w.length + 1)
 | [], _ => by simp [rank, sumK]
 | a :: w, h => by
   have h1 := rank_lt h.tail
   have h2 : (a.toNat + 1) * k ^ w.length ≤ k * k ^ w.length := Nat.mul_le_mul_right _ (by have := h.head; omega)
   have h3 : k ^ (w.length + 1) = k * k ^ w.length := by rw [Nat.pow_succ, Nat.mul_comm]
   rw [List.length_cons, sumK, h3]
   simp only [rank]
   omega
def Alike (m : Mach) (k s t : Nat) : Prop := ∀ v, WOk m.ins.toNat v → v.length ≤ k → runR m s v = runR m t v
theorem alike_succ {m : Mach} (hv : WV m) {k : Nat} (hk : ∀ s t, s < m.rows.length → t < m.rows.length → Alike m k s t → Alike m (k + 1) s t) {s t : Nat} (hs : s < m.rows.length) (ht : t < m.rows.length) (h : Alike m k s t) : ∀ j, Alike m (k + j) s t
 | 0 => h
 | j + 1 => by
   intro v hvo hvl
   have h1 := hk s t hs ht h
   match v, hvo with
   | [], _ => rfl
   | b :: v, hvo =>
     have hb := hvo.head
     obtain ⟨b, rfl⟩ : ∃ n : Nat, b = (n : Int) := ⟨b.toNat, by omega⟩
     have hbl : b < m.ins.toNat := by omega
     have ho : (ex (rowN m s) b).2 = (ex (rowN m t) b).2 := by
      have := h1 [(b : Int)] (fun x hx => by simp at hx; omega) (by simp)
      rw [run_cons, run_cons] at this
      exact (List.cons.inj this).1
     rw [run_cons, run_cons, ho]
     congr 1
     rcases ex_bothW hv hs ht hbl ho with ⟨e1, e2⟩ | ⟨p, q, e1, e2, hp, hq⟩
     ·rw [e1, e2]
     ·rw [e1, e2]
      have h2 : Alike m k p q := fun u hu hul => by
       have := h1 ((b : Int) :: u) (hu.cons (by omega)) (by simp; omega)
       rw [run_cons, run_cons, e1, e2] at this
       exact (List.cons.inj this).2
      exact alike_succ hv hk hp hq h2 j v hvo.tail (by simp at hvl; omega)
theorem countP_lt {α : Type} {p q : α → Bool} : ∀ {l : List α}, (∀ x ∈ l, p x = true → q x = true) → (∃ x ∈ l, q x = true ∧ p x = false) → l.countP p < l.countP q
 | [], _, ⟨x, h, _⟩ => by cases h
 | y :: l, hpq, ⟨x, hx, h1, h2⟩ => by
   have hm : l.countP p ≤ l.countP q := List.countP_mono_left fun x hx => hpq x (List.mem_cons_of_mem _ hx)
   rw [List.countP_cons, List.countP_cons]
   rcases List.mem_cons.1 hx with rfl | hx
   ·rw [h1, h2]; simp; omega
   ·have := countP_lt (fun x hx => hpq x (List.mem_cons_of_mem _ hx)) ⟨x, hx, h1, h2⟩
    have h3 := hpq y List.mem_cons_self
    by_cases h4 : p y = true
    ·rw [if_pos h4, if_pos (h3 h4)]; omega
    ·rw [if_neg h4]; split <;> omega
open Classical in
noncomputable def leadB (m : Mach) (k : Nat) (s : Nat) : Bool := decide (∀ t < s, ¬ Alike m k t s)
noncomputable def cntL (m : Mach) (k : Nat) : Nat := (List.range m.rows.length).countP (leadB m k)
theorem Alike.symm {m : Mach} {k s t : Nat} (h : Alike m k s t) : Alike m k t s := fun v h1 h2 => (h v h1 h2).symm
theorem Alike.trans {m : Mach} {k s t u : Nat} (h : Alike m k s t) (h' : Alike m k t u) : Alike m k s u := fun v h1 h2 => (h v h1 h2).trans (h' v h1 h2)
theorem Alike.le {m : Mach} {k j s t : Nat} (h : Alike m k s t) (hj : j ≤ k) : Alike m j s t := fun v h1 h2 => h v h1 (by omega)
theorem lead_of (m : Mach) (k : Nat) : ∀ s, ∃ c, c ≤ s ∧ Alike m k c s ∧ leadB m k c = true := fun s => by
 induction s using Nat.strongRecOn with
 | _ s ih =>
   by_cases h : ∃ t, t < s ∧ Alike m k t s
   ·obtain ⟨t, h1, h2⟩ := h
    obtain ⟨c, h3, h4, h5⟩ := ih t h1
    exact ⟨c, by omega, h4.trans h2, h5⟩
   ·exact ⟨s, Nat.le_refl _, fun _ _ _ => rfl, by simp only [leadB, decide_eq_true_eq]; exact fun t h1 h2 => h ⟨t, h1, h2⟩⟩
theorem cntL_grows {m : Mach} {k : Nat} (h : ¬ ∀ s t, s < m.rows.length → t < m.rows.length → Alike m k s t → Alike m (k + 1) s t) : cntL m k < cntL m (k + 1) := by
 refine countP_lt (fun s _ hs => ?_) ?_
 ·simp only [leadB, decide_eq_true_eq] at hs ⊢
  exact fun t h1 h2 => hs t h1 (h2.le (by omega))
 ·simp only [Classical.not_forall] at h
  obtain ⟨s, t, hs, ht, h1, h2⟩ := h
  obtain ⟨c, c1, c2, c3⟩ := lead_of m k s
  have : ∃ u, u < m.rows.length ∧ Alike m k c u ∧ ¬ Alike m (k + 1) c u := by
   by_cases h3 : Alike m (k + 1) c s
   ·exact ⟨t, ht, c2.trans h1, fun h4 => h2 (h3.symm.trans h4)⟩
   ·exact ⟨s, hs, c2, h3⟩
  obtain ⟨u, hu, u1, u2⟩ := this
  obtain ⟨d, d1, d2, d3⟩ := lead_of m (k + 1) u
  have hcd : Alike m k c d := u1.trans (d2.le (by omega)).symm
  have hne : c ≠ d := fun e => u2 (by rw [e]; exact d2)
  refine ⟨d, List.mem_range.2 (by omega), d3, ?_⟩
  have hlt : c < d := by
   by_cases h5 : c < d
   ·exact h5
   ·have h6 : d < c := by omega
    simp only [leadB, decide_eq_true_eq] at c3
    exact absurd hcd.symm (c3 d h6)
  rw [Bool.eq_false_iff]
  intro h7
  simp only [leadB, decide_eq_true_eq] at h7
  exact h7 c hlt hcd
theorem alike_all {m : Mach} (hv : WV m) {k s t : Nat} (hk : m.rows.length ≤ k + 1) (hs : s < m.rows.length) (ht : t < m.rows.length) (h : Alike m k s t) : ∀ v, WOk m.ins.toNat v → runR m s v = runR m t v := by
 have hN := hv.rows
 have hex : ∃ j, j + 1 ≤ m.rows.length ∧ ∀ s t, s < m.rows.length → t < m.rows.length → Alike m j s t → Alike m (j + 1) s t := by
  by_cases hx : ∃ j, j + 1 ≤ m.rows.length ∧ ∀ s t, s < m.rows.length → t < m.rows.length → Alike m j s t → Alike m (j + 1) s t
  ·exact hx
  ·exfalso
   have hg : ∀ j, j ≤ m.rows.length → j + 1 ≤ cntL m j := fun j => by
    induction j with
    | zero =>
      intro _
      have : 0 < cntL m 0 := List.countP_pos_iff.2 ⟨0, List.mem_range.2 (by omega), by simp [leadB]⟩
      omega
    | succ j ih =>
      intro hj
      have h1 := ih (by omega)
      have h2 := cntL_grows (m := m) (k := j) fun h => hx ⟨j, hj, h⟩
      omega
   have h1 := hg m.rows.length (Nat.le_refl _)
   have h2 : cntL m m.rows.length ≤ m.rows.length := by
    have := List.countP_le_length (p := leadB m m.rows.length) (l := List.range m.rows.length)
    simpa [cntL] using this
   omega
 obtain ⟨j, hj, hst⟩ := hex
 intro v hvo
 exact alike_succ hv hst hs ht (h.le (by omega)) v.length v hvo (by omega)
def Least2 (a b : Mach) (w : List Int) : Prop :=
 WOk a.ins.toNat w ∧ runR a 0 w ≠ runR b 0 w ∧ ∀ v, WOk a.ins.toNat v → runR a 0 v ≠ runR b 0 v → rank a.ins.toNat w ≤ rank a.ins.toNat v
theorem rank_snoc {k : Nat} : ∀ (w : List Int) (c : Int), rank k (w ++ [c]) = k * rank k w + (c.toNat + 1)
 | [], c => by simp [rank]
 | a :: w, c => by
   have h1 := rank_snoc (k := k) w c
   have h2 : (a.toNat + 1) * (k ^ w.length * k) = k * ((a.toNat + 1) * k ^ w.length) := by
    rw [← Nat.mul_assoc, Nat.mul_comm k]
   rw [List.cons_append]
   simp only [rank, h1, List.length_append, List.length_cons, List.length_nil, Nat.zero_add, Nat.pow_succ, Nat.mul_add] at h2 ⊢
   omega
theorem runR_app (m : Mach) : ∀ (s : Int) (u v : List Int), runR m s (u ++ v) = runR m s u ++ runR m (afterR m s u) v
 | _, [], _ => rfl
 | s, a :: u, v => by simp only [List.cons_append, runR, afterR, runR_app m _ u v]
theorem afterR_app (m : Mach) : ∀ (s : Int) (u v : List Int), afterR m s (u ++ v) = afterR m (afterR m s u) v
 | _, [], _ => rfl
 | s, a :: u, v => by simp only [List.cons_append, afterR, afterR_app m _ u v]
theorem stepR_dead (m : Mach) (a : Int) : stepR m (-1) a = (-1, -1) := by unfold stepR; rw [if_pos (by omega)]
theorem stepR_ends {m : Mach} (hv : Valid m) {s a : Int} (h0 : 0 ≤ s) (hs : s < m.rows.length) (ha : 0 ≤ a ∧ a < m.ins) : ((stepR m s a).1 = -1 ∧ (stepR m s a).2 = -1) ∨ (0 ≤ (stepR m s a).1 ∧ (stepR m s a).1 < m.rows.length ∧ 0 ≤ (stepR m s a).2) := by
 obtain ⟨r, e, _, _, h3, h4⟩ := stepR_get hv h0 hs ha
 rw [h3]
 rcases fits_cases h4 with h | h
 ·exact .inl h
 ·exact .inr ⟨h.1, h.2.1, h.2.2.1⟩
structure BInv (a b : Mach) (l : List Arr) (W : Nat → List Int) (at' i : Nat) : Prop where
 z : W 0 = []
 z0 : ∃ c, l[0]? = some ((0, 0), -1, c)
 par : ∀ j p, 1 ≤ j → l[j]? = some p → ∃ q c : Nat, p.2.1 = (q : Int) ∧ p.2.2 = (c : Int) ∧ q < j ∧ c < a.ins.toNat ∧ (q < at' ∨ (q = at' ∧ c < i)) ∧ W j = W q ++ [(c : Int)]
 ok : ∀ j, j < l.length → WOk a.ins.toNat (W j)
 mono : ∀ j k, j < k → k < l.length → rank a.ins.toNat (W j) < rank a.ins.toNat (W k)
 path : ∀ j p, l[j]? = some p → afterR a 0 (W j) = p.1.1 ∧ afterR b 0 (W j) = p.1.2 ∧ runR a 0 (W j) = runR b 0 (W j)
 done : ∀ j p, l[j]? = some p → ∀ c : Nat, c < a.ins.toNat → (j < at' ∨ (j = at' ∧ c < i)) →
  (stepR a p.1.1 c).2 = (stepR b p.1.2 c).2 ∧ ((stepR a p.1.1 c).1 ≠ -1 → (stepR b p.1.2 c).1 ≠ -1 →
   ∃ (k : Nat) (q : Arr), l[k]? = some q ∧ q.1 = ((stepR a p.1.1 c).1, (stepR b p.1.2 c).1) ∧ rank a.ins.toNat (W k) ≤ a.ins.toNat * rank a.ins.toNat (W j) + (c + 1))
theorem BInv.start (a b : Mach) : BInv a b arr0 (fun _ => []) 0 0 where
 z := rfl
 z0 := ⟨0, rfl⟩
 par := fun j p hj h => by
  obtain ⟨k, rfl⟩ : ∃ k, j = k + 1 := ⟨j - 1, by omega⟩
  simp [arr0] at h
 ok := fun j _ x hx => by cases hx
 mono := fun j k h1 h2 => by simp [arr0] at h2; omega
 path := fun j p h => by
  cases j with
  | zero => simp only [arr0, List.getElem?_cons_zero, Option.some.injEq] at h; subst h; exact ⟨rfl, rfl, rfl⟩
  | succ k => simp [arr0] at h
 done := fun j p h c hc hd => by omega
theorem nextL_new {at' i : Int} {x y : Int × Int} {l : List Arr} : nextL at' i x y l = l ∨ (nextL at' i x y l = l ++ [((x.1, y.1), at', i)] ∧ x.1 ≠ -1 ∧ y.1 ≠ -1) := by
 unfold nextL
 split
 ·rename_i h; exact .inr ⟨rfl, h.1, h.2.1⟩
 ·exact .inl rfl
theorem nextL_in {at' i : Int} {x y : Int × Int} {l : List Arr} (h1 : x.1 ≠ -1) (h2 : y.1 ≠ -1) (h3 : nextL at' i x y l = l) : ∃ (k : Nat) (q : Arr), l[k]? = some q ∧ q.1 = (x.1, y.1) := by
 by_cases hm : (x.1, y.1) ∈ l.map (·.1)
 ·obtain ⟨q, hq, he⟩ := List.mem_map.1 hm
  obtain ⟨k, hk, rfl⟩ := List.getElem_of_mem hq
  exact ⟨k, _, List.getElem?_eq_getElem hk, he⟩
 ·unfold nextL at h3
  rw [if_pos ⟨h1, h2, hm⟩] at h3
  have := congrArg List.length h3
  simp at this
theorem mul_gap {k r s : Nat} (h : r < s) : k * r + k ≤ k * s := by
 have := Nat.mul_le_mul_left k (show r + 1 ≤ s from h)
 rwa [Nat.mul_add, Nat.mul_one] at this
section
variable {a b : Mach} {l : List Arr} {W : Nat → List Int} {at' i : Nat}
theorem BInv.bound (h : BInv a b l W at' i) {j : Nat} (hj : j < l.length) (hat : at' < l.length) : rank a.ins.toNat (W j) < a.ins.toNat * rank a.ins.toNat (W at') + (i + 1) := by
 by_cases h0 : j = 0
 ·subst h0; rw [h.z]; simp only [rank]; omega
 obtain ⟨q, c, _, _, h1, h2, h3, h4⟩ := h.par j _ (by omega) (List.getElem?_eq_getElem hj)
 rw [h4, rank_snoc, Int.toNat_natCast]
 rcases h3 with h3 | ⟨rfl, h3⟩
 ·have := mul_gap (k := a.ins.toNat) (h.mono q at' h3 hat); omega
 ·omega
theorem BInv.step (ha : Valid a) (h : BInv a b l W at' i) {p : Arr} (hp : l[at']? = some p) (hi : i < a.ins.toNat) (ho : (stepR a p.1.1 i).2 = (stepR b p.1.2 i).2) :
  ∃ W', BInv a b (nextL at' i (stepR a p.1.1 i) (stepR b p.1.2 i) l) W' at' (i + 1) ∧ W' at' = W at' := by
 have hat := (List.getElem?_eq_some_iff.1 hp).1
 have hw : ∀ {j c : Nat} {x : Nat}, (j < at' ∨ (j = at' ∧ c < i)) → (j < at' ∨ (j = at' ∧ c < i + 1)) := fun h => by omega
 rcases nextL_new (at' := at') (i := i) (x := stepR a p.1.1 i) (y := stepR b p.1.2 i) (l := l) with e | ⟨e, n1, n2⟩
 ·have hin := nextL_in (at' := at') (i := i) (x := stepR a p.1.1 i) (y := stepR b p.1.2 i) (l := l)
  rw [e]
  refine ⟨W, ⟨h.z, h.z0, fun j q hj hq => ?_, h.ok, h.mono, h.path, fun j q hq c hc hd => ?_⟩, rfl⟩
  ·obtain ⟨u, c, h1, h2, h3, h4, h5, h6⟩ := h.par j q hj hq
   exact ⟨u, c, h1, h2, h3, h4, by omega, h6⟩
  ·by_cases hd' : j < at' ∨ (j = at' ∧ c < i)
   ·exact h.done j q hq c hc hd'
   ·obtain ⟨rfl, rfl⟩ : j = at' ∧ c = i := by omega
    rw [hp] at hq; cases hq
    refine ⟨ho, fun k1 k2 => ?_⟩
    obtain ⟨k, q, hk, hq⟩ := hin k1 k2 e
    exact ⟨k, q, hk, hq, Nat.le_of_lt (h.bound (List.getElem?_eq_some_iff.1 hk).1 hat)⟩
 ·rw [e]
  have hold : ∀ {j : Nat} {q : Arr}, l[j]? = some q → (l ++ [(((stepR a p.1.1 i).1, (stepR b p.1.2 i).1), (at' : Int), (i : Int))])[j]? = some q := fun hq => by
   rw [List.getElem?_append_left (List.getElem?_eq_some_iff.1 hq).1]; exact hq
  have hnew : ∀ {j : Nat} {q : Arr}, (l ++ [(((stepR a p.1.1 i).1, (stepR b p.1.2 i).1), (at' : Int), (i : Int))])[j]? = some q → (j < l.length ∧ l[j]? = some q) ∨ (j = l.length ∧ q = (((stepR a p.1.1 i).1, (stepR b p.1.2 i).1), (at' : Int), (i : Int))) := fun {j q} hq => by
   by_cases hj : j < l.length
   ·rw [List.getElem?_append_left hj] at hq; exact .inl ⟨hj, hq⟩
   ·have h1 := (List.getElem?_eq_some_iff.1 hq).1
    simp only [List.length_append, List.length_cons, List.length_nil] at h1
    obtain rfl : j = l.length := by omega
    rw [List.getElem?_append_right (Nat.le_refl _), Nat.sub_self] at hq
    simp only [List.getElem?_cons_zero, Option.some.injEq] at hq
    exact .inr ⟨rfl, hq.symm⟩
  obtain ⟨p1, p2, p3⟩ := h.path at' p hp
  have hV : ∀ j, j < l.length → (if j = l.length then W at' ++ [(i : Int)] else W j) = W j := fun j hj => if_neg (by omega)
  have hVl : (if l.length = l.length then W at' ++ [(i : Int)] else W l.length) = W at' ++ [(i : Int)] := if_pos rfl
  refine ⟨fun j => if j = l.length then W at' ++ [(i : Int)] else W j, ⟨?_, ?_, fun j q hj hq => ?_, fun j hj => ?_, fun j k hjk hk => ?_, fun j q hq => ?_, fun j q hq c hc hd => ?_⟩, hV _ hat⟩
  ·simp only [hV 0 (by omega)]; exact h.z
  ·obtain ⟨c, hc⟩ := h.z0; exact ⟨c, hold hc⟩
  ·rcases hnew hq with ⟨h1, h2⟩ | ⟨rfl, rfl⟩
   ·obtain ⟨u, c, k1, k2, k3, k4, k5, k6⟩ := h.par j q hj h2
    exact ⟨u, c, k1, k2, k3, k4, by omega, by simp only [hV j h1, hV u (by omega)]; exact k6⟩
   ·exact ⟨at', i, rfl, rfl, hat, hi, .inr ⟨rfl, by omega⟩, by simp only [if_true, hV at' hat]⟩
  ·simp only [List.length_append, List.length_cons, List.length_nil] at hj
   by_cases e2 : j = l.length
   ·subst e2; simp only [if_true]
    intro x hx
    rcases List.mem_append.1 hx with hx | hx
    ·exact h.ok at' hat x hx
    ·simp only [List.mem_singleton] at hx; omega
   ·simp only [hV j (by omega)]; exact h.ok j (by omega)
  ·simp only [List.length_append, List.length_cons, List.length_nil] at hk
   by_cases e2 : k = l.length
   ·subst e2; simp only [if_true, hV j (by omega), rank_snoc, Int.toNat_natCast]
    exact h.bound (by omega) hat
   ·simp only [hV j (by omega), hV k (by omega)]; exact h.mono j k hjk (by omega)
  ·rcases hnew hq with ⟨h1, h2⟩ | ⟨rfl, rfl⟩
   ·simp only [hV j h1]; exact h.path j q h2
   ·simp only [if_true, afterR_app, runR_app, p1, p2, p3, afterR, runR, ho, and_self]
  ·by_cases hd' : j < at' ∨ (j = at' ∧ c < i)
   ·rcases hnew hq with ⟨h1, h2⟩ | ⟨rfl, rfl⟩
    ·obtain ⟨k1, k2⟩ := h.done j q h2 c hc hd'
     refine ⟨k1, fun k3 k4 => ?_⟩
     obtain ⟨k, q', k5, k6, k7⟩ := k2 k3 k4
     exact ⟨k, q', hold k5, k6, by simp only [hV j h1, hV k (List.getElem?_eq_some_iff.1 k5).1]; exact k7⟩
    ·omega
   ·obtain ⟨rfl, rfl⟩ : j = at' ∧ c = i := by omega
    rcases hnew hq with ⟨h1, h2⟩ | ⟨h1, _⟩
    ·rw [hp] at h2; cases h2
     refine ⟨ho, fun _ _ => ⟨l.length, (((stepR a p.1.1 c).1, (stepR b p.1.2 c).1), (j : Int), (c : Int)), ?_, rfl, ?_⟩⟩
     ·rw [List.getElem?_append_right (Nat.le_refl _), Nat.sub_self]; rfl
     ·simp only [if_true, hV j h1, rank_snoc, Int.toNat_natCast]; exact Nat.le_refl _
    ·omega
theorem BInv.agree (ha : Valid a) (hb : Valid b) (hab : a.ins = b.ins) (hg : GoodL a b l) (h : BInv a b l W at' i) : ∀ (n : Nat) (v : List Int), v.length = n → WOk a.ins.toNat v →
  (∀ j c : Nat, j < l.length → c < a.ins.toNat → a.ins.toNat * rank a.ins.toNat (W j) + (c + 1) ≤ rank a.ins.toNat v → (j < at' ∨ (j = at' ∧ c < i))) →
  runR a 0 v = runR b 0 v ∧ ((afterR a 0 v = -1 ∧ afterR b 0 v = -1) ∨ ∃ (k : Nat) (q : Arr), l[k]? = some q ∧ q.1 = (afterR a 0 v, afterR b 0 v) ∧ rank a.ins.toNat (W k) ≤ rank a.ins.toNat v)
 | 0, v, hv, _, _ => by
   obtain rfl : v = [] := List.length_eq_zero_iff.1 hv
   obtain ⟨c, hc⟩ := h.z0
   exact ⟨rfl, .inr ⟨0, _, hc, rfl, by rw [h.z]; exact Nat.le_refl _⟩⟩
 | n + 1, v, hv, ho, hp => by
   have hins := ha.ins
   obtain ⟨u, c, rfl⟩ : ∃ u c, v = u ++ [c] := ⟨v.dropLast, v.getLast (by intro e; simp [e] at hv), (List.dropLast_concat_getLast _).symm⟩
   have hu : WOk a.ins.toNat u := fun x hx => ho x (List.mem_append_left _ hx)
   have hc := ho c (by simp)
   obtain ⟨c, rfl⟩ : ∃ d : Nat, c = (d : Int) := ⟨c.toNat, by omega⟩
   have hul : u.length = n := by simp at hv; omega
   rw [rank_snoc, Int.toNat_natCast] at hp ⊢
   have hca : (0 : Int) ≤ c ∧ (c : Int) < a.ins := by omega
   have hcb : (0 : Int) ≤ c ∧ (c : Int) < b.ins := by omega
   have hcn : c < a.ins.toNat := by omega
   have hK : rank a.ins.toNat u ≤ a.ins.toNat * rank a.ins.toNat u := Nat.le_mul_of_pos_left _ (by omega)
   obtain ⟨e1, e2⟩ := BInv.agree ha hb hab hg h n u hul hu fun j d hj hd hr => hp j d hj hd (by omega)
   rw [runR_app, runR_app, afterR_app, afterR_app, e1]
   rcases e2 with ⟨e2, e3⟩ | ⟨k, q, k1, k2, k3⟩
   ·rw [e2, e3]
    simp only [runR, afterR, stepR_dead]
    exact ⟨trivial, .inl ⟨trivial, trivial⟩⟩
   ·have hm := Nat.mul_le_mul_left a.ins.toNat k3
    have hm2 : a.ins.toNat * rank a.ins.toNat (W k) + (c + 1) ≤ a.ins.toNat * rank a.ins.toNat u + (c + 1) := by omega
    obtain ⟨d1, d2⟩ := h.done k q k1 c hcn (hp k c (List.getElem?_eq_some_iff.1 k1).1 hcn hm2)
    have hr := hg.rng q (List.mem_of_getElem? k1)
    have e3 : q.1.1 = afterR a 0 u := by rw [k2]
    have e4 : q.1.2 = afterR b 0 u := by rw [k2]
    rw [e3] at d1 d2 hr
    rw [e4] at d1 d2 hr
    have f1 := stepR_ends ha hr.1 hr.2.1 hca
    have f2 := stepR_ends hb hr.2.2.1 hr.2.2.2 hcb
    simp only [runR, afterR, d1, true_and]
    by_cases g1 : (stepR a (afterR a 0 u) c).1 = -1
    ·exact .inl ⟨g1, by omega⟩
    ·have g2 : (stepR b (afterR b 0 u) c).1 ≠ -1 := by omega
     obtain ⟨k', q', j1, j2, j3⟩ := d2 g1 g2
     have j4 : rank a.ins.toNat (W k') ≤ a.ins.toNat * rank a.ins.toNat u + (c + 1) := Nat.le_trans j3 hm2
     exact .inr ⟨k', q', j1, j2, j4⟩
theorem BInv.word (h : BInv a b l W at' i) : ∀ (n j : Nat) (acc : List Int), j < l.length → j < n → wordR l n j acc = W j ++ acc
 | 0, _, _, _, h2 => by omega
 | n + 1, j, acc, h1, h2 => by
   rw [wordR, Int.toNat_natCast]
   have hj := List.getElem?_eq_getElem h1
   rw [hj]
   by_cases h0 : j = 0
   ·subst h0
    obtain ⟨c, hc⟩ := h.z0
    rw [hj] at hc
    simp only [Option.some.injEq] at hc
    simp only [hc, if_true, h.z, List.nil_append]
   ·obtain ⟨q, c, k1, k2, k3, k4, k5, k6⟩ := h.par j _ (by omega) hj
    simp only
    rw [if_neg (by omega), k1, k2, BInv.word h n q _ (by omega) (by omega), k6]
    simp
theorem BInv.found (ha : Valid a) (hb : Valid b) (hab : a.ins = b.ins) (hg : GoodL a b l) (h : BInv a b l W at' i) {p : Arr} (hp : l[at']? = some p) (hi : i < a.ins.toNat) (ho : (stepR a p.1.1 i).2 ≠ (stepR b p.1.2 i).2) :
  Least2 a b (wordR l l.length at' [(i : Int)]) := by
 have hat := (List.getElem?_eq_some_iff.1 hp).1
 rw [h.word _ _ _ hat hat]
 obtain ⟨p1, p2, p3⟩ := h.path at' p hp
 refine ⟨fun x hx => ?_, fun he => ?_, fun v hv hd => ?_⟩
 ·rcases List.mem_append.1 hx with hx | hx
  ·exact h.ok at' hat x hx
  ·simp only [List.mem_singleton] at hx; omega
 ·rw [runR_app, runR_app, p1, p2, p3] at he
  have := List.append_cancel_left he
  simp only [runR, List.cons.injEq] at this
  exact ho this.1
 ·by_cases hr : rank a.ins.toNat (W at' ++ [(i : Int)]) ≤ rank a.ins.toNat v
  ·exact hr
  ·exfalso
   refine hd (h.agree ha hb hab hg v.length v rfl hv fun j c hj hc hjc => ?_).1
   rw [rank_snoc, Int.toNat_natCast] at hr
   by_cases h1 : j < at'
   ·exact .inl h1
   by_cases h2 : j = at'
   ·subst h2; exact .inr ⟨rfl, by omega⟩
   ·have := mul_gap (k := a.ins.toNat) (h.mono at' j (by omega) hj); omega
end
def difP (z : Yld) : Bool := decide (z.x.2 ≠ z.y.2)
def wordZ (z : Yld) : List Int := wordR z.l z.l.length z.at' [z.inp]
theorem inR_find {a b : Mach} (ha : Valid a) (hb : Valid b) (hab : a.ins = b.ins) {at' : Nat} {p : Arr} : ∀ (n i : Nat) (l : List Arr) (W : Nat → List Int), GoodL a b l → BInv a b l W at' i → l[at']? = some p → n + i = a.ins.toNat →
  (∃ z, (inR a b at' p.1.1 p.1.2 n i l).1.find? difP = some z ∧ Least2 a b (wordZ z)) ∨
  ((inR a b at' p.1.1 p.1.2 n i l).1.find? difP = none ∧ ∃ W', BInv a b (inR a b at' p.1.1 p.1.2 n i l).2 W' at' a.ins.toNat)
 | 0, i, l, W, _, h, _, hn => by
   obtain rfl : i = a.ins.toNat := by omega
   exact .inr ⟨rfl, W, h⟩
 | n + 1, i, l, W, hg, h, hp, hn => by
   simp only [inR, List.find?_cons]
   by_cases ho : (stepR a p.1.1 i).2 = (stepR b p.1.2 i).2
   ·rw [show difP ⟨at', i, stepR a p.1.1 i, stepR b p.1.2 i, l⟩ = false by simp [difP, ho]]
    obtain ⟨W', hW, _⟩ := h.step ha hp (by omega) ho
    have hr := hg.rng p (List.mem_of_getElem? hp)
    have hg' := (hg.next ha hb (List.getElem?_eq_some_iff.1 hp).1 (i := (i : Int)) ⟨hr.1, hr.2.1⟩ ⟨hr.2.2.1, hr.2.2.2⟩ (by omega) hab).1
    exact inR_find ha hb hab n (i + 1) _ W' hg' hW (nextL_get hp) (by omega)
   ·rw [show difP ⟨at', i, stepR a p.1.1 i, stepR b p.1.2 i, l⟩ = true by simp [difP, ho]]
    exact .inl ⟨_, rfl, h.found ha hb hab hg hp (by omega) ho⟩
theorem outR_find {a b : Mach} (ha : Valid a) (hb : Valid b) (hab : a.ins = b.ins) : ∀ (n at' : Nat) (l : List Arr) (W : Nat → List Int), GoodL a b l → BInv a b l W at' 0 → n + at' = 5000 → at' ≤ l.length →
  (∃ z, (outR a b n at' l).find? difP = some z ∧ Least2 a b (wordZ z)) ∨
  ((outR a b n at' l).find? difP = none ∧ ∀ v, WOk a.ins.toNat v → runR a 0 v = runR b 0 v)
 | 0, at', l, _, hg, _, hn, hat => by have := hg.len ha hb; omega
 | n + 1, at', l, W, hg, h, hn, hat => by
   simp only [outR]
   cases hp : l[at']? with
   | none =>
     have hl : l.length ≤ at' := by simpa using hp
     exact .inr ⟨rfl, fun v hv => (h.agree ha hb hab hg v.length v rfl hv fun j c hj _ _ => .inl (by omega)).1⟩
   | some p =>
     simp only [List.find?_append]
     have hpl := (List.getElem?_eq_some_iff.1 hp).1
     rcases inR_find ha hb hab a.ins.toNat 0 l W hg h hp rfl with ⟨z, h1, h2⟩ | ⟨h1, W', h2⟩
     ·exact .inl ⟨z, by rw [h1]; rfl, h2⟩
     ·rw [h1, Option.none_or]
      obtain ⟨_, h4, h5⟩ := inR_good ha hb hab a.ins.toNat 0 l hg hp rfl
      refine outR_find ha hb hab n (at' + 1) _ W' h4 ⟨h2.z, h2.z0, fun j q hj hq => ?_, h2.ok, h2.mono, h2.path, fun j q hq c hc hd => h2.done j q hq c hc (by omega)⟩ (by omega) (by have := (List.getElem?_eq_some_iff.1 h5).1; omega)
      obtain ⟨u, c, k1, k2, k3, k4, k5, k6⟩ := h2.par j q hj hq
      exact ⟨u, c, k1, k2, k3, k4, by omega, k6⟩
theorem diff_least {a b : Mach} (ha : Valid a) (hb : Valid b) (hab : a.ins = b.ins) :
  ((diffO a b).isSome = true ∧ Least2 a b (diffW a b)) ∨ (diffO a b = none ∧ diffW a b = [] ∧ ∀ v, WOk a.ins.toNat v → runR a 0 v = runR b 0 v) := by
 have he : diffO a b = (outR a b 5000 0 arr0).find? difP := rfl
 rcases outR_find ha hb hab 5000 0 arr0 _ (.zero ha hb) (.start a b) rfl (Nat.zero_le _) with ⟨z, h1, h2⟩ | ⟨h1, h2⟩
 ·rw [← he] at h1
  refine .inl ⟨by rw [h1]; rfl, ?_⟩
  unfold diffW; rw [h1]; exact h2
 ·rw [← he] at h1
  exact .inr ⟨h1, by unfold diffW; rw [h1], h2⟩
def besRow (n : Int) (r : Row) : Row := (false, r.2.map fun e => if 0 ≤ e.1 then (e.1 + n, e.2) else e)
def besM (a b : Mach) : Mach := ⟨a.ins, max a.outs b.outs, false, a.rows ++ b.rows.map (besRow a.rows.length)⟩
theorem besM_len (a b : Mach) : (besM a b).rows.length = a.rows.length + b.rows.length := by simp [besM]
theorem besM_wv {a b : Mach} (ha : Valid a) (hb : Valid b) (hab : a.ins = b.ins) : WV (besM a b) := by
 have h1 := ha.rows
 have h2 := hb.rows
 refine ⟨ha.ins, by rw [besM_len]; omega, fun r hr => ?_⟩
 rw [besM_len]
 simp only [besM] at hr ⊢
 rcases List.mem_append.1 hr with hr | hr
 ·obtain ⟨k1, k2⟩ := ha.row r hr
  refine ⟨k1, fun e he => ?_⟩
  have := fits_cases (k2 e he)
  unfold fitsR; simp; omega
 ·obtain ⟨r', hr', rfl⟩ := List.mem_map.1 hr
  obtain ⟨k1, k2⟩ := hb.row r' hr'
  refine ⟨by simp only [besRow, List.length_map]; omega, fun e he => ?_⟩
  obtain ⟨e', he', rfl⟩ := List.mem_map.1 he
  have := fits_cases (k2 e' he')
  split <;> (unfold fitsR; simp; omega)
theorem bes_a (a b : Mach) {s i : Int} (hs : s < a.rows.length) : stepR (besM a b) s i = stepR a s i := by
 unfold stepR
 by_cases h0 : s < 0
 ·rw [if_pos h0, if_pos h0]
 ·rw [if_neg h0, if_neg h0]
  simp only [besM]
  rw [List.getElem?_append_left (by omega)]
theorem bes_b (a b : Mach) {t i : Int} (h0 : 0 ≤ t) : stepR (besM a b) (a.rows.length + t) i = if 0 ≤ (stepR b t i).1 then ((stepR b t i).1 + a.rows.length, (stepR b t i).2) else stepR b t i := by
 have hb' : stepR b t i = (((b.rows[t.toNat]?).map (·.2)).getD [])[i.toNat]?.getD (-1, -1) := by unfold stepR; rw [if_neg (by omega)]
 rw [hb']
 unfold stepR
 rw [if_neg (by omega)]
 simp only [besM]
 rw [List.getElem?_append_right (by omega), show ((a.rows.length : Int) + t).toNat - a.rows.length = t.toNat by omega, List.getElem?_map]
 cases hr : b.rows[t.toNat]? with
 | none => simp
 | some r =>
   simp only [Option.map_some, Option.getD_some, besRow, List.getElem?_map]
   cases he : r.2[i.toNat]? with
   | none => simp
   | some e => simp
theorem bes_runa {a : Mach} (ha : Valid a) (b : Mach) : ∀ (w : List Int) (s : Int), s < a.rows.length → (∀ i ∈ w, 0 ≤ i ∧ i < a.ins) → runR (besM a b) s w = runR a s w
 | [], _, _, _ => rfl
 | i :: w, s, hs, hw => by
   simp only [runR, bes_a a b hs]
   rw [bes_runa ha b w _ (stepR_lt ha hs (hw i List.mem_cons_self)) fun j hj => hw j (List.mem_cons_of_mem _ hj)]
theorem runR_deadR (m : Mach) : ∀ (w : List Int), runR m (-1) w = w.map fun _ => -1
 | [] => rfl
 | a :: w => by simp only [runR, stepR_dead, runR_deadR m w, List.map_cons]
theorem bes_runb (a : Mach) {b : Mach} (hb : Valid b) : ∀ (w : List Int) (t : Int), 0 ≤ t → t < b.rows.length → (∀ i ∈ w, 0 ≤ i ∧ i < b.ins) → runR (besM a b) (a.rows.length + t) w = runR b t w
 | [], _, _, _, _ => rfl
 | i :: w, t, h0, ht, hw => by
   have hw' : ∀ j ∈ w, 0 ≤ j ∧ j < b.ins := fun j hj => hw j (List.mem_cons_of_mem _ hj)
   simp only [runR, bes_b a b h0]
   rcases stepR_ends hb h0 ht (hw i List.mem_cons_self) with h | h
   ·rw [if_neg (by omega), h.1, runR_deadR, runR_deadR]
   ·rw [if_pos h.1]
    simp only
    rw [Int.add_comm, bes_runb a hb w _ h.1 h.2.1 hw']
open Go Go.Proofs Go.Shelf Go.RowKit
def sh_lays156_ren : Go.Shelf.Ren := ⟨fun | 156 => 59 | 165 => 97 | 166 => 98 | 169 => 99 | 240 => 138 | 241 => 139 | 276 => 167 | 277 => 168 | n => n, fun | 31 => 77 | 9 => 9 | 3 => 3 | 4 => 4 | 0 => 0 | 20 => 20 | 72 => 164 | 76 => 168 | 70 => 162 | 37 => 30 | 75 => 167 | 127 => 221 | 164 => 252 | 5 => 5 | 80 => 170 | n => n, fun | n => n⟩
theorem sh_lays156 : Go.Proofs.Lays.n156 Tryz.prog sh_lays156_ren := {
 mixed := by kernel_rfl
 f156 := Tryz.func59.trans (congrArg some (by kernel_rfl))
 f165 := Tryz.func97.trans (congrArg some (by kernel_rfl))
 f166 := Tryz.func98.trans (congrArg some (by kernel_rfl))
 f169 := Tryz.func99.trans (congrArg some (by kernel_rfl))
 f240 := Tryz.func138.trans (congrArg some (by kernel_rfl))
 f241 := Tryz.func139.trans (congrArg some (by kernel_rfl))
 f276 := Tryz.func167.trans (congrArg some (by kernel_rfl))
 f277 := Tryz.func168.trans (congrArg some (by kernel_rfl))
 t0 := Tryz.underlying0
 a0 := Tryz.isAgg0
 z0 := Tryz.sizeOf0
 v0 := Tryz.zeroValue0
 t3 := Tryz.underlying3
 a3 := Tryz.isAgg3
 z3 := Tryz.sizeOf3
 v3 := Tryz.zeroValue3
 t4 := Tryz.underlying4
 a4 := Tryz.isAgg4
 z4 := Tryz.sizeOf4
 v4 := Tryz.zeroValue4
 t9 := Tryz.underlying9
 a9 := Tryz.isAgg9
 z9 := Tryz.sizeOf9
 v9 := Tryz.zeroValue9
 t20 := Tryz.underlying20
 a20 := Tryz.isAgg20
 z20 := Tryz.sizeOf20
 v20 := Tryz.zeroValue20
 t31 := Tryz.underlying77
 a31 := Tryz.isAgg77
 z31 := Tryz.sizeOf77
 v31 := Tryz.zeroValue77
 t37 := Tryz.underlying30
 a37 := Tryz.isAgg30
 z37 := Tryz.sizeOf30
 v37 := Tryz.zeroValue30
 t70 := Tryz.underlying162
 a70 := Tryz.isAgg162
 z70 := Tryz.sizeOf162
 v70 := Tryz.zeroValue162
 t72 := Tryz.underlying164
 a72 := Tryz.isAgg164
 z72 := Tryz.sizeOf164
 v72 := Tryz.zeroValue164
 t75 := Tryz.underlying167
 a75 := Tryz.isAgg167
 z75 := Tryz.sizeOf167
 v75 := Tryz.zeroValue167
 t76 := Tryz.underlying168
 a76 := Tryz.isAgg168
 z76 := Tryz.sizeOf168
 v76 := Tryz.zeroValue168
 t127 := Tryz.underlying221
 a127 := Tryz.isAgg221
 z127 := Tryz.sizeOf221
 v127 := Tryz.zeroValue221
 t164 := Tryz.underlying252
 a164 := Tryz.isAgg252
 z164 := Tryz.sizeOf252
 v164 := Tryz.zeroValue252 }
theorem sh_Builder_Extra_156 : Builder.Extra Tryz.prog sh_lays156_ren := {
 sizeBuilder := by kernel_rfl
 liesBuilder := by kernel_rfl
 t5 := Tryz.underlying5
 a5 := Tryz.isAgg5
 z5 := Tryz.sizeOf5
 v5 := Tryz.zeroValue5
 infoByte := by kernel_rfl
 cellsByte := by kernel_rfl
 sizeByte := by kernel_rfl
 neB5 := by decide }
theorem sh_strings_Join_none (a : Option Addr) (c : Nat) (sep : ByteArray) (w : World) :
 Calls Tryz.prog 59 #[.slice a 0 c, .string sep] w fun e w' => e = .returned (.string ⟨#[]⟩) ∧ w' = w := Any.strings_Join_none sh_lays156 sh_Builder_Extra_156 a c sep w
theorem sh_strings_Join (bk o c : Nat) (xs : List ByteArray) (sep : ByteArray) (w : World) (hcells : ∀ (j : Nat) x, xs[j]? = some x → w.cell? ⟨bk, o + j, none⟩ = some (.string x)) (hbk : bk < w.heap.size) (hN : xs.length ≤ 140737488355328) (hcap : xs.length ≤ c) (hlen : (Lib.join (xs.map (·.data.toList)) sep.data.toList).length ≤ 140737488355328) :
 Calls Tryz.prog 59 #[.slice (some ⟨bk, o, none⟩) xs.length c, .string sep] w fun e w' => e = .returned (.string ⟨(Lib.join (xs.map (·.data.toList)) sep.data.toList).toArray⟩) ∧ Below w.heap.size w w' := Any.strings_Join sh_lays156 sh_Builder_Extra_156 bk o c xs sep w hcells hbk hN hcap hlen
def sh_lays137_ren : Go.Shelf.Ren := ⟨fun | 137 => 93 | 217 => 133 | 266 => 160 | n => n, fun | 9 => 9 | 5 => 5 | 3 => 3 | n => n, fun | n => n⟩
theorem sh_lays137 : Go.Proofs.Lays.n137 Tryz.prog sh_lays137_ren := {
 mixed := by kernel_rfl
 f137 := Tryz.func93.trans (congrArg some (by kernel_rfl))
 f217 := Tryz.func133.trans (congrArg some (by kernel_rfl))
 f266 := Tryz.func160.trans (congrArg some (by kernel_rfl))
 t3 := Tryz.underlying3
 a3 := Tryz.isAgg3
 z3 := Tryz.sizeOf3
 v3 := Tryz.zeroValue3
 t5 := Tryz.underlying5
 a5 := Tryz.isAgg5
 z5 := Tryz.sizeOf5
 v5 := Tryz.zeroValue5
 t9 := Tryz.underlying9
 a9 := Tryz.isAgg9
 z9 := Tryz.sizeOf9
 v9 := Tryz.zeroValue9 }
theorem sh_strings_IndexByte (s : ByteArray) (c : Int) (w : World) :
 Calls Tryz.prog 93 #[.string s, .int .u8 c] w fun e w' => e = .returned (.int .i64 (Lib.indexByte s.data.toList c.toNat.toUInt8)) ∧ w' = w := Any.strings_IndexByte sh_lays137 s c w
def sh_lays138_ren : Go.Shelf.Ren := ⟨fun | 138 => 53 | 195 => 89 | 218 => 90 | 143 => 91 | 219 => 132 | 217 => 133 | 225 => 157 | 224 => 158 | 267 => 159 | 266 => 160 | 314 => 175 | n => n, fun | 9 => 9 | 3 => 3 | 4 => 4 | 5 => 5 | 0 => 0 | 46 => 209 | 146 => 238 | 51 => 237 | n => n, fun | 1 => 0 | n => n⟩
theorem sh_lays138 : Go.Proofs.Lays.n138 Tryz.prog sh_lays138_ren := {
 mixed := by kernel_rfl
 f138 := Tryz.func53.trans (congrArg some (by kernel_rfl))
 f143 := Tryz.func91.trans (congrArg some (by kernel_rfl))
 f195 := Tryz.func89.trans (congrArg some (by kernel_rfl))
 f217 := Tryz.func133.trans (congrArg some (by kernel_rfl))
 f218 := Tryz.func90.trans (congrArg some (by kernel_rfl))
 f219 := Tryz.func132.trans (congrArg some (by kernel_rfl))
 f224 := Tryz.func158.trans (congrArg some (by kernel_rfl))
 f225 := Tryz.func157.trans (congrArg some (by kernel_rfl))
 f266 := Tryz.func160.trans (congrArg some (by kernel_rfl))
 f267 := Tryz.func159.trans (congrArg some (by kernel_rfl))
 f314 := Tryz.func175.trans (congrArg some (by kernel_rfl))
 t0 := Tryz.underlying0
 a0 := Tryz.isAgg0
 z0 := Tryz.sizeOf0
 v0 := Tryz.zeroValue0
 t3 := Tryz.underlying3
 a3 := Tryz.isAgg3
 z3 := Tryz.sizeOf3
 v3 := Tryz.zeroValue3
 t4 := Tryz.underlying4
 a4 := Tryz.isAgg4
 z4 := Tryz.sizeOf4
 v4 := Tryz.zeroValue4
 t5 := Tryz.underlying5
 a5 := Tryz.isAgg5
 z5 := Tryz.sizeOf5
 v5 := Tryz.zeroValue5
 t9 := Tryz.underlying9
 a9 := Tryz.isAgg9
 z9 := Tryz.sizeOf9
 v9 := Tryz.zeroValue9
 t46 := Tryz.underlying209
 a46 := Tryz.isAgg209
 z46 := Tryz.sizeOf209
 v46 := Tryz.zeroValue209
 t51 := Tryz.underlying237
 a51 := Tryz.isAgg237
 z51 := Tryz.sizeOf237
 v51 := Tryz.zeroValue237
 t146 := Tryz.underlying238
 a146 := Tryz.isAgg238
 z146 := Tryz.sizeOf238
 v146 := Tryz.zeroValue238
 g1 := by kernel_rfl }
open Go.RowKit Go.Lib in
theorem sh_strings_Count_one (s : ByteArray) (c : UInt8) (w : World) :
 Calls Tryz.prog 53 #[.string s, .string ⟨#[c]⟩] w fun e w' => e = .returned (.int .i64 (Lib.countByte s.data.toList c)) ∧ w' = w := Any.strings_Count_one sh_lays138 s c w
def sh_lays149_ren : Go.Shelf.Ren := ⟨fun | 149 => 54 | 222 => 92 | n => n, fun | 9 => 9 | 5 => 5 | 3 => 3 | 4 => 4 | n => n, fun | n => n⟩
theorem sh_lays149 : Go.Proofs.Lays.n149 Tryz.prog sh_lays149_ren := {
 mixed := by kernel_rfl
 f149 := Tryz.func54.trans (congrArg some (by kernel_rfl))
 f222 := Tryz.func92.trans (congrArg some (by kernel_rfl))
 t3 := Tryz.underlying3
 a3 := Tryz.isAgg3
 z3 := Tryz.sizeOf3
 v3 := Tryz.zeroValue3
 t4 := Tryz.underlying4
 a4 := Tryz.isAgg4
 z4 := Tryz.sizeOf4
 v4 := Tryz.zeroValue4
 t5 := Tryz.underlying5
 a5 := Tryz.isAgg5
 z5 := Tryz.sizeOf5
 v5 := Tryz.zeroValue5
 t9 := Tryz.underlying9
 a9 := Tryz.isAgg9
 z9 := Tryz.sizeOf9
 v9 := Tryz.zeroValue9 }
theorem sh_strings_LastIndexByte (s : ByteArray) (c : Int) (hs : s.size < 4611686018427387904) (w : World) :
 Calls Tryz.prog 54 #[.string s, .int .u8 c] w fun e w' => e = .returned (.int .i64 (Lib.lastIndexByte s c)) ∧ w' = w := Any.strings_LastIndexByte sh_lays149 s c hs w
def wOf (l : List Int) (n : Int) : List Int := (l.take 12).map (· % n)
theorem wOf_snoc {l : List Int} {i : Nat} {x n : Int} (h : l[i]? = some x) (hi : i < 12) : wOf (l.take (i + 1)) n = wOf (l.take i) n ++ [x % n] := by
 unfold wOf
 obtain ⟨h1, rfl⟩ := List.getElem?_eq_some_iff.1 h
 rw [List.take_take, List.take_take, Nat.min_eq_right (by omega), Nat.min_eq_right (by omega), List.take_add_one, List.getElem?_eq_getElem h1, List.map_append]
 rfl
theorem isEmpty_len {α : Type} (l : List α) : l.isEmpty = (l.length == 0) := by cases l <;> rfl
theorem wOf_is (nl : Bool) (l : List Int) (c : Cp) (n : Int) (hn : 1 ≤ n) (hl : ∀ x ∈ l, 0 ≤ x ∧ x < 256) : PureIs prog 7 [.ag [.sl nl (l.map u8C) c], .sc (.int .i64 n)] (.sl (wOf l n).isEmpty ((wOf l n).map intC) .unk) := by
 refine PureIs.of1 3 [4, 5, 6, 15] func7 ntmps7 results7 fun _ => ?_
 refine EvC.a ?_
 refine EvC.z 0 ?_
 refine EvC.a ?_
 refine EvC.seq ?_
 refine EvC.a ?_
 refine EvC.block ?_
 refine EvC.loopS (σ := Nat) (fun i => ⟨[(1, .sc (.int .i64 n)), (2, .ia [.sl nl (l.map u8C) c]), (5, .tl 0 i (i == 0)), (6, .sc (.int .i64 i))], [], [(0, .arr 1 ((wOf (l.take i) n).map intC) true)], 1⟩) (fun i => l.length - i) (fun i => i ≤ l.length ∧ i ≤ 12) [1, 2, 5, 6] 1 ?_ ?_
 ·refine ⟨[(2, 0)], 0, rfl, (by simp only [List.take_zero, wOf]; simp only [go_sem] <;> rfl), Nat.zero_le _, Nat.zero_le _⟩
 rintro i ⟨h1, h2⟩
 have hlw : (wOf (l.take i) n).length = i := by simp [wOf]; omega
 have hlen : ((wOf (l.take i) n).map intC).length = i := by simp [hlw]
 refine EvC.seq ?_
 refine EvC.g ?_
 refine EvC.cd (fun hc => ?_) (fun hc => ?_)
 rotate_left
 ·refine EvC.exit ?_
  have hi : i = l.length ∨ i = 12 := by
   by_cases h : (i : Int) < l.length
   ·simp [h] at hc; omega
   ·omega
  have hw : wOf (l.take i) n = wOf l n := by
   unfold wOf
   rcases hi with rfl | rfl
   ·rw [List.take_length]
   ·rw [List.take_take]; rfl
  have he : (wOf l n).isEmpty = (i == 0) := by
   rw [← hw, isEmpty_len, hlw]
  refine EvC.frz 0 (by simp only [go_sem, hlen] <;> rfl) ?_
  refine EvC.a ?_
  refine EvC.rz ?_
  simp only [go_sem]
  rw [hw, he]
 have hi : i < l.length ∧ i < 12 := by
  by_cases h : (i : Int) < l.length
  ·simp [h] at hc; omega
  ·simp [h] at hc
 have he : l[i]? = some l[i] := List.getElem?_eq_getElem hi.1
 have hx := hl _ (List.getElem_mem hi.1)
 generalize l[i] = x at he hx
 refine EvC.skip ?_
 refine EvC.seq ?_
 refine EvC.block ?_
 have hI : inI64 x = true := inI64_of (by omega) (by omega)
 refine EvC.b ?_ (by simp only [go_sem, he, u8C] <;> rfl) (by simp [room_eq, AV.norefs, AV.noref, hI, hlw, hx.1]; omega)
 refine EvC.bi ?_
 refine ⟨[(0, 0)], i + 1, rfl, ?_, ⟨by omega, by omega⟩, by omega⟩
 have h0 : (i + 1 == 0) = false := by simp
 simp only [go_sem, h0, hlw, wOf_snoc he hi.2, intC, List.length_append, List.length_map] <;> rfl
open Go
inductive X (α : Type) where
 | ok (a : α)
 | er (n : Nat) (o : Option Oper)
abbrev ML := T (Option RObj)
def memB (i : Nat) : List Nat → Bool
 | [] => false
 | j :: l => Nat.beq i j || memB i l
noncomputable def T.map {α : Type} (f : α → α) (t : T α) : T α := T.rec (motive := fun _ => T α) .nil (fun _ v _ l r => .nd l (f v) r) t
noncomputable def tmsOf : List AV → Nat → T AV → T AV
 | [], _, t => t
 | x :: xs, i, t => tmsOf xs (Nat.succ i) (T.put t x i)
noncomputable def es0 (xs : List AV) (m : ML) (nx : Nat) : ES := ⟨tmsOf xs 0 (T.mk .junk 8), m, nx⟩
def gslotT (ops : List Oper) (j : Nat) : Option Nat := match ops[j]? with
 | some o => o.dst
 | none => none
def gbT : Bool → Bool → Bool
 | true, g => g
 | false, g => !g
def gvalT (want : Bool) : AV → Option Bool
 | .sc (.bool g) => some (gbT want g)
 | .sc (.int _ _) => some false
 | .sc (.tuple _) => some false
 | _ => none
noncomputable def resT1 (P : Program) (s : ES) : ResultVar → Option AV
 | .tmp t => match T.get .junk s.tm t with
   | .junk => none
   | v => some v
 | .cell a t => match tinfo P t with
   | some ti => match T.get .junk s.tm a with
     | .rf i off => match T.get none s.mem i with
       | some (.cells cs) => bif Nat.ble (off + ti.size) cs.length && (ti.agg || Nat.beq ti.size 1) then some (mkv ti.agg ((cs.drop off).take ti.size)) else none
       | _ => none
     | _ => none
   | none => none
noncomputable def resTs (P : Program) (s : ES) : List ResultVar → Option (List AV)
 | [] => some []
 | x :: xs => match resT1 P s x with
   | some v => match resTs P s xs with
     | some vs => some (v :: vs)
     | none => none
   | none => none
abbrev CallF := Nat → List AV → ML → Nat → X (AV × ML × Nat)
def dokT (sz : Nat) : Option Nat → Bool
 | none => true
 | some k => Nat.blt k sz
def frzL {α β : Type} (f : ML → α → Option (β × ML)) : ML → List α → Option (List β × ML)
 | m, [] => some ([], m)
 | m, x :: l => match f m x with
   | some (y, m1) => match frzL f m1 l with
     | some (l', m2) => some (y :: l', m2)
     | none => none
   | none => none
noncomputable def frzO (f : ML → List AV → Option (List AV × ML)) (m : ML) (i n : Nat) : Option (List (List AV) × ML) := match T.get none m i with
 | some (.arr esz es fz) => bif Nat.beq n es.length then (bif fz then some (es, m) else match frzL f m es with
  | some (es', m1) => match T.get none m1 i with
    | some (.arr esz' es2 _) => bif Nat.beq esz' esz && Nat.beq es2.length es.length then some (es', T.put m1 (some (.arr esz es' true)) i) else none
    | _ => none
  | none => none) else none
 | _ => none
noncomputable def frzV : Nat → ML → AV → Option (AV × ML)
 | 0, _, _ => none
 | n + 1, m, v => match v with
   | .sc x => some (.sc x, m)
   | .sl b es c => some (.sl b es c, m)
   | .ia cs => some (.ia cs, m)
   | .ag cs => match frzL (frzV n) m cs with
     | some (l, m') => some (.ag l, m')
     | none => none
   | .tu cs => match frzL (frzV n) m cs with
     | some (l, m') => some (.tu l, m')
     | none => none
   | .fn f cs => match frzL (frzV n) m cs with
     | some (l, m') => some (.fn f l, m')
     | none => none
   | .ifc t x => match frzV n m x with
     | some (y, m') => some (.ifc t y, m')
     | none => none
   | .tl i len nl => match frzO (frzL (frzV n)) m i len with
     | some (es, m') => some (.sl nl es .unk, m')
     | none => none
   | .tv i k off len cap => match frzO (frzL (frzV n)) m i k with
     | some (es, m') => some (.sl false (tvEs es k off len) (tvCap len cap), m')
     | none => none
   | _ => none
noncomputable def capO (k : ES → Option (List AV × ES)) (v : AV) (s : ES) : Option (List AV × ES) := match frzV 20 s.mem v with
 | some (y, m') => match k ⟨s.tm, m', s.nx⟩ with
   | some (cs', s') => some (y :: cs', s')
   | none => none
 | none => none
noncomputable def frzCaps : List AV → ES → Option (List AV × ES)
 | [], s => some ([], s)
 | c :: cs, s => match c with
   | .rf i off => match T.get .none s.mem i with
     | some (.cells xs) => match frzL (frzV 20) s.mem xs with
       | some (xs', m1) => match T.get .none m1 i with
         | some (.cells xs2) => bif Nat.beq xs2.length xs.length then match frzCaps cs ⟨T.map (AV.deep (toIa i xs')) s.tm, T.put m1 none i, s.nx⟩ with
           | some (cs', s') => some (.ia (xs'.drop off) :: cs', s')
           | none => none else none
         | _ => none
       | none => none
     | _ => none
   | v => capO (frzCaps cs) v s
def objIds : RObj → List Nat
 | .cells cs => AV.idss cs
 | .arr _ es fz => bif fz then [] else es.flatMap AV.idss
 | .map _ es => es.flatMap fun p => p.2.ids
noncomputable def reachM (m : ML) : Nat → List Nat → List Nat → Option (List Nat)
 | 0, _, _ => none
 | n + 1, [], done => some done
 | n + 1, i :: todo, done => bif memB i done then reachM m n todo done else match T.get none m i with
   | none => reachM m n todo done
   | some o => reachM m n (objIds o ++ todo) (i :: done)
noncomputable def restr (m : ML) : List Nat → ML → ML
 | [], t => t
 | i :: l, t => restr m l (T.put t (T.get none m i) i)
noncomputable def closedB (m : ML) (all : List Nat) : List Nat → Bool
 | [] => true
 | i :: l => (match T.get none m i with
   | some o => (objIds o).all fun j => memB j all
   | none => false) && closedB m all l
noncomputable def ltB (m : ML) (n : Nat) : List Nat → Bool
 | [] => true
 | i :: l => (Nat.blt i n && match T.get none m i with
   | some o => (objIds o).all fun j => Nat.blt j n
   | none => false) && ltB m n l
noncomputable def fxOf (m : ML) : List Nat → List (Nat × RObj)
 | [] => []
 | i :: l => match T.get none m i with
   | some o => (i, o) :: fxOf m l
   | none => fxOf m l
noncomputable def putFx : List (Nat × RObj) → ML → ML
 | [], m => m
 | (i, o) :: l, m => putFx l (T.put m (some o) i)
structure Iu where
 o : Oper
 val : AV
 fx : List (Nat × RObj)
 rd : List Nat
 lo : Nat
 hi : Nat
def wlU (t : Iu) : List Nat := (match t.o.dst with | some k => [2 * k] | none => []) ++ t.fx.map fun p => 2 * p.1 + 1
noncomputable def opR (tm : T AV) (sl : List Nat) : Operand → Option AV
 | .tmp t => bif memB (2 * t) sl then opT tm (.tmp t) else none
 | x => opT tm x
noncomputable def LR (m : ML) (ids : List Nat) (i : Nat) : Option RObj := bif memB i ids then T.get none m i else none
noncomputable def idsT (tm : T AV) (a : Bool) : List Operand → List Nat
 | [] => []
 | x :: xs => (match opT tm x with
   | some v => bif a then v.idsA else v.ids
   | none => []) ++ idsT tm a xs
noncomputable def ruOf (id : Nat) : R → Option (AV × List (Nat × RObj))
 | .val v => some (v, [])
 | .new v o => some (v, [(id, o)])
 | .upd v i o => some (v, [(i, o)])
 | .key _ _ _ => none
noncomputable def drGo (P : Program) (call : CallF) (gs : List Nat) (o : Oper) (st : ES) : X (Iu × ES) := match o.op with
 | .call ⟨.value callee, args, _⟩ => match opT st.tm callee, evs (opT st.tm) args.toList with
   | some (.fn f cs), some vs => match reachM st.mem 2000 (AV.idss (vs ++ cs)) [] with
     | some ids => match call f (vs ++ cs) (restr st.mem ids (T.mk none 16)) st.nx with
       | .ok (r, m1, nx1) => match reachM m1 2000 (r.ids ++ ids) [] with
         | some ids1 => bif r.ids.all (fun j => memB j ids1) && (closedB m1 ids1 ids1 && (ids1.all (fun j => memB j ids || (Nat.ble st.nx j && Nat.blt j nx1)) && (ids.all (fun j => memB j ids1) && (Nat.ble st.nx nx1 && ((AV.idss (vs ++ cs)).all (fun j => Nat.blt j st.nx) && ltB st.mem st.nx ids)))))
           then .ok (⟨o, r, fxOf m1 ids1, gs ++ (opSlots o.op.operands.toList ++ odds ids), st.nx, nx1⟩, (⟨st.tm, putFx (fxOf m1 ids1) st.mem, nx1⟩ : ES).put o.dst r) else .er 30 (some o)
         | none => .er 31 (some o)
       | .er n x => .er n x
     | none => .er 32 (some o)
   | _, _ => .er 1 (some o)
 | _ => match xopT P (opR st.tm (opSlots o.op.operands.toList)) (LR st.mem (bif memless o.op then [] else idsT st.tm (adrOp o.op) o.op.operands.toList)) st.nx o with
   | some r => match ruOf st.nx r with
     | some (v, fx) => .ok (⟨o, v, fx, gs ++ (opSlots o.op.operands.toList ++ odds (bif memless o.op then [] else idsT st.tm (adrOp o.op) o.op.operands.toList)), st.nx, Nat.add st.nx 1⟩, st.eff o.dst r)
     | none => .er 33 (some o)
   | none => .er 2 (some o)
noncomputable def drOps (P : Program) (call : CallF) (sz : Nat) (all : List Oper) : List Oper → ES → X (List Iu × ES)
 | [], st => .ok ([], st)
 | o :: rest, st => bif dokT sz o.dst then match (match o.guard with
   | none => drGo P call [] o st
   | some (j, want) => match gslotT all j with
     | none => .er 3 (some o)
     | some k => match gvalT want (T.get .junk st.tm k) with
       | some true => drGo P call [2 * k] o st
       | some false => .ok (⟨o, .sc undef, [], [2 * k], st.nx, st.nx⟩, st.put o.dst (.sc undef))
       | none => .er 4 (some o)) with
   | .ok (t, st') => match drOps P call sz all rest st' with
     | .ok (l, st2) => .ok (t :: l, st2)
     | .er n x => .er n x
   | .er n x => .er n x
   else .er 11 (some o)
def ancU (l : List Iu) : Nat → Nat → Nat → Bool
 | 0, _, _ => false
 | k + 1, i, m => match l[i]? with
   | none => false
   | some t => memB m (depsOf t.o) || (depsOf t.o).any fun e => Nat.blt m e && ancU l k e m
def confOneU (all : List Iu) (i : Nat) (t : Iu) : Nat → List Iu → Bool
 | _, [] => true
 | m, u :: l => (Nat.beq i m || !((t.rd ++ wlU t).any fun x => memB x (wlU u)) || (bif Nat.blt i m then ancU all 30 m i else ancU all 30 i m)) && confOneU all i t (Nat.succ m) l
def confU (all : List Iu) : Nat → List Iu → Bool
 | _, [] => true
 | i, t :: l => ((depsOf t.o).all fun e => Nat.blt e i) && confOneU all i t 0 all && confU all (Nat.succ i) l
noncomputable def callB (call : CallF) (f : Nat) (vs cs : List AV) (m : ML) (nx : Nat) : X (AV × ML × Nat) := bif Nat.blt f 1000000 then call f (vs ++ cs) m nx else bif cs.isEmpty then .er 84 none else call (Nat.sub f 1000000) (cs ++ vs) m nx
noncomputable def evGo (P : Program) (call : CallF) (k : ES → X ES) (o : Oper) (st : ES) : X ES :=
 match o.op with
 | .call ⟨.value callee, args, _⟩ => match opT st.tm callee, evs (opT st.tm) args.toList with
   | some (.fn f cs), some vs => match callB call f vs cs st.mem st.nx with
     | .ok (r, M', nx') => k ((⟨st.tm, M', nx'⟩ : ES).put o.dst r)
     | .er n x => .er n x
   | _, _ => .er 1 (some o)
 | _ => match xopT P (opT st.tm) (fun i => T.get none st.mem i) st.nx o with
   | some r => k (st.eff o.dst r)
   | none => .er 2 (some o)
noncomputable def evOps (P : Program) (call : CallF) (sz : Nat) (all : List Oper) : List Oper → ES → X ES
 | [], st => .ok st
 | o :: rest, st => bif dokT sz o.dst then match o.guard with
   | none => evGo P call (evOps P call sz all rest) o st
   | some (j, want) => match gslotT all j with
     | none => .er 3 (some o)
     | some k => match gvalT want (T.get .junk st.tm k) with
       | some true => evGo P call (evOps P call sz all rest) o st
       | some false => evOps P call sz all rest (st.put o.dst (.sc undef))
       | none => .er 4 (some o)
   else .er 11 (some o)
structure YS where
 s : ES
 y : List Nat
 acc : List (List AV)
def delN (i : Option Nat) (l : List Nat) : List Nat := match i with
 | none => l
 | some i => l.filter fun j => !Nat.beq i j
noncomputable def evOpsY (P : Program) (call : CallF) (sz : Nat) (all : List Oper) : List Oper → YS → X (YS × List ES)
 | [], t => .ok (t, [])
 | o :: rest, t => match (match o.op with
   | .move (.tmp k) => memB k t.y
   | _ => false) with
   | true => match o.guard, o.dst with
     | none, some d => bif Nat.blt d sz then evOpsY P call sz all rest ⟨(⟨t.s.tm, t.s.mem, Nat.add t.s.nx 1⟩ : ES).put (some d) .junk, d :: t.y, t.acc⟩ else .er 40 (some o)
     | _, _ => .er 40 (some o)
   | false => match (match o.op with
     | .call ⟨.value (.tmp k), args, _⟩ => bif memB k t.y then some args else none
     | _ => none) with
     | some args => match o.guard, evs (opT t.s.tm) args.toList with
       | none, some vs => bif dokT sz o.dst then match frzL (frzV 20) t.s.mem vs with
         | some (vs', m') => match evOps P call sz all rest ((⟨t.s.tm, m', Nat.add t.s.nx 1⟩ : ES).put o.dst (.sc (.bool false))) with
           | .ok sf => match evOpsY P call sz all rest ⟨(⟨t.s.tm, m', Nat.add t.s.nx 1⟩ : ES).put o.dst (.sc (.bool true)), delN o.dst t.y, t.acc ++ [vs']⟩ with
             | .ok (t', fs) => .ok (t', sf :: fs)
             | .er n x => .er n x
           | .er n x => .er n x
         | none => .er 41 (some o) else .er 41 (some o)
       | _, _ => .er 42 (some o)
     | none => match evOps P call sz all [o] t.s with
       | .ok s' => evOpsY P call sz all rest ⟨s', delN o.dst t.y, t.acc⟩
       | .er n x => .er n x
noncomputable def evFs (k : ES → X (Exit × ES)) : List (Exit × ES) → X (List (Exit × ES))
 | [] => .ok []
 | (e, s) :: l => match evFs k l with
   | .ok l' => match e with
     | .normal => match k s with
       | .ok r => .ok (r :: l')
       | .er n x => .er n x
     | e => .ok ((e, s) :: l')
   | .er n x => .er n x
def blkE (id : Nat) : Exit → Exit
 | .exit id' => bif Nat.beq id' id then .normal else .exit id'
 | e => e
structure YR where
 e : Exit
 t : YS
 fs : List (Exit × ES)
noncomputable def evY (P : Program) (call : CallF) (k : Nat → Code → ES → X (Exit × ES)) : Nat → Nat → Code → YS → X YR
 | 0, _, _, _ => .er 9 none
 | n + 1, sz, c, t => match c with
   | .skip => .ok ⟨.normal, t, []⟩
   | .exit id => .ok ⟨.exit id, t, []⟩
   | .ret => .ok ⟨.ret, t, []⟩
   | .seq x y => match evY P call k n sz x t with
     | .ok r => match evFs (k sz y) r.fs with
       | .ok fs => match r.e with
         | .normal => match evY P call k n sz y r.t with
           | .ok r2 => .ok ⟨r2.e, r2.t, fs ++ r2.fs⟩
           | .er n x => .er n x
         | e => .ok ⟨e, r.t, fs⟩
       | .er n x => .er n x
     | .er n x => .er n x
   | .cond o x y => match opT t.s.tm o with
     | some (.sc (.bool true)) => evY P call k n sz x t
     | some (.sc (.bool false)) => evY P call k n sz y t
     | _ => .er 5 none
   | .block id c => match evY P call k n sz c t with
     | .ok r => .ok ⟨blkE id r.e, r.t, r.fs.map fun p => (blkE id p.1, p.2)⟩
     | .er n x => .er n x
   | .loop c => match evY P call k n sz c t with
     | .ok r => match evFs (k sz (.loop c)) r.fs with
       | .ok fs => match r.e with
         | .normal => match evY P call k n sz (.loop c) r.t with
           | .ok r2 => .ok ⟨r2.e, r2.t, fs ++ r2.fs⟩
           | .er n x => .er n x
         | e => .ok ⟨e, r.t, fs⟩
       | .er n x => .er n x
     | .er n x => .er n x
   | .region id ops false => match evOpsY P call sz ops.toList ops.toList t with
     | .ok (t', fs) => .ok ⟨.normal, t', fs.map fun s => (.normal, s)⟩
     | .er n x => .er n x
   | .region id ops true => match drOps P call sz ops.toList ops.toList t.s with
     | .ok (its, s') => bif confU its 0 its then .ok ⟨.normal, ⟨s', ops.toList.foldl (fun y o => delN o.dst y) t.y, t.acc⟩, []⟩ else .er 60 none
     | .er n x => .er n x
   | _ => .er 7 none
def endT : Exit → Bool
 | .ret => true
 | .normal => true
 | _ => false
noncomputable def evSeq (P : Program) (call : CallF) (k : Nat → Code → ES → X (Exit × ES)) (n f : Nat) (caps : List AV) : X (List (List AV)) := bif AV.norefs caps then match P.funcs[f]? with
 | some fn => match fn.body with
   | some b => bif Nat.ble (caps.length + 1) fn.ntmps && (Nat.beq fn.results.size 0 && Nat.blt f 1000000) then match evY P call k n fn.ntmps b ⟨es0 (.junk :: caps) (T.mk none 16) 0, [0], []⟩ with
     | .ok r => bif endT r.e && r.fs.all fun p => endT p.1 then .ok r.t.acc else .er 44 none
     | .er n x => .er n x else .er 45 none
   | none => .er (10000 + f) none
 | none => .er 8 none else .er 46 none
noncomputable def bindT : List Nat → List AV → T AV → T AV
 | p :: ps, v :: vs, t => bindT ps vs (T.put t v p)
 | _, _, t => t
noncomputable def evRng (k : Nat → Code → ES → X (Exit × ES)) (sz : Nat) (ps : List Nat) (assign body : Code) (tm : T AV) : List (List AV) → ML → Nat → X (Exit × ES)
 | [], m, nx => .ok (.normal, ⟨tm, m, nx⟩)
 | x :: xs, m, nx => bif Nat.beq x.length ps.length then match k sz assign ⟨bindT ps x tm, m, nx⟩ with
   | .ok (.normal, s1) => match k sz body s1 with
     | .ok (e, s2) => match e with
       | .normal => evRng k sz ps assign body tm xs s2.mem s2.nx
       | .ret => .ok (.ret, ⟨tm, s2.mem, s2.nx⟩)
       | .exit id => .ok (.exit id, ⟨tm, s2.mem, s2.nx⟩)
       | _ => .er 50 none
     | .er n x => .er n x
   | .ok _ => .er 51 none
   | .er n x => .er n x
   else .er 52 none
structure Tab where
 isH : Nat → Bool
 H : Nat → List AV → Option AV
noncomputable def evCall (P : Program) (B : Tab) (k : Nat → Nat → Code → ES → X (Exit × ES)) : CallF := fun f xs mem nx => bif B.isH f then (match frzL (frzV 20) mem xs with
 | some (ys, m') => match B.H f ys with
   | some r => .ok (r, m', Nat.add nx 1)
   | none => .er (20000 + f) none
 | none => .er 12 none)
 else match P.funcs[f]? with
  | some fn => match fn.body with
    | some b => bif Nat.ble xs.length fn.ntmps && Nat.blt f 1000000 then match k nx fn.ntmps b (es0 xs mem nx) with
      | .ok (e, st') => bif endT e then match resTs P st' fn.results.toList with
        | some rs => .ok (mkRes rs, st'.mem, st'.nx)
        | none => .er 6 none
        else .er 15 none
      | .er n x => .er n x
      else .er 16 none
    | none => .er (10000 + f) none
  | none => .er 8 none
noncomputable def evC (P : Program) (B : Tab) : Nat → Bool → Nat → Nat → Code → ES → X (Exit × ES)
 | 0, _, _, _, _, _ => .er 9 none
 | n + 1, rg, b, sz, c, st => match c with
   | .skip => .ok (.normal, st)
   | .seq x y => match evC P B n rg b sz x st with
     | .ok (.normal, st') => evC P B n rg b sz y st'
     | r => r
   | .cond o x y => match opT st.tm o with
     | some (.sc (.bool true)) => evC P B n rg b sz x st
     | some (.sc (.bool false)) => evC P B n rg b sz y st
     | _ => .er 5 none
   | .block id c => match evC P B n rg b sz c st with
     | .ok (.exit id', st') => bif Nat.beq id' id then .ok (.normal, st') else .ok (.exit id', st')
     | r => r
   | .loop c => match evC P B n rg b sz c st with
     | .ok (.normal, st') => evC P B n rg b sz (.loop c) st'
     | r => r
   | .exit id => .ok (.exit id, st)
   | .ret => .ok (.ret, st)
   | .scope c => match evC P B n rg b sz c st with
     | .ok (.goto _, _) => .er 14 none
     | r => r
   | .label _ => .ok (.normal, st)
   | .region _ ops false => match evOps P (evCall P B (evC P B n true)) sz ops.toList ops.toList st with
     | .ok st' => .ok (.normal, st')
     | .er n x => .er n x
   | .region _ ops true => match drOps P (evCall P B (evC P B n true)) sz ops.toList ops.toList st with
     | .ok (its, st') => bif confU its 0 its then .ok (.normal, st') else .er 60 none
     | .er n x => .er n x
   | .rangeFunc g ps assign body => bif rg && (ps.all (fun p => Nat.blt p sz) && Nat.ble b st.nx) then match g with
     | .tmp k => match T.get .junk st.tm k with
       | .fn gf caps => match frzCaps caps st with
         | some (caps', st1) => bif Nat.blt k sz then match evSeq P (evCall P B (evC P B n true)) (evC P B n false 0) n gf caps' with
           | .ok xs => bif xs.all (fun x => Nat.beq x.length ps.size) then evRng (evC P B n true st1.nx) sz ps.toList assign body (T.put st1.tm (.fn gf caps') k) xs st1.mem st1.nx else .er 75 none
           | .er n x => .er n x
           else .er 73 none
         | none => .er 70 none
       | _ => .er 71 none
     | _ => .er 74 none
     else .er 72 none
   | _ => .er 7 none
noncomputable def evF (P : Program) (B : Tab) (n d f : Nat) (xs : List AV) : X (AV × ML × Nat) := evCall P B (evC P B n true) f xs (T.mk none d) 0
theorem compare_is (na : Bool) (a : List Int) (ca : Cp) (nb : Bool) (b : List Int) (cb : Cp) (hl : a.length < 1000000) : PureIs prog 25 [.sl na (a.map intC) ca, .sl nb (b.map intC) cb] (.sc (.int .i64 (cmpW a b))) := by
 refine PureIs.of1 2 [4, 5, 10, 15, 19, 30, 39] func25 ntmps25 results25 fun _ => ?_
 refine EvC.a ?_
 refine EvC.seq ?_
 refine EvC.a ?_
 refine EvC.cd (fun hc => ?_) (fun hc => ?_)
 ·have hc : a.length < b.length := by have : (a.length : Int) < b.length := by simpa using hc
                                      omega
  refine EvC.a ?_
  refine EvC.rz ?_
  simp only [go_sem]
  rw [cmpW, if_pos hc]
 have h1 : ¬ a.length < b.length := by have : ¬ (a.length : Int) < b.length := by simpa using hc
                                       omega
 clear hc
 refine EvC.skip ?_
 refine EvC.seq ?_
 refine EvC.a ?_
 refine EvC.cd (fun hc => ?_) (fun hc => ?_)
 ·have hc : b.length < a.length := by have : (b.length : Int) < a.length := by simpa using hc
                                      omega
  refine EvC.a ?_
  refine EvC.rz ?_
  simp only [go_sem]
  rw [cmpW, if_neg h1, if_pos hc]
 have h2 : ¬ b.length < a.length := by have : ¬ (b.length : Int) < a.length := by simpa using hc
                                       omega
 clear hc
 have hw : cmpW a b = fdiff a b := by rw [cmpW, if_neg h1, if_neg h2]
 refine EvC.skip ?_
 refine EvC.seq ?_
 refine EvC.a ?_
 refine EvC.block ?_
 refine EvC.loopS (σ := Nat) (fun i => ⟨[(0, .sl na (a.map intC) ca), (1, .sl nb (b.map intC) cb), (5, .sc (.int .i64 i))], [], [], 0⟩) (fun i => a.length - i) (fun i => i ≤ a.length ∧ fdiff a b = fdiff (a.drop i) (b.drop i)) [0, 1, 5] 0 ?_ ?_
 ·refine ⟨[], 0, rfl, (by simp only [go_sem] <;> rfl), Nat.zero_le _, by simp⟩
 rintro i ⟨hi, h3⟩
 refine EvC.seq ?_
 refine EvC.a ?_
 refine EvC.cd (fun hc => ?_) (fun hc => ?_)
 rotate_left
 ·refine EvC.exit ?_
  have hi : ¬ i < a.length := by simpa using hc
  refine EvC.a ?_
  refine EvC.rz ?_
  simp only [go_sem]
  rw [hw, h3, List.drop_of_length_le (by omega)]; rfl
 have hi : i < a.length := by simpa using hc
 have hi2 : i < b.length := by omega
 have ha : a[i]? = some a[i] := List.getElem?_eq_getElem hi
 have hb : b[i]? = some b[i] := List.getElem?_eq_getElem hi2
 have hda : a.drop i = a[i] :: a.drop (i + 1) := List.drop_eq_getElem_cons hi
 have hdb : b.drop i = b[i] :: b.drop (i + 1) := List.drop_eq_getElem_cons hi2
 generalize a[i] = x at ha hda
 generalize b[i] = y at hb hdb
 refine EvC.skip ?_
 refine EvC.seq ?_
 refine EvC.block ?_
 refine EvC.seq ?_
 refine EvC.d mixed ?_ (h := by simp only [go_sem, ha, hb, intC] <;> rfl)
 refine EvC.cd (fun hc => ?_) (fun hc => ?_)
 ·have hc : x < y := by simpa using hc
  refine EvC.a ?_
  refine EvC.rz ?_
  simp only [go_sem]
  rw [hw, h3, hda, hdb, fdiff, if_pos hc]
 have hc1 : ¬ x < y := by simpa using hc
 refine EvC.skip ?_
 refine EvC.d mixed ?_ (h := by simp only [go_sem, ha, hb, intC] <;> rfl)
 refine EvC.cd (fun hc => ?_) (fun hc => ?_)
 ·have hc : y < x := by simpa using hc
  refine EvC.a ?_
  refine EvC.rz ?_
  simp only [go_sem]
  rw [hw, h3, hda, hdb, fdiff, if_neg hc1, if_pos hc]
 have hc2 : ¬ y < x := by simpa using hc
 refine EvC.skip ?_
 refine EvC.bi ?_
 refine ⟨[], i + 1, rfl, (by simp only [go_sem] <;> rfl), ⟨by omega, ?_⟩, by omega⟩
 rw [h3, hda, hdb, fdiff, if_neg hc1, if_neg hc2]
theorem same_is (na : Bool) (a : List Int) (ca : Cp) (nb : Bool) (b : List Int) (cb : Cp) (hl : a.length < 1000000) : PureIs prog 10 [.sl na (a.map intC) ca, .sl nb (b.map intC) cb] (.sc (.bool (decide (a = b)))) := by
 refine PureIs.of1 2 [4] func10 ntmps10 results10 fun _ => ?_
 refine EvC.a ?_
 refine EvC.k1 ?_ (c1 := .ca (compare_is na a ca nb b cb hl))
 refine EvC.rz ?_
 simp only [go_sem]
 simp [cmpW_zero]
end Go.Avl
