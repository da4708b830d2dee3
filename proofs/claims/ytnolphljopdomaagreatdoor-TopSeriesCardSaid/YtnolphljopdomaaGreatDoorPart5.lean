/-
  Many objects at once: those with the numbers below n (n at most 1000000; the others have greater ones). Renaming, freezing.
  Another test of a drawn region's order: by the slots that its operations name, where the numbers of objects are not known.
  Tables whose rows are slices of their own, still written: the rows are the objects below n.
  Functions that work on objects that are there: what comes of them from given arguments and memory.
  Lists with room behind them.
  Regions that draw their order, the last operation behind all others.
  A box that keeps the front of an object that nobody else keeps: the object cut to it.
  Boxes that keep a whole object: as a view of it from its front.
  Functions whose result is a new slice that nobody else has: it may go on being written.
  A call that cuts the room behind a slice of an object of the caller's.
  Regions that draw their order: operations that wait for each other through others.
  A call whose result is an empty slice without room, as an object.
  Nil slices, read as such; calls whose result is a view of a new object.
  One row of an array of rows, read otherwise.
  Nothing appended to a slice without room: that slice.
  Ranging over a map that the loop does not write: in whatever order the entries come.
  A slot, read with nothing known of capacities.
  Calls of functions that follow and change a list of numbers in an object: what they leave, in whatever memory they are called.
  Calls by body in a part of the memory: the other objects stay as they are.
  The test by slots, where operations wait through others.
  A region up to one of its operations.
  The rules once more, with what is shown the same way each time as defaults.
  Regions with calls, with what is shown the same way each time as defaults.
  A concrete evaluator (definitions): states as trees of slots and objects.
  The concrete evaluator: trees, and what a state of trees says of an abstract state.
  The concrete evaluator: one operation is that of the abstract evaluation.
  The concrete evaluator: each operation is that of the abstract evaluation, but for those that yield plain values (Ev65).
  The concrete evaluator: the other operations; what yields plain values of strings stands aside.
  The concrete evaluator: maps, slices, builtins; one operation as a whole.
  The concrete evaluator: strings.
-/
import Derived.Laws.IdiomRangeMap
import Derived.KernelRfl
import Derived.Laws.Strings
import Derived.Test.YtnolphljopdomaaGreatDoorPart4
set_option linter.unusedSimpArgs false
set_option linter.unusedVariables false
set_option linter.unnecessarySimpa false
set_option linter.deprecated false
namespace Go.Avl
open Go
def msegA : Nat → List RObj → Mem
 | _, [] => []
 | b, o :: r => (b, o) :: msegA (b + 1) r
def mseg (l : List RObj) : Mem := msegA 0 l
theorem mlook_msegA : ∀ (l : List RObj) (b i : Nat), mlook (msegA b l) i = if b ≤ i then l[i - b]? else none
 | [], b, i => by simp [msegA, mlook]
 | o :: r, b, i => by
   simp only [msegA, mlook]
   by_cases h : i = b
   ·subst h; simp
   ·rw [if_neg h, mlook_msegA r (b + 1) i]
    by_cases h2 : b ≤ i
    ·rw [if_pos (by omega), if_pos h2, show i - b = (i - (b + 1)) + 1 by omega]; rfl
    ·rw [if_neg (by omega), if_neg h2]
theorem mlook_mseg (l : List RObj) (i : Nat) : mlook (mseg l) i = l[i]? := by rw [mseg, mlook_msegA, if_pos (Nat.zero_le _), Nat.sub_zero]
def idK (n : Nat) : List (Nat × Nat) := (List.range n).map fun i => (i, i)
def segK (A : List (Nat × Nat)) (n : Nat) (B : List (Nat × Nat)) : List (Nat × Nat) := A ++ (idK n ++ B)
theorem renMem_append (M : Mem) (K : List (Nat × Nat)) : ∀ (A B : List (Nat × Nat)), renMem M K (A ++ B) = renMem M K A ++ renMem M K B
 | [], B => rfl
 | (i, j) :: A, B => by
   simp only [List.cons_append, renMem, renMem_append M K A B]
   split <;> simp
theorem renMem_segK (M : Mem) (A B : List (Nat × Nat)) (n : Nat) : renMem M (segK A n B) (segK A n B) = renMem M (segK A n B) A ++ (renMem M (segK A n B) (idK n) ++ renMem M (segK A n B) B) := by
 conv => lhs; arg 3; rw [segK]
 rw [renMem_append, renMem_append]
theorem mset_mset_same (M : Mem) (i : Nat) (o o' : RObj) : mset (mset M i o) i o' = mset M i o' := by
 induction M with
 | nil => simp [mset]
 | cons p M ih =>
   obtain ⟨k, u⟩ := p
   simp only [mset]
   split
   ·rename_i h; subst h; simp [mset]
   ·rename_i h; simp only [mset, if_neg h, ih]
def St.snapA (j : Nat) (st : St) : Option St :=
 match mlook st.mem j with
 | some (.arr esz es false) => some ⟨st.vars, st.tmps, mset st.mem j (.arr esz (es.map fun c => c.map (AV.deep (snap st.mem))) false), st.nx⟩
 | _ => none
section
variable {P : Program} {fr : Fr} {ro : Option Nat} {ds : DS} {st st' : St} {Q Q' : Exit → St → Prop} {G G' : Nat → Option Value} {F F' : Nat → Nat → Prop} {a : Act} {w w' : World} {x y c : Code} {M : Mem}
theorem simM_snapA {nx j esz : Nat} {es : List (List AV)} (hm : SimM P G F M nx w) (ho : mlook M j = some (.arr esz es false)) :
  SimM P G F (mset M j (.arr esz (es.map fun c => c.map (AV.deep (snap M))) false)) nx w ∧ Step All G F M w G F (mset M j (.arr esz (es.map fun c => c.map (AV.deep (snap M))) false)) w := by
 obtain ⟨es', hes⟩ : ∃ es', es' = es.map fun c => c.map (AV.deep (snap M)) := ⟨_, rfl⟩
 rw [← hes]
 have hle : es'.length = es.length := by rw [hes, List.length_map]
 have hold := (hm.obj j _ ho).2
 have S : Step All G F M w G F (mset M j (.arr esz es' false)) w :=
  { kept := .refl
    size := Nat.le_refl _
    out := fun _ _ _ => rfl
    F1 := fun _ _ h => h
    F2 := fun _ _ _ => rfl
    F3 := fun b o h => .inl h
    own := fun b ⟨id, o, v, h3, h4, h5⟩ => by
     rw [mlook_mset] at h3
     by_cases hi : id = j
     ·subst hi; exact .inr ⟨id, _, v, ho, h4, h5⟩
     ·rw [if_neg hi] at h3; exact .inr ⟨id, o, v, h3, h4, h5⟩
    some' := fun _ _ h => h
    same := fun _ _ _ h _ => h
    keep := fun id o' _ hG h3 => by
     obtain ⟨v, hv⟩ := Option.ne_none_iff_exists'.1 hG
     rw [mlook_mset] at h3
     by_cases hi : id = j
     ·subst hi
      rw [if_pos rfl] at h3; cases h3
      exact ⟨_, v, v, ho, hv, hv, ⟨rfl, .inl ⟨hle, rfl⟩⟩⟩
     ·rw [if_neg hi] at h3
      exact ⟨o', v, v, h3, hv, hv, objKeep.refl v o'⟩ }
 have hinj : ∀ id id' v v' b, mlook (mset M j (.arr esz es' false)) id ≠ none → mlook (mset M j (.arr esz es' false)) id' ≠ none → G id = some v → G id' = some v' → blkOf v = some b → blkOf v' = some b → id = id' := by
  intro id id' v v' b h1 h2
  refine hm.inj id id' v v' b ?_ ?_
  ·rw [mlook_mset] at h1; by_cases hi : id = j
   ·subst hi; rw [ho]; simp
   ·rwa [if_neg hi] at h1
  ·rw [mlook_mset] at h2; by_cases hi : id' = j
   ·subst hi; rw [ho]; simp
   ·rwa [if_neg hi] at h2
 refine ⟨simM_gen hm S (fun id o' h => ?_) hinj hm.inF, S⟩
 rw [mlook_mset] at h
 by_cases hi : id = j
 ·subst hi; rw [if_pos rfl] at h; cases h
  refine ⟨(hm.obj id _ ho).1, .inl ?_⟩
  rcases hold with ⟨h0, h0'⟩ | ⟨b, ko, c, cc, e, h1, h2, h3, h4, h5, h6, h7, h8, h9⟩
  ·exact .inl ⟨by rw [hes, h0]; rfl, h0'⟩
  ·refine .inr ⟨b, ko, c, cc, e, by rw [hle]; exact h1, h2, h3, by rw [hle]; exact h4, h5, fun i hi' => ?_, fun i l hi' hl' => ?_, fun o h => absurd (h8 o h).1 (by simp), fun h => (by cases h)⟩
   ·have hi2 : i < es.length := by rw [← hle]; exact hi'
    simp only [hes, List.getElem_map, List.length_map]
    exact h6 _ hi2
   ·have hi2 : i < es.length := by rw [← hle]; exact hi'
    have e2 : es'[i] = es[i].map (AV.deep (snap M)) := by simp [hes]
    have hl2 : l < es[i].length := by rw [e2, List.length_map] at hl'; exact hl'
    obtain ⟨v, k1, k2, k3⟩ := h7 i l hi2 hl2
    refine ⟨v, k1, k2, ?_⟩
    have e3 : es'[i][l] = AV.deep (snap M) es[i][l] := by simp [e2]
    rw [e3]
    exact (k3.deep fun v y h => h.snap hm).step S fun _ _ => trivial
 ·rw [if_neg hi] at h
  exact ⟨(hm.obj id _ h).1, .inr ⟨h, rfl, fun b v hG hb => ⟨rfl, fun _ h => h⟩⟩⟩
theorem SimA.snapA {j : Nat} (s : SimA P fr ds G F st a w) (h : st.snapA j = some st') : SimA P fr ds G F st' a w ∧ Step (· < fr.base) G F st.mem w G F st'.mem w := by
 unfold St.snapA at h
 split at h
 ·rename_i esz es ho
  cases h
  obtain ⟨hm', S'⟩ := simM_snapA s.sim.mem ho
  exact ⟨⟨⟨hm', fun k => (s.sim.slots k).step S' (fun _ _ => trivial), s.sim.size⟩, s.fresh, s.defers⟩, S'.mono fun _ _ => trivial⟩
 ·cases h
theorem EvC.snapA (j : Nat) (h : st.snapA j = some st') (hc : EvC P fr ro ds c st' Q) : EvC P fr ro ds c st Q :=
 EvC.conv (fun _ _ _ _ s => let ⟨s', S'⟩ := s.snapA h; ⟨_, _, s', S'⟩) hc
end
attribute [go_sem] St.snapA mlook_mseg renMem_segK
section
variable {α : Type}
def gcells (C : α → List AV) (f : Nat → α) (m : Nat) : List (List AV) := (List.range m).map fun t => C (f t)
def grow (e : Nat) (C : α → List AV) (W : Nat → Nat → α) (m s : Nat) : RObj := .arr e (gcells C (W s) m) false
end
def retB (P : Program) (fr : Fr) (results : List ResultVar) (R : AV → Mem → Nat → Prop) : Exit → St → Prop :=
 fun e st => (e = .ret ∨ e = .normal) ∧ ∃ rs, resAllR P fr st results = some rs ∧ R (mkRes rs) st.mem st.nx
def BodyIs (P : Program) (f : FuncId) (args : List AV) (M : Mem) (nx : Nat) (R : AV → Mem → Nat → Prop) : Prop :=
 ∃ fn c nv hid, P.funcs[f]? = some fn ∧ fn.body = some c ∧ (fn.name == "runtime.NumGoroutine") = false ∧ args.length ≤ fn.ntmps ∧
   ∀ h0 : Nat, EvC P ⟨nx, nv, hid, fn.ntmps⟩ none ⟨h0, none, false⟩ c ⟨vars0 0 args, [], M, nx⟩ (retB P ⟨nx, nv, hid, fn.ntmps⟩ fn.results.toList R)
section
variable {P : Program} {fr : Fr} {ro : Option Nat} {ds : DS} {st st' : St} {Q Q' : Exit → St → Prop} {c : Code} {M : Mem} {ops : Array Oper} {l rest : List Oper} {o : Oper}
theorem BodyIs.of {f : FuncId} {fn : Func} {args : List AV} {nx nv : Nat} {hid : List Nat} {R : AV → Mem → Nat → Prop} (hf : P.funcs[f]? = some fn) (hb : fn.body = some c) (hnm : (fn.name == "runtime.NumGoroutine") = false) (hsz : args.length ≤ fn.ntmps)
  (h : ∀ h0 : Nat, EvC P ⟨nx, nv, hid, fn.ntmps⟩ none ⟨h0, none, false⟩ c ⟨vars0 0 args, [], M, nx⟩ (retB P ⟨nx, nv, hid, fn.ntmps⟩ fn.results.toList R)) : BodyIs P f args M nx R :=
 ⟨fn, c, nv, hid, hf, hb, hnm, hsz, h⟩
theorem BodyIs.mono {f : FuncId} {args : List AV} {nx : Nat} {R R' : AV → Mem → Nat → Prop} (h : BodyIs P f args M nx R) (hr : ∀ r M nx, R r M nx → R' r M nx) : BodyIs P f args M nx R' := by
 obtain ⟨fn, c, nv, hid, h1, h2, h3, h4, h5⟩ := h
 exact ⟨fn, c, nv, hid, h1, h2, h3, h4, fun h0 => (h5 h0).mono fun e st ⟨k1, rs, k2, k3⟩ => ⟨k1, rs, k2, hr _ _ _ k3⟩⟩
end
attribute [go_sem] resAllR resOneR bodyArgs
section
variable {P : Program} {fr : Fr} {ro : Option Nat} {ds : DS} {st st' : St} {Q : Exit → St → Prop} {G G' : Nat → Option Value} {F F' : Nat → Nat → Prop} {a : Act} {w w' : World}
 {M M' : Mem} {ops : Array Oper} {o : Oper} {id N : Nat} {S S' : Nat → Bool} {d : Option Nat} {r : Rc} {x y : Nat} {l : List It}
theorem trun_pre {all : List Oper} : ∀ {l : List Oper} {id : Nat} {st : St} {ok : Bool} {its : List It} {st' : St} {rest : List Oper} {id' : Nat}, trun P fr all l id st = .stop ok its st' rest id' → ok = true →
  ∃ pre, l = pre ++ rest ∧ id' = id + its.length ∧ Tr P fr ro ds all.toArray id pre st its st'
 | [], id, st, ok, its, st', rest, id', h, _ => by simp only [trun] at h; cases h
 | o :: l, id, st, ok, its, st', rest, id', h, hok => by
   have stopCase : trun P fr all (o :: l) id st = .stop true [] st (o :: l) id → ∃ pre, o :: l = pre ++ rest ∧ id' = id + its.length ∧ Tr P fr ro ds all.toArray id pre st its st' := fun h1 => by
    rw [h1] at h; cases h
    exact ⟨[], rfl, rfl, .nil _ _⟩
   have goCase : ∀ {b : Bool} {r : Rc} {rd : List Nat}, trun P fr all (o :: l) id st = (trun P fr all l (id + 1) (run1 fr o.dst r st)).cons b ⟨o, r, rd⟩ →
     (b = true → OpIs P fr ro ds all.toArray id st ⟨o, r, rd⟩) → ∃ pre, o :: l = pre ++ rest ∧ id' = id + its.length ∧ Tr P fr ro ds all.toArray id pre st its st' := by
    intro b r rd h1 h2
    rw [h1] at h
    cases hres : trun P fr all l (id + 1) (run1 fr o.dst r st) with
    | done ok its st1 => rw [hres] at h; simp only [TRes.cons] at h; cases h
    | stop ok1 its1 st1 rest1 id1 =>
      rw [hres] at h
      simp only [TRes.cons] at h
      cases h
      simp only [Bool.and_eq_true] at hok
      obtain ⟨pre, e1, e2, t⟩ := trun_pre hres hok.2
      exact ⟨o :: pre, by rw [e1]; rfl, by rw [e2]; simp; omega, .cons (h2 hok.1) t⟩
   cases hd : dok fr o.dst with
   | false => exact stopCase (by simp only [trun, hd])
   | true =>
     cases hg : o.guard with
     | none =>
       cases he : efRc id (xop P fr st true id o) with
       | none => exact stopCase (by simp only [trun, hd, hg, he])
       | some p =>
         obtain ⟨b, r⟩ := p
         exact goCase (by simp only [trun, hd, hg, he]) fun hb => .op hg hd he hb rfl
     | some p =>
       obtain ⟨j, want⟩ := p
       cases hj : gslot all.toArray j with
       | none => exact stopCase (by simp only [trun, hd, hg, hj])
       | some k =>
         cases hk : gval want (st.get fr k) with
         | none => exact stopCase (by simp only [trun, hd, hg, hj, hk])
         | some g =>
           cases he : efRcG g (xop P fr st g id o) with
           | none => exact stopCase (by simp only [trun, hd, hg, hj, hk, he])
           | some p =>
             obtain ⟨b, r⟩ := p
             exact goCase (by simp only [trun, hd, hg, hj, hk, he]) fun hb => .guard hg hj hk hd he hb rfl
def TrTo (P : Program) (fr : Fr) (ro : Option Nat) (ds : DS) (ops : Array Oper) (id : Nat) (l : List Oper) (st : St) (its : List It) (st' : St) (rest : List Oper) : Prop :=
 ∃ pre, l = pre ++ rest ∧ Tr P fr ro ds ops id pre st its st'
theorem TrTo.cons {l rest : List Oper} {rd : List Nat} {its : List It} (h : OpIs P fr ro ds ops id st ⟨o, r, rd⟩) (t : TrTo P fr ro ds ops (id + 1) l (run1 fr o.dst r st) its st' rest) : TrTo P fr ro ds ops id (o :: l) st (⟨o, r, rd⟩ :: its) st' rest := by
 obtain ⟨pre, rfl, t⟩ := t
 exact ⟨o :: pre, rfl, .cons h t⟩
theorem TrTo.run {all l rest rest' : List Oper} {ok : Bool} {its its2 : List It} {id' : Nat} {st2 : St} (h : trun P fr all l id st = .stop ok its st' rest id') (hok : ok = true) (t : TrTo P fr ro ds all.toArray id' rest st' its2 st2 rest') : TrTo P fr ro ds all.toArray id l st (its ++ its2) st2 rest' := by
 obtain ⟨pre, e1, e2, t1⟩ := trun_pre (ro := ro) (ds := ds) h hok
 obtain ⟨pre2, e3, t2⟩ := t
 subst e3
 subst e1
 exact ⟨pre ++ pre2, by rw [List.append_assoc], t1.append e2 t2⟩
end
def St.shrinkC (k j : Nat) (st : St) : Option St :=
 match mlook st.mem k with
 | some (.cells cs) => match cs[j]? with
   | some (.tv i n 0 len .rest) => match mlook st.mem i with
     | some (.arr esz es false) => if n = es.length then some ⟨st.vars, st.tmps, mset ((st.nx, .arr esz (es.take len) false) :: mdel st.mem i) k (.cells (cs.set j (.tl st.nx len false))), st.nx + 1⟩ else none
     | _ => none
   | _ => none
 | _ => none
section
variable {P : Program} {fr : Fr} {ro : Option Nat} {ds : DS} {st st' : St} {Q Q' : Exit → St → Prop} {G G' : Nat → Option Value} {F F' : Nat → Nat → Prop} {a : Act} {w w' : World} {x y c : Code} {M : Mem}
 {ops : Array Oper} {l rest : List Oper}
theorem simM_shrink {nx i esz n len b ko c' : Nat} {es : List (List AV)} (hm : SimM P G F M nx w) (hf : ∀ j, nx ≤ j → G j = none) (ho : mlook M i = some (.arr esz es false)) (hG : G i = some (.slice (some ⟨b, ko, none⟩) n c')) (hc0 : c' ≠ 0) (hn : n = es.length) (hlen : len ≤ n) :
  SimM P (upG G nx (.slice (some ⟨b, ko, none⟩) len c')) F ((nx, .arr esz (es.take len) false) :: mdel M i) (nx + 1) w ∧ Step All G F M w (upG G nx (.slice (some ⟨b, ko, none⟩) len c')) F ((nx, .arr esz (es.take len) false) :: mdel M i) w := by
 have htl : (es.take len).length = len := by rw [List.length_take]; omega
 have hob := (hm.obj i _ ho)
 have hne : i ≠ nx := Nat.ne_of_lt hob.1
 obtain ⟨G1, hG1⟩ : ∃ G1, G1 = upG G nx (.slice (some ⟨b, ko, none⟩) len c') := ⟨_, rfl⟩
 obtain ⟨M1, hM1⟩ : ∃ M1 : Mem, M1 = (nx, .arr esz (es.take len) false) :: mdel M i := ⟨_, rfl⟩
 rw [← hG1, ← hM1]
 have hlk : ∀ j, mlook M1 j = if j = nx then some (.arr esz (es.take len) false) else if j = i then none else mlook M j := fun j => by
  rw [hM1]; simp only [mlook]
  by_cases hj : j = nx
  ·rw [if_pos hj, if_pos hj]
  ·rw [if_neg hj, if_neg hj, mlook_mdel']
 have hgo : ∀ j, j ≠ nx → G1 j = G j := fun j hj => by rw [hG1, upG_other G _ hj]
 have hgs : G1 nx = some (.slice (some ⟨b, ko, none⟩) len c') := by rw [hG1, upG_self]
 have hbk : blkOf (.slice (some ⟨b, ko, none⟩) n c') = some b := by simp [blkOf, hc0]
 have hbk0 : blkOf (.slice (some ⟨b, ko, none⟩) len c') = some b := by simp [blkOf, hc0]
 have S : Step All G F M w G1 F M1 w :=
  { kept := .refl
    size := Nat.le_refl _
    out := fun _ _ _ => rfl
    F1 := fun _ _ h => h
    F2 := fun _ _ _ => rfl
    F3 := fun _ _ h => .inl h
    own := fun b' ⟨id, o, v, h1, h2, h3⟩ => by
     rw [hlk] at h1
     by_cases hj : id = nx
     ·subst hj
      rw [hgs] at h2; cases h2
      rw [hbk0] at h3; cases h3
      exact .inr ⟨i, _, _, ho, hG, hbk⟩
     ·rw [if_neg hj] at h1
      rw [hgo id hj] at h2
      split at h1
      ·cases h1
      ·exact .inr ⟨id, o, v, h1, h2, h3⟩
    some' := fun id _ hid => by
     by_cases hj : id = nx
     ·subst hj; rw [hgs]; simp
     ·rw [hgo id hj]; exact hid
    same := fun id v _ hid _ => by
     have hj : id ≠ nx := fun e => by rw [e, hf _ (Nat.le_refl _)] at hid; cases hid
     rw [hgo id hj]; exact hid
    keep := fun id o' _ hid h1 => by
     have hj : id ≠ nx := fun e => hid (by rw [e]; exact hf _ (Nat.le_refl _))
     rw [hlk, if_neg hj] at h1
     obtain ⟨v, hv⟩ := Option.ne_none_iff_exists'.1 hid
     split at h1
     ·cases h1
     ·exact ⟨o', v, v, h1, hv, (hgo id hj).trans hv, objKeep.refl v o'⟩ }
 have hm' : SimM P G1 F M1 (nx + 1) w := by
  refine simM_gen hm S (fun id o' h1 => ?_) (fun id id' v v' b' h1 h2 h3 h4 h5 h6 => ?_) hm.inF
  ·rw [hlk] at h1
   by_cases hj : id = nx
   ·subst hj
    rw [if_pos rfl] at h1; cases h1
    refine ⟨Nat.lt_succ_self _, .inl ?_⟩
    rcases hob.2 with ⟨_, base, h1, _⟩ | ⟨b2, ko2, c2, cc, e, k1, k2, k3, k4, k5, k6, k7, k8, k9⟩
    ·rw [hG] at h1; cases h1; exact absurd rfl hc0
    ·rw [hG] at k1; cases k1
     refine .inr ⟨b, ko, c', cc, e, by rw [hgs, htl], hc0, k3, by rw [htl]; omega, k5, fun i h => by rw [List.getElem_take]; exact k6 _ _, fun i j h hj => ?_, fun o h => ?_, fun h => by cases h⟩
     ·simp only [List.getElem_take] at hj ⊢
      obtain ⟨v, q1, q2, q3⟩ := k7 i j (by rw [htl] at h; omega) hj
      exact ⟨v, q1, q2, q3.step S fun _ _ => trivial⟩
     ·have := (k8 o h).1
      cases this
   ·rw [if_neg hj] at h1
    split at h1
    ·cases h1
    ·exact ⟨Nat.lt_succ_of_lt (hm.obj id o' h1).1, .inr ⟨h1, hgo id hj, fun b v _ _ => ⟨rfl, fun _ h => h⟩⟩⟩
  ·have back : ∀ {id : Nat} {v : Value}, mlook M1 id ≠ none → G1 id = some v → blkOf v = some b' → (id = nx ∧ b' = b) ∨ (id ≠ nx ∧ id ≠ i ∧ mlook M id ≠ none ∧ G id = some v) := fun {id v} q1 q2 q3 => by
     by_cases hj : id = nx
     ·subst hj
      rw [hgs] at q2; cases q2
      rw [hbk0] at q3; cases q3
      exact .inl ⟨rfl, rfl⟩
     ·rw [hlk, if_neg hj] at q1
      rw [hgo id hj] at q2
      by_cases hi : id = i
      ·rw [if_pos hi] at q1; exact absurd rfl q1
      ·rw [if_neg hi] at q1; exact .inr ⟨hj, hi, q1, q2⟩
   have hio : mlook M i ≠ none := by rw [ho]; simp
   rcases back h1 h3 h5 with ⟨e1, e2⟩ | ⟨q1, q2, q3, q4⟩ <;> rcases back h2 h4 h6 with ⟨e3, e4⟩ | ⟨p1, p2, p3, p4⟩
   ·rw [e1, e3]
   ·subst e2
    exact absurd (hm.inj id' i _ _ _ p3 hio p4 hG h6 hbk) p2
   ·subst e4
    exact absurd (hm.inj id i _ _ _ q3 hio q4 hG h5 hbk) q2
   ·exact hm.inj id id' _ _ _ q3 p3 q4 p4 h5 h6
 exact ⟨hm', S⟩
theorem SimA.shrinkC {k j : Nat} (s : SimA P fr ds G F st a w) (h : st.shrinkC k j = some st') : ∃ G', SimA P fr ds G' F st' a w ∧ Step (· < fr.base) G F st.mem w G' F st'.mem w := by
 unfold St.shrinkC at h
 split at h
 ·rename_i cs hok
  split at h
  ·rename_i i n len hj
   split at h
   ·rename_i esz es ho
    split at h
    rotate_left
    ·cases h
    rename_i hn
    cases h
    obtain ⟨hin, b, cc, el, k1, k2, k3, k4, k5⟩ := s.sim.mem.obj k _ hok
    obtain ⟨hjl, hjv⟩ := List.getElem?_eq_some_iff.1 hj
    have hv := k4 j (by omega) hjl
    rw [hjv] at hv
    obtain ⟨hG0, hh⟩ := hv.inv_tv
    obtain ⟨hol, b', ko, c, hG, hc0, c', hval, _, hcp⟩ := (hh _ _ _ ho).2 hn
    replace hc0 : c ≠ 0 := hc0.resolve_right fun h => by cases h.2.1
    have hcc : c' = c := by
     rcases hcp with h | h | ⟨_, h⟩
     ·cases h
     ·cases h
     ·omega
    subst hcc
    rw [Nat.zero_mul, Nat.add_zero] at hval
    have hki : k ≠ i := fun e => by rw [e, ho] at hok; cases hok
    obtain ⟨hm', S'⟩ := simM_shrink (len := len) s.sim.mem s.fresh ho hG hc0 hn (by omega)
    have hne : k ≠ st.nx := Nat.ne_of_lt hin
    obtain ⟨M1, hM1⟩ : ∃ M1 : Mem, M1 = ((st.nx, RObj.arr esz (es.take len) false) :: mdel st.mem i) := ⟨_, rfl⟩
    obtain ⟨G1, hG1⟩ : ∃ G1, G1 = upG G st.nx (.slice (some ⟨b', ko, none⟩) len c') := ⟨_, rfl⟩
    rw [← hM1, ← hG1] at hm' S'
    have ho1 : mlook M1 k = some (.cells cs) := by rw [hM1, mlook_cons, if_neg hne, mlook_mdel', if_neg hki]; exact hok
    have hgi : G1 k = some (.pointer (some ⟨b, 0, none⟩)) := by rw [hG1, upG_other G _ hne]; exact k1
    have harr : ∀ {id esz' es fz}, mlook (mset M1 k (.cells (cs.set j (.tl st.nx len false)))) id = some (.arr esz' es fz) → mlook M1 id = some (.arr esz' es fz) := fun {id esz' es fz} h => by
     rw [mlook_mset] at h
     split at h
     ·cases h
     ·exact h
    have hrv : ∀ {v : Value} {x : AV}, RV G1 F M1 w v x → RV G1 F (mset M1 k (.cells (cs.set j (.tl st.nx len false)))) w v x := fun h => by
     induction h with
     | imm h => exact .imm h
     | ag vs cs hl _ ih => exact .ag vs cs hl ih
     | tu vs cs hl _ ih => exact .tu vs cs hl ih
     | ifc t v x _ ih => exact .ifc t v x ih
     | fn f vs cs hl _ ih => exact .fn f vs cs hl ih
     | opt b v x _ h' ih => exact .opt b v x ih h'
     | rf id off b h => exact .rf id off b h
     | tl id len nl v hG h => exact .tl id len nl v hG fun esz es fz ho => h esz es fz (harr ho)
     | tv id n off len cap v hG h => exact .tv id n off len cap v hG fun esz es fz ho => h esz es fz (harr ho)
     | ea id n i off v hG h => exact .ea id n i off v hG fun esz es fz ho => h esz es fz (harr ho)
     | mp id b h => exact .mp id b h
    have hsome : ∀ id, mlook (mset M1 k (.cells (cs.set j (.tl st.nx len false)))) id ≠ none → mlook M1 id ≠ none := fun id h he => by
     rw [mlook_mset] at h
     split at h
     ·rename_i e; subst e; rw [ho1] at he; cases he
     ·exact h he
    have hobj : ∀ {id o}, ObjOk P G1 F M1 w id o → ObjOk P G1 F (mset M1 k (.cells (cs.set j (.tl st.nx len false)))) w id o := fun {id o} h => by
     cases o with
     | cells cs => obtain ⟨b, c, e, k1, k2, k3, k4, k5⟩ := h; exact ⟨b, c, e, k1, k2, k3, fun i a b => hrv (k4 i a b), k5⟩
     | arr esz es fz =>
       rcases h with h | ⟨b, ko, c, cc, e, k1, k2, k3, k4, k5, k6, k7, k8⟩
       ·exact .inl h
       ·exact .inr ⟨b, ko, c, cc, e, k1, k2, k3, k4, k5, k6, fun i j a b => let ⟨v, x, y, z⟩ := k7 i j a b; ⟨v, x, y, hrv z⟩, k8⟩
     | map kt es => obtain ⟨b, ents, clock, k1, k2, k3, k4, k5⟩ := h; exact ⟨b, ents, clock, k1, k2, k3, fun i a b => let ⟨x, y, z⟩ := k4 i a b; ⟨x, hrv y, z⟩, k5⟩
    have S2 : Step All G1 F M1 w G1 F (mset M1 k (.cells (cs.set j (.tl st.nx len false)))) w :=
     { kept := .refl, size := Nat.le_refl _
       out := fun _ _ _ => rfl
       F1 := fun _ _ h => h
       F2 := fun _ _ _ => rfl
       F3 := fun _ _ h => .inl h
       own := fun b ⟨id, o, v, h1, h2, h3⟩ => .inr (by
        obtain ⟨o', ho'⟩ := Option.ne_none_iff_exists'.1 (hsome id (by rw [h1]; simp))
        exact ⟨id, o', v, ho', h2, h3⟩)
       some' := fun _ _ h => h
       same := fun _ _ _ h _ => h
       keep := fun id o _ hG h1 => by
        obtain ⟨v, hvG⟩ := Option.ne_none_iff_exists'.1 hG
        rw [mlook_mset] at h1
        by_cases e : id = k
        ·rw [if_pos e] at h1
         cases h1
         subst e
         exact ⟨_, v, v, ho1, hvG, hvG, rfl⟩
        ·rw [if_neg e] at h1
         exact ⟨o, v, v, h1, hvG, hvG, objKeep.refl v o⟩ }
    have htl : (es.take len).length = len := by rw [List.length_take]; omega
    rw [← hM1]
    refine ⟨G1, ⟨⟨⟨fun id o h => ?_, fun id id' v v' b h1 h2 => hm'.inj id id' v v' b (hsome _ h1) (hsome _ h2), hm'.inF, hm'.gl⟩, fun k => hrv ((s.sim.slots k).step S' fun _ _ => trivial), s.sim.size⟩, fun k hk => ?_, s.defers⟩, (S'.trans S2).mono fun _ _ => trivial⟩
    ·rw [mlook_mset] at h
     by_cases e : id = k
     ·rw [if_pos e] at h
      cases h
      subst e
      refine ⟨Nat.lt_succ_of_lt hin, b, cc, el, hgi, k2, by rw [List.length_set]; exact k3, fun q q1 q2 => ?_, k5⟩
      by_cases hq : q = j
      ·subst hq
       rw [List.getElem_set_self, hval]
       refine .tl st.nx len false _ (by rw [hG1, upG_self]; simp) fun esz' es' fz hx => ?_
       rw [mlook_mset, if_neg (Ne.symm hne), hM1, mlook_cons, if_pos rfl] at hx; cases hx
       exact ⟨by rw [htl]; exact Nat.le_refl _, fun _ => ⟨by rw [hG1]; exact upG_self _ _ _, rfl⟩⟩
      ·rw [List.getElem_set_ne (Ne.symm hq)]
       exact hrv ((k4 q q1 (by simpa using q2)).step S' fun _ _ => trivial)
     ·rw [if_neg e] at h
      exact ⟨(hm'.obj id o h).1, hobj (hm'.obj id o h).2⟩
    ·have hk : st.nx + 1 ≤ k := hk
     rw [hG1, upG_other G _ (by omega)]; exact s.fresh k (by omega)
   ·cases h
  ·cases h
 ·cases h
theorem EvC.shrinkC (k j : Nat) {st' : St} (h : st.shrinkC k j = some st') (hc : EvC P fr ro ds c st' Q) : EvC P fr ro ds c st Q :=
 EvC.conv (fun _ F _ _ s => let ⟨G', s', S'⟩ := s.shrinkC h; ⟨G', F, s', S'⟩) hc
attribute [go_sem] St.shrinkC
end
def tvOf (M : Mem) (i : Nat) : AV → AV
 | .tl j n b => if j = i ∧ n ≠ 0 then match mlook M i with
   | some (.arr _ es _) => if n = es.length then .tv i n 0 n .rest else .tl j n b
   | _ => .tl j n b else .tl j n b
 | v => v
def St.toTv (i : Nat) (st : St) : St := ⟨st.vars, st.tmps, memMap (tvOf st.mem i) st.mem, st.nx⟩
section
variable {P : Program} {fr : Fr} {ro : Option Nat} {ds : DS} {st st' : St} {Q Q' : Exit → St → Prop} {G G' : Nat → Option Value} {F F' : Nat → Nat → Prop} {a : Act} {w w' : World} {c : Code}
theorem tvOf_rv {M : Mem} {nx i : Nat} (hm : SimM P G F M nx w) {v : Value} {y : AV} (h : RV G F M w v y) : RV G F M w v (tvOf M i y) := by
 unfold tvOf
 split
 ·rename_i j n b
  split
  ·rename_i hj
   obtain ⟨rfl, h0⟩ := hj
   split
   ·rename_i esz es fz ho
    split
    ·rename_i hn
     exact h.tl_tv hm ho hn h0
    ·exact h
   ·exact h
  ·exact h
 ·exact h
theorem EvC.toTv (i : Nat) (hc : EvC P fr ro ds c (st.toTv i) Q) : EvC P fr ro ds c st Q :=
 EvC.conv (fun _ F _ _ s => let ⟨s', S'⟩ := s.memMap (f := tvOf st.mem i) fun _ _ h => tvOf_rv s.sim.mem h; ⟨_, F, s', S'⟩) hc
end
attribute [go_sem] St.toTv tvOf
def newRes (F : Nat → Nat → Prop) (w : World) (esz : Nat) (es : List (List AV)) (e : Ending) (w' : World) : Prop :=
 ∃ (b ko c : Nat) (cc : Array Value) (elem : TypeId) (F' : Nat → Nat → Prop), e = .returned (.slice (some ⟨b, ko, none⟩) es.length c) ∧ c ≠ 0 ∧ w.heap.size ≤ b ∧ w'.heap[b]? = some (.cells cc elem (0, 0)) ∧ es.length ≤ c ∧ cc.size = ko + c * esz ∧
   (∀ i (h : i < es.length), es[i].length = esz) ∧ (∀ i j (h : i < es.length) (h' : j < es[i].length), ∃ v, cc[ko + (i * esz + j)]? = some v ∧ v.oneCell' = true ∧ Imm F' w' v es[i][j]) ∧ (∀ o, ¬ F' b o) ∧ Grown F w F' w'
def PureNew (P : Program) (f : FuncId) (args : List AV) (esz : Nat) (es : List (List AV)) : Prop :=
 callable P f ∧ ∀ F w vals, FOk F w → Imms F w vals args → CallsIn Fence.wide 0 P f vals.toArray w fun e w' => newRes F w esz es e w'
def retN (P : Program) (fr : Fr) (results : List ResultVar) (esz : Nat) (es : List (List AV)) (e : Exit) (st : St) : Prop :=
 (e = .ret ∨ e = .normal) ∧ ∃ (r0 : AV) (i : Nat), resAllR P fr st results = some [r0] ∧ (r0 = .tl i es.length false ∨ r0 = .tv i es.length 0 es.length .rest) ∧ mlook st.mem i = some (.arr esz es false) ∧ es.length ≠ 0 ∧ es.all AV.norefs = true
section
variable {P : Program} {fr : Fr} {ro : Option Nat} {ds : DS} {st st' : St} {Q Q' : Exit → St → Prop} {G G' : Nat → Option Value} {F F' : Nat → Nat → Prop} {a : Act} {w w' : World} {M M' : Mem}
 {ops : Array Oper} {l rest : List Oper} {o : Oper} {N id : Nat} {rd gs : List Nat}
theorem PureNew.of {c : Code} {f : FuncId} {fn : Func} {args : List AV} {esz : Nat} {es : List (List AV)} {nv : Nat} {hid : List Nat} (hf : P.funcs[f]? = some fn) (hb : fn.body = some c) (hnm : (fn.name == "runtime.NumGoroutine") = false) (hsz : args.length ≤ fn.ntmps)
  (h : ∀ h0 : Nat, EvC P ⟨0, nv, hid, fn.ntmps⟩ none ⟨h0, none, false⟩ c (st0 args) (retN P ⟨0, nv, hid, fn.ntmps⟩ fn.results.toList esz es)) (hlt : f < 1000000 := by first | assumption | decide) : PureNew P f args esz es := by
 refine ⟨callable_of hf hnm (by rw [hb]; rfl), fun F w vals hF hi => ?_⟩
 obtain ⟨hl, hi⟩ := hi
 have s0 : SimA P ⟨0, nv, hid, fn.ntmps⟩ ⟨w.heap.size, none, false⟩ (fun _ => none) F (st0 args) { tmps := vals.toArray ++ Array.replicate (fn.ntmps - vals.toArray.size) undef, defers := [] } w := by
  refine ⟨⟨⟨fun id o h => (by cases h), fun id id' v v' b h => absurd rfl h, hF.1, hF.2⟩, fun k => ?_, by simp; omega⟩, fun _ _ => rfl, Marks.none _ _ _ (Nat.le_refl _)⟩
  have key : ∀ x, (x = .junk ∨ ∃ h : k < args.length, x = args[k]) → RV (fun _ => none) F (st0 args).mem w ((vals.toArray ++ Array.replicate (fn.ntmps - vals.toArray.size) undef).getD k undef) x := by
   rintro x (rfl | ⟨hk, rfl⟩)
   ·exact .imm (.junk _)
   ·have : (vals.toArray ++ Array.replicate (fn.ntmps - vals.toArray.size) undef).getD k undef = vals[k]'(by omega) := by
      rw [Array.getD_eq_getD_getElem?, Array.getElem?_append_left (by simp; omega)]
      simp [List.getElem?_eq_getElem (show k < vals.length by omega)]
    rw [this]
    exact .imm (hi k (by omega) hk)
  refine key _ ?_
  unfold St.get
  split
  ·rcases alook_vars0 args 0 k with h | ⟨h1, h2, h3⟩
   ·exact .inl h
   ·exact .inr ⟨by simpa using h1, by simpa [st0] using h3⟩
  ·exact .inl rfl
 refine callsIn_of_wp_marks (F := Fence.wide) hf hb trivial (wpIn_mono (h _ _ _ _ _ _ _ _ _ .refl s0) ?_)
 rintro e a' w' ⟨G', F', st', s', S', he, r0, i, hrs, hr0, ho, hne, hnr⟩
 have hown : ∀ b, Owned G' st'.mem b → w.heap.size ≤ b := fun b hb => (S'.own b hb).elim id fun ⟨_, _, _, h, _⟩ => by cases h
 have g : ∀ w2 : World, w.heap.size ≤ w2.heap.size → (∀ b, b < w.heap.size → w2.heap[b]? = w.heap[b]?) → Kept w w2 → (∀ b o, F' b o → b < w2.heap.size) → Grown F w F' w2 := fun w2 h1 h2 h3 h4 =>
  ⟨h1, h2, S'.F1, fun b o h => by
   rcases S'.F3 b o h with h | h | ⟨_, _, _, h, _⟩
   ·exact .inl h
   ·exact .inr h
   ·exact (by cases h), h4, h3⟩
 have hfin : ∀ (Ds : List Nat) (w2 : World), Ds.Nodup → (∀ D ∈ Ds, w.heap.size ≤ D ∧ w2.heap[D]? = some (.deferred (some []))) → w.heap.size ≤ w2.heap.size → (∀ b, b < w.heap.size → w2.heap[b]? = w.heap[b]?) → Kept w w2 →
   SimA P ⟨0, nv, hid, fn.ntmps⟩ ⟨w.heap.size, none, false⟩ G' F' st' { a' with defers := [] } w2 →
   LeavesInM Fence.wide 0 P fn a'.tmps (fun e w' => newRes F w esz es e w') (Ds.map dmark) .returning w2 := by
  intro Ds
  induction Ds with
  | nil =>
    intro w2 _ _ h1 h2 h3 s2
    obtain ⟨u, k1, k2⟩ := resultsR_ok s2 hrs
    have hu : u = u := rfl
    refine ⟨u, k1, ?_⟩
    have k2 : RV G' F' st'.mem w2 u r0 := k2
    have hv : G' i = some u ∧ isNilSlice u = false := by
     rcases hr0 with rfl | rfl
     ·obtain ⟨_, hh⟩ := k2.inv_tl
      obtain ⟨q1, q2⟩ := (hh _ _ _ ho).2 rfl
      exact ⟨q1, q2.symm⟩
     ·obtain ⟨_, hh⟩ := k2.inv_tv
      obtain ⟨_, b, ko, c, hG, hc0, c', hval, _, hcp⟩ := (hh _ _ _ ho).2 rfl
      subst hval
      have hc0 : c ≠ 0 := hc0.resolve_right fun h => hne h.1
      rcases hcp with h | h | ⟨h, _⟩
      ·cases h
      ·cases h
      ·have : c' = c := by omega
       subst this
       exact ⟨by rw [hG]; simp, rfl⟩
    obtain ⟨hGi, _⟩ := hv
    rcases (s2.sim.mem.obj i _ ho).2 with ⟨h0, _⟩ | ⟨b, ko, c, cc, el, q1, q2, q3, q4, q5, q6, q7, q8, _⟩
    ·subst h0; exact absurd rfl hne
    ·rw [hGi] at q1
     cases q1
     refine ⟨b, ko, c, cc, el, F', rfl, q2, hown b ⟨i, _, _, ho, hGi, by simp [blkOf, q2]⟩, q3, q4, q5, q6, fun k j hk hj => ?_, fun o hF => (by cases (q8 o hF).1), g w2 h1 h2 h3 s2.sim.mem.inF⟩
     obtain ⟨v, hv, h1c, hr⟩ := q7 k j hk hj
     exact ⟨v, hv, h1c, hr.imm_of (all_norefs hnr k j hk hj)⟩
  | cons D Ds ih =>
    intro w2 hnd hD h1 h2 h3 s2
    obtain ⟨d1, d2⟩ := hD D List.mem_cons_self
    have hnd := List.nodup_cons.1 hnd
    have hk : ∀ (b : Nat) (o : Obj), w2.heap[b]? = some o → isData o = true → (w2.putObj D (.deferred none)).heap[b]? = some o := fun b o hb ho => by
     rw [World.putObj_heap_other (by rintro rfl; rw [d2] at hb; cases hb; cases ho)]; exact hb
    refine ⟨(by intro h; cases h), .inl ⟨D, _, rfl, run_takeDeferred d2, ih _ hnd.2 (fun D' hD' => ?_) (by rw [World.putObj_size]; exact h1) (fun b hb => ?_) (h3.trans (.set d2 rfl rfl)) ?_⟩⟩
    ·refine ⟨(hD D' (List.mem_cons_of_mem _ hD')).1, ?_⟩
     rw [World.putObj_heap_other (by rintro rfl; exact hnd.1 hD')]; exact (hD D' (List.mem_cons_of_mem _ hD')).2
    ·rw [World.putObj_heap_other (by omega)]; exact h2 b hb
    ·exact ⟨⟨s2.sim.mem.keepData hk (by rw [World.putObj_size]; exact Nat.le_refl _), fun k => (s2.sim.slots k).keepData hk, s2.sim.size⟩, s2.fresh, Marks.none _ _ _ (by rw [World.putObj_size]; exact h1)⟩
 obtain ⟨⟨Ds, hDs, hnd, hD⟩, _⟩ := s'.defers
 have hDs : a'.defers = Ds.map dmark := hDs
 have := hfin Ds w' hnd hD S'.size (fun b hb => S'.out b hb (fun ⟨_, _, _, h, _⟩ => by cases h)) S'.kept ⟨⟨s'.sim.mem, s'.sim.slots, s'.sim.size⟩, s'.fresh, Marks.none _ _ _ S'.size⟩
 rw [← hDs] at this
 rcases he with rfl | rfl
 ·exact this
 ·exact this
theorem simM_grownNew {nx b : Nat} (hm : SimM P G F M nx w) (g : Grown F w F' w') (hid : G id = none) (hn : id < nx) (h : Value) (ob : RObj) (hb : blkOf h = some b) (hb1 : w.heap.size ≤ b)
  (S' : Step All G F M w (upG G id h) F' ((id, ob) :: M) w' → ObjOk P (upG G id h) F' ((id, ob) :: M) w' id ob) :
  SimM P (upG G id h) F' ((id, ob) :: M) nx w' ∧ Step All G F M w (upG G id h) F' ((id, ob) :: M) w' := by
 have hne : ∀ j, G j ≠ none → j ≠ id := fun j hj e => hj (e ▸ hid)
 have S : Step All G F M w (upG G id h) F' ((id, ob) :: M) w' :=
  { kept := g.kept
    size := g.size
    out := fun b hb _ => g.old b hb
    F1 := g.F1
    F2 := fun b o' hF => cell?_same (g.old b (hm.inF b o' hF)) o'
    F3 := fun b o h => (g.F3 b o h).imp (fun h => h) fun h => .inl h
    own := fun b1 ⟨j, o', v, ho, hv, hbv⟩ => by
     by_cases e : j = id
     ·subst e
      rw [upG_self] at hv; cases hv
      rw [hb] at hbv; cases hbv
      exact .inl hb1
     ·rw [mlook_cons, if_neg e] at ho
      rw [upG_other G h e] at hv
      exact .inr ⟨j, o', v, ho, hv, hbv⟩
    some' := fun j _ hj => by rw [upG_other G h (hne j hj)]; exact hj
    same := fun j v _ hj _ => by rw [upG_other G h (hne j (by simp [hj]))]; exact hj
    keep := fun j o' _ hj ho => by
     have e := hne j hj
     rw [mlook_cons, if_neg e] at ho
     cases hv : G j with
     | none => exact absurd hv hj
     | some v => exact ⟨o', v, v, ho, rfl, by rw [upG_other G h e]; exact hv, objKeep.refl v o'⟩ }
 refine ⟨simM_gen hm S (fun j o' ho => ?_) (fun i j v v' b1 hi hj hv hv' hbv hbv' => ?_) g.inF, S⟩
 ·by_cases e : j = id
  ·subst e
   rw [mlook_cons, if_pos rfl] at ho; cases ho
   exact ⟨hn, .inl (S' S)⟩
  ·rw [mlook_cons, if_neg e] at ho
   refine ⟨(hm.obj j o' ho).1, .inr ⟨ho, upG_other G h e, fun b1 v hv hbv => ?_⟩⟩
   have hlt : b1 < w.heap.size := hm.lt ⟨j, o', v, ho, hv, hbv⟩
   exact ⟨g.old b1 hlt, fun o h => by rcases g.F3 b1 o h with h | h; exact h; omega⟩
 ·have old : ∀ j v, j ≠ id → mlook ((id, ob) :: M) j ≠ none → upG G id h j = some v → mlook M j ≠ none ∧ G j = some v := fun j v e h1 h2 =>
    ⟨by rwa [mlook_cons, if_neg e] at h1, by rwa [upG_other G h e] at h2⟩
  have lt : ∀ j v, mlook M j ≠ none → G j = some v → blkOf v = some b1 → b1 < w.heap.size := fun j v h1 h2 h3 => by
   cases ho : mlook M j with
   | none => exact absurd ho h1
   | some o' => exact hm.lt ⟨j, o', v, ho, h2, h3⟩
  by_cases ei : i = id
  ·by_cases ej : j = id
   ·rw [ei, ej]
   ·subst ei
    rw [upG_self] at hv; cases hv
    obtain ⟨h1, h2⟩ := old j v' ej hj hv'
    have := lt j v' h1 h2 hbv'
    rw [hb] at hbv; cases hbv
    omega
  ·by_cases ej : j = id
   ·subst ej
    rw [upG_self] at hv'; cases hv'
    obtain ⟨h1, h2⟩ := old i v ei hi hv
    have := lt i v h1 h2 hbv
    rw [hb] at hbv'; cases hbv'
    omega
   ·obtain ⟨h1, h2⟩ := old i v ei hi hv
    obtain ⟨h3, h4⟩ := old j v' ej hj hv'
    exact hm.inj i j v v' b1 h1 h3 h2 h4 hbv hbv'
theorem SimD.callN {f : FuncId} {cs : List AV} {callee : Operand} {args : Array Operand} {tys : Array TypeId} {xs : List AV} {esz : Nat} {es : List (List AV)} {K : Act → World → Prop} {Q1 : Exit → Act → World → Prop}
  (s : SimD P fr ds G F st N a w) (hN : id < N) (hid : G id = none) (hop : o.op = .call ⟨.value callee, args, tys⟩) (hd : dok fr o.dst = true) (hcal : od fr st true callee = .fn f cs)
  (hxs : callArgs fr st args ++ cs = xs) (hn : AV.norefs xs = true) (hc : PureNew P f xs esz es)
  (h : ∀ G' F' a' w', SimD P fr ds G' F' (run1 fr o.dst ⟨.tl id es.length false, some (id, .arr esz es false)⟩ st) N a' w' → Step All G F st.mem w G' F' (run1 fr o.dst ⟨.tl id es.length false, some (id, .arr esz es false)⟩ st).mem w' → (∀ j, j ≠ id → G j = none → G' j = none) → K a' w') : o.wpIn (fc ro) 0 P a w K Q1 := by
 refine ⟨fun _ _ => trivial, ?_⟩
 rw [Oper.semAt_eq _ _ _ (by rw [hop]; intro c h; cases h)]
 have hv := (s.eval callee).unopt
 have hv : RV G F st.mem w (a.eval callee) (.fn f cs) := by unfold od at hcal; rwa [hcal] at hv
 obtain ⟨vs, hev, hl, hcs⟩ := hv.inv_fn0 hc.1.1
 have hrun : (execOp a.eval o).run P w = .ok (.enter f ((args.toList.map a.eval ++ vs).toArray)) w := by
  obtain ⟨dst, op, ty, pos, after, guard⟩ := o
  simp only at hop
  subst hop
  simp only [execOp, resolve, hev, Deferred.ofValue, Sem.run_bind, Sem.run_pure, Result.andThen_ok, invoke]
  rw [hc.1.2]
  congr 2
  apply Array.ext'
  simp
 rw [hrun]
 have hi : Imms F w (args.toList.map a.eval ++ vs) xs := by
  subst hxs
  refine .of_rv (G := G) (M := st.mem) (by simp [callArgs, hl]) (fun i h1 h2 => ?_) hn
  by_cases hlt : i < args.toList.length
  ·rw [List.getElem_append_left (by simpa using hlt), List.getElem_append_left (by simpa [callArgs] using hlt)]
   simp only [callArgs, List.getElem_map]
   exact ((s.eval _).unopt).snap s.mem
  ·rw [List.getElem_append_right (by simpa using hlt), List.getElem_append_right (by simpa [callArgs] using hlt)]
   simp only [List.length_map, callArgs]
   exact hcs _ _ _
 refine ⟨fun h => by simp [fc, Fence.wide] at h, callsIn_fc ((hc.2 F w _ s.mem.fok hi).mono ?_)⟩
 rintro e w' ⟨b, ko, c, cc, el, F', rfl, q2, qb, q3, q4, q5, q6, q7, q8, g⟩
 obtain ⟨hm', S'⟩ := simM_grownNew (id := id) s.mem g hid hN (.slice (some ⟨b, ko, none⟩) es.length c) (.arr esz es false) (by simp [blkOf, q2]) qb fun S =>
  .inr ⟨b, ko, c, cc, el, upG_self _ _ _, q2, q3, q4, q5, q6, fun i j hi hj => by
   obtain ⟨v, k1, k2, k3⟩ := q7 i j hi hj
   exact ⟨v, k1, k2, .imm k3⟩, fun o hF => absurd hF (q8 o), fun hz => by cases hz⟩
 have hmid : mlook st.mem id = none := s.mem.noM hid
 obtain ⟨s1, S1⟩ := s.put (d := o.dst) (r := ⟨.tl id es.length false, some (id, .arr esz es false)⟩) (u := .slice (some ⟨b, ko, none⟩) es.length c) hm' (fun i => by
  simp only [Rc.mem]
  rw [mlook_mset, mlook_cons]) S' hd (.tl id es.length false _ (by rw [upG_self]; simp) fun esz' es' fz' ho => by
   rw [mlook_cons, if_pos rfl] at ho; cases ho
   exact ⟨Nat.le_refl _, fun _ => ⟨upG_self _ _ _, rfl⟩⟩)
 exact h _ _ _ w' s1 S1 fun j hj hG => by rw [upG_other G _ hj]; exact hG
theorem OpIs.callN {f : FuncId} {cs : List AV} {callee : Operand} {args : Array Operand} {tys : Array TypeId} {xs : List AV} {esz : Nat} {es : List (List AV)} (hg : o.guard = none) (hop : o.op = .call ⟨.value callee, args, tys⟩) (hd : dok fr o.dst = true)
  (hcal : od fr st true callee = .fn f cs) (hxs : callArgs fr st args ++ cs = xs) (hn : AV.norefs xs = true) (hrd : rdOf fr st [] o = rd) (hc : PureNew P f xs esz es) : OpIs P fr ro ds ops id st ⟨o, ⟨.tl id es.length false, some (id, .arr esz es false)⟩, rd⟩ := by
 intro st' G F a w N K Q1 s hN hG hl h
 simp only [Region.wanted, hg, if_true]
 obtain ⟨e1, e2⟩ := callArgs_look (gs := []) (by rw [hrd]; exact hl) hop
 exact s.callN hN hG hop hd (by rw [e1]; exact hcal) (by rw [e2]; exact hxs) hn hc h
end
section
variable {P : Program} {fr : Fr} {ro : Option Nat} {ds : DS} {st st' : St} {Q Q' : Exit → St → Prop} {G G' : Nat → Option Value} {F F' : Nat → Nat → Prop} {a : Act} {w w' : World} {M M' : Mem}
 {ops : Array Oper} {l rest : List Oper} {o : Oper} {N id : Nat} {rd gs : List Nat}
end
inductive Anc (l : List It) : Nat → Nat → Prop
 | base {i m : Nat} {t : It} (h : l[i]? = some t) (hm : m ∈ depsOf t.o) : Anc l i m
 | step {i e m : Nat} {t : It} (h : l[i]? = some t) (he : e ∈ depsOf t.o) (h2 : Anc l e m) : Anc l i m
def ancB (l : List It) : Nat → Nat → Nat → Bool
 | 0, _, _ => false
 | k + 1, i, m => match l[i]? with
   | none => false
   | some t => (depsOf t.o).contains m || (depsOf t.o).any fun e => ancB l k e m
theorem ancB_spec {l : List It} : ∀ {k i m : Nat}, ancB l k i m = true → Anc l i m
 | 0, _, _, h => by cases h
 | k + 1, i, m, h => by
   simp only [ancB] at h
   split at h
   ·cases h
   ·rename_i t ht
    rw [Bool.or_eq_true] at h
    rcases h with h | h
    ·exact .base ht (by simpa using h)
    ·rw [List.any_eq_true] at h
     obtain ⟨e, he, h⟩ := h
     exact .step ht he (ancB_spec h)
structure ConfA (l : List It) : Prop where
 back : ∀ i t, l[i]? = some t → ∀ e ∈ depsOf t.o, e < i
 edge : ∀ i m t u, l[i]? = some t → l[m]? = some u → i ≠ m → ∀ x, (x ∈ t.rd ∨ x ∈ wl t.o.dst t.r) → x ∈ wl u.o.dst u.r → Anc l i m ∨ Anc l m i
theorem ConfA.lt {l : List It} (hc : ConfA l) {i m : Nat} (h : Anc l i m) : m < i := by
 induction h with
 | base h hm => exact hc.back _ _ h _ hm
 | step h he _ ih => have := hc.back _ _ h _ he; omega
theorem Anc.closed {l : List It} {p : Nat → Bool} (hcl : ∀ i t, l[i]? = some t → p i = true → ∀ e ∈ depsOf t.o, p e = true) {i m : Nat} (h : Anc l i m) (hi : p i = true) : p m = true := by
 induction h with
 | base h hm => exact hcl _ _ h hi _ hm
 | step h he _ ih => exact ih (hcl _ _ h hi _ he)
theorem Anc.ready {l : List It} {p : Nat → Bool} (hcl : ∀ i t, l[i]? = some t → p i = true → ∀ e ∈ depsOf t.o, p e = true) {i m : Nat} {t : It} (h : Anc l i m) (ht : l[i]? = some t) (hd : ∀ e ∈ depsOf t.o, p e = true) : p m = true := by
 cases h with
 | base h hm => rw [ht] at h; cases h; exact hd _ hm
 | step h he h2 => rw [ht] at h; cases h; exact h2.closed hcl (hd _ he)
def confOneA (all : List It) (i : Nat) (t : It) : Nat → List It → Bool
 | _, [] => true
 | m, u :: l => (i == m || !((t.rd ++ wl t.o.dst t.r).any fun x => (wl u.o.dst u.r).contains x) || ancB all 4 i m || ancB all 4 m i) && confOneA all i t (m + 1) l
def confAllA (all : List It) : Nat → List It → Bool
 | _, [] => true
 | i, t :: l => (depsOf t.o).all (fun e => decide (e < i)) && confOneA all i t 0 all && confAllA all (i + 1) l
section
variable {P : Program} {fr : Fr} {ro : Option Nat} {ds : DS} {st st' : St} {Q : Exit → St → Prop} {G G' : Nat → Option Value} {F F' : Nat → Nat → Prop} {a : Act} {w w' : World}
 {M M' : Mem} {ops : Array Oper} {o : Oper} {id N : Nat} {S S' : Nat → Bool} {d : Option Nat} {r : Rc} {x y : Nat} {l : List It}
theorem confOneA_spec {all : List It} {i : Nat} {t : It} : ∀ (l : List It) (m0 : Nat), confOneA all i t m0 l = true → ∀ m u, l[m]? = some u → i ≠ m0 + m → ∀ x, (x ∈ t.rd ∨ x ∈ wl t.o.dst t.r) → x ∈ wl u.o.dst u.r → Anc all i (m0 + m) ∨ Anc all (m0 + m) i := by
 intro l
 induction l with
 | nil => intro m0 _ m u hm; simp at hm
 | cons u0 l ih =>
   intro m0 h m u hm hne x hx hu
   simp only [confOneA, Bool.and_eq_true] at h
   cases m with
   | zero =>
     have e : u0 = u := by simpa using hm
     subst e
     have h1 := h.1
     simp only [Bool.or_eq_true, beq_iff_eq, Bool.not_eq_true'] at h1
     rcases h1 with ((h1 | h1) | h1) | h1
     ·exact absurd h1 (by simpa using hne)
     ·rw [List.any_eq_false] at h1
      exact absurd (by simpa using hu) (h1 x (List.mem_append.2 hx))
     ·exact .inl (ancB_spec h1)
     ·exact .inr (ancB_spec h1)
   | succ m =>
     have := ih (m0 + 1) h.2 m u (by simpa using hm) (by omega) x hx hu
     rwa [show m0 + 1 + m = m0 + (m + 1) by omega] at this
theorem confAllA_spec {all : List It} : ∀ (l : List It) (i0 : Nat), confAllA all i0 l = true → ∀ i t, l[i]? = some t → (∀ e ∈ depsOf t.o, e < i0 + i) ∧ confOneA all (i0 + i) t 0 all = true := by
 intro l
 induction l with
 | nil => intro i0 _ i t ht; simp at ht
 | cons t0 l ih =>
   intro i0 h i t ht
   simp only [confAllA, Bool.and_eq_true, List.all_eq_true, decide_eq_true_eq] at h
   cases i with
   | zero =>
     have e : t0 = t := by simpa using ht
     subst e
     exact ⟨h.1.1, h.1.2⟩
   | succ i =>
     have := ih (i0 + 1) h.2 i t (by simpa using ht)
     rwa [show i0 + 1 + i = i0 + (i + 1) by omega] at this
theorem ConfA.of (h : confAllA l 0 l = true) : ConfA l where
 back := fun i t ht => by simpa using (confAllA_spec l 0 h i t ht).1
 edge := fun i m t u ht hu hne x hx hxu => by
  have := confOneA_spec l 0 (by simpa using (confAllA_spec l 0 h i t ht).2) m u hu (by simpa using hne) x hx hxu
  simpa using this
theorem drawAnyA {nx : Nat} {l : List It} {st : St} {G0 : Nat → Option Value} {F0 : Nat → Nat → Prop} {M0 : Mem} {w0 : World} (hops : ∀ i : Nat, (ops[i]? : Option Oper) = (l[i]?).map fun t => t.o) (hn : ops.size = l.length) (hc : ConfA l)
  (his : ∀ i t, l[i]? = some t → OpIs P fr ro ds ops (nx + i) (foldS fr (fun j => decide (j < i)) 0 l st) t)
  (hQ : ∀ G F a w, SimD P fr ds G F (foldS fr (fun _ => true) 0 l st) (nx + l.length) a w → (∀ j, nx + l.length ≤ j → G j = none) → Step (· < fr.base) G0 F0 M0 w0 G F (foldS fr (fun _ => true) 0 l st).mem w → Post P fr ds G0 F0 M0 w0 Q .normal a w) :
  ∀ (fuel : Nat) (listed : Array Bool) (G : Nat → Option Value) (F : Nat → Nat → Prop) (a : Act) (w : World), listed.size = l.length →
    SimD P fr ds G F (foldS fr (inS listed) 0 l st) (nx + l.length) a w → Step (· < fr.base) G0 F0 M0 w0 G F (foldS fr (inS listed) 0 l st).mem w →
    (∀ j, nx ≤ j → (∀ i, i < l.length → inS listed i = true → j ≠ nx + i) → G j = none) →
    (∀ i t, l[i]? = some t → inS listed i = true → ∀ e ∈ depsOf t.o, inS listed e = true) →
    (List.range l.length).countP (fun i => !inS listed i) ≤ fuel →
    wpAnyIn (fc ro) 0 P .any ops (Post P fr ds G0 F0 M0 w0 Q) fuel listed a w := by
 have allDone : ∀ (listed : Array Bool) (G : Nat → Option Value) (F : Nat → Nat → Prop) (a : Act) (w : World), SimD P fr ds G F (foldS fr (inS listed) 0 l st) (nx + l.length) a w → Step (· < fr.base) G0 F0 M0 w0 G F (foldS fr (inS listed) 0 l st).mem w →
   (∀ j, nx ≤ j → (∀ i, i < l.length → inS listed i = true → j ≠ nx + i) → G j = none) → (∀ i, i < l.length → inS listed i = true) → Post P fr ds G0 F0 M0 w0 Q .normal a w := by
  intro listed G F a w s S hfr hall
  have e : foldS fr (inS listed) 0 l st = foldS fr (fun _ => true) 0 l st := foldS_congr fun m hm => by rw [Nat.zero_add]; exact hall m hm
  rw [e] at s S
  exact hQ G F a w s (fun j hj => hfr j (by omega) fun i hi _ => by omega) S
 have readyOf : ∀ (listed : Array Bool), listed.size = l.length → ∀ i, i ∈ Region.ready .any ops listed ↔ inS listed i = false ∧ ∃ t, l[i]? = some t ∧ ∀ e ∈ depsOf t.o, inS listed e = true := by
  intro listed hsz i
  rw [mem_ready]
  constructor
  ·rintro ⟨h1, o, ho, h2⟩
   rw [hops] at ho
   obtain ⟨t, ht, rfl⟩ := Option.map_eq_some_iff.1 ho
   have hi : i < l.length := (List.getElem?_eq_some_iff.1 ht).1
   refine ⟨?_, t, ht, fun e he => ?_⟩
   ·unfold inS
    rw [Array.getD_eq_getD_getElem?] at h1 ⊢
    rw [Array.getElem?_eq_getElem (by omega)] at h1 ⊢
    exact h1
   ·simp only [depsOf, List.mem_map, List.mem_filter] at he
    obtain ⟨e', ⟨he1, he2⟩, rfl⟩ := he
    exact h2 e' (by simpa using he1) he2
  ·rintro ⟨h1, t, ht, h2⟩
   have hi : i < l.length := (List.getElem?_eq_some_iff.1 ht).1
   refine ⟨?_, t.o, by rw [hops, ht]; rfl, fun e he hb => h2 e.on ?_⟩
   ·unfold inS at h1
    rw [Array.getD_eq_getD_getElem?] at h1 ⊢
    rw [Array.getElem?_eq_getElem (by omega)] at h1 ⊢
    exact h1
   ·simp only [depsOf, List.mem_map, List.mem_filter]
    exact ⟨e, ⟨by simpa using he, hb⟩, rfl⟩
 have noneReady : ∀ (listed : Array Bool), listed.size = l.length → Region.ready .any ops listed = [] → ∀ i, i < l.length → inS listed i = true := by
  intro listed hsz hr i
  induction i using Nat.strongRecOn with
  | _ i ih =>
    intro hi
    cases hs : inS listed i with
    | true => rfl
    | false =>
      have : i ∈ Region.ready .any ops listed := (readyOf listed hsz i).2 ⟨hs, l[i], List.getElem?_eq_getElem hi, fun e he => by
       have := hc.back i l[i] (List.getElem?_eq_getElem hi) e he
       exact ih e this (by omega)⟩
      rw [hr] at this; cases this
 intro fuel
 induction fuel with
 | zero =>
   intro listed G F a w hsz s S hfr hcl hcount
   have hall : ∀ i, i < l.length → inS listed i = true := by
    intro i hi
    have h0 : (List.range l.length).countP (fun i => !inS listed i) = 0 := by omega
    rw [List.countP_eq_zero] at h0
    have := h0 i (by simpa using hi)
    simpa using this
   refine ⟨?_, allDone listed G F a w s S hfr hall⟩
   cases hr : Region.ready .any ops listed with
   | nil => rfl
   | cons i rs =>
     have := (readyOf listed hsz i).1 (by rw [hr]; exact List.mem_cons_self)
     obtain ⟨h1, t, ht, _⟩ := this
     rw [hall i (List.getElem?_eq_some_iff.1 ht).1] at h1; cases h1
 | succ fuel ih =>
   intro listed G F a w hsz s S hfr hcl hcount
   refine ⟨fun hr => allDone listed G F a w s S hfr (noneReady listed hsz hr), fun i hi => ?_⟩
   obtain ⟨hSi, t, ht, hdep⟩ := (readyOf listed hsz i).1 hi
   have hil : i < l.length := (List.getElem?_eq_some_iff.1 ht).1
   unfold wpOpIn
   rw [hops, ht]
   simp only [Option.map_some]
   have hadd : ∀ j, inS (listed.setIfInBounds i true) j = addS (inS listed) i j := by
    intro j
    unfold inS addS
    simp only [Array.getD_eq_getD_getElem?, Array.getElem?_setIfInBounds]
    by_cases h : i = j
    ·subst h
     simp [show i < listed.size by omega]
    ·simp [h, Ne.symm h]
   have hfold : foldS fr (inS (listed.setIfInBounds i true)) 0 l st = foldS fr (addS (inS listed) i) 0 l st := foldS_congr fun m _ => hadd _
   have hlook : ∀ x, look fr (foldS fr (inS (listed.setIfInBounds i true)) 0 l st) x = look fr (run1 fr t.o.dst t.r (foldS fr (inS listed) 0 l st)) x := by
    intro x
    rw [hfold]
    refine foldS_add ht hSi (fun m u hu hlt hSm x hx => ?_) x
    cases hw : wrt u.o.dst u.r x with
    | none => rfl
    | some v =>
      exfalso
      rcases hc.edge i m t u ht hu (by omega) x (.inr (wrt_wl hx)) (wrt_wl (by rw [hw]; rfl)) with h | h
      ·have := hc.lt h; omega
      ·have := h.closed hcl hSm
       rw [hSi] at this; cases this
   refine his i t ht _ G F a w (nx + l.length) _ _ s (by omega) (hfr _ (by omega) fun i' _ hS' he => ?_) (fun x hx => ?_) (fun G' F' a' w' s' S' hfr' => ?_)
   ·have : i = i' := by omega
    subst this
    rw [hSi] at hS'; cases hS'
   ·rw [look_foldS, look_foldS]
    refine lastW_agree l 0 _ fun m u hu hw => ?_
    rw [Nat.zero_add]
    by_cases hmi : m = i
    ·subst hmi; rw [hSi]; simp
    ·rcases hc.edge i m t u ht hu (fun h => hmi h.symm) x (.inl hx) (wrt_wl hw) with h | h
     ·have := hc.lt h
      rw [h.ready hcl ht hdep]; simp [this]
     ·have h1 := hc.lt h
      cases hSm : inS listed m with
      | false => simp; omega
      | true =>
        have := h.closed hcl hSm
        rw [hSi] at this; cases this
   ·refine ih _ G' F' a' w' (by simpa using hsz) (s'.ext hlook) ((S.trans (S'.mono fun _ _ => trivial)).ext (look_mem hlook)) (fun j hj hne => ?_) (fun i' t' ht' hS' e he => ?_) ?_
    ·refine hfr' j (hne i hil (by rw [hadd]; simp [addS])) (hfr j hj fun i' hi' hS' => hne i' hi' (by rw [hadd]; simp [addS, hS']))
    ·rw [hadd] at hS' ⊢
     simp only [addS, Bool.or_eq_true, decide_eq_true_eq] at hS' ⊢
     rcases hS' with hS' | rfl
     ·exact .inl (hcl i' t' ht' hS' e he)
     ·rw [ht] at ht'; cases ht'
      exact .inl (hdep e he)
    ·have := countP_less (p := fun i => !inS listed i) (q := fun j => !inS (listed.setIfInBounds i true) j) hil (by simp [hSi]) (by simp only [hadd]; simp [addS]) (fun j hj => by
       rw [hadd] at hj
       simp only [addS, Bool.not_or, Bool.and_eq_true] at hj
       exact hj.1)
     omega
theorem EvC.drawA {idr : Nat} {l : List Oper} {its : List It} (hm : P.follows .mixedOrders = true) (ht : Tr P fr ro ds l.toArray st.nx l st.clr its st') (hc : confAllA its 0 its = true)
  (hq : Q .normal ⟨st'.vars, st'.tmps, st'.mem, st.nx + its.length⟩) : EvC P fr ro ds (.region idr l.toArray true) st Q := by
 intro G0 F0 M0 w0 G F a w S s
 obtain ⟨h1, h2, h3⟩ := ht.spec
 obtain ⟨hm', S'⟩ := simM_drew (w' := { w with drawn := w.drawn + 1 }) (s.clr.sim.mem.more (Nat.le_add_right _ its.length)) rfl ⟨rfl, rfl, rfl, .refl⟩
 have hlen : l.length = its.length := by rw [← h1]; simp
 refine wpIn_region_any hm ?_
 have hnone : ∀ i, inS (Array.replicate l.toArray.size false) i = false := fun i => by
  unfold inS
  simp only [Array.getD_eq_getD_getElem?, Array.getElem?_replicate]
  split <;> rfl
 have e : foldS fr (inS (Array.replicate l.toArray.size false)) 0 its st.clr = st.clr := by
  have : ∀ (l' : List It) (m : Nat) (st : St), foldS fr (inS (Array.replicate l.toArray.size false)) m l' st = st := by
   intro l'
   induction l' with
   | nil => intro m st; rfl
   | cons u l' ih => intro m st; simp only [foldS]; rw [hnone]; exact ih _ _
  exact this _ _ _
 refine drawAnyA (l := its) (nx := st.nx) (st := st.clr) (fun i => by rw [← h1]; simp) (by simp [hlen]) (ConfA.of hc) h2 (fun G F a w s hfr S => ?_) _ _ G F a _ (by simp [hlen]) ?_ ?_ (fun j hj _ => s.fresh j hj) (fun i t _ h => by rw [hnone] at h; cases h) ?_
 ·refine ⟨G, F, _, ⟨⟨?_, fun k => ?_, s.size⟩, hfr, s.defers⟩, ?_, hq⟩
  ·rw [h3]; exact s.mem
  ·have := s.slots k
   rw [← h3] at this
   exact this
  ·rw [← h3] at S; exact S
 ·rw [e]
  exact ⟨hm', fun k => (s.clr.sim.slots k).step S' (fun _ _ => trivial), s.clr.sim.size, s.clr.defers⟩
 ·rw [e]; exact S.trans (S'.mono fun _ _ => trivial)
 ·refine Nat.le_trans List.countP_le_length (by simp [hlen])
theorem EvC.drwA {id : Nat} {l : List Oper} {its : List It} (hm : P.follows .mixedOrders = true) (ht : Tr P fr ro ds l.toArray st.nx l st.clr its st') (hc : confAllA its 0 its = true) (hq : Q .normal (st'.fin (st.nx + its.length))) : EvC P fr ro ds (.region id l.toArray true) st Q :=
 .clrQ (.drawA hm ht hc hq)
end
section
variable {P : Program} {fr : Fr} {ro : Option Nat} {ds : DS} {st st' : St} {Q Q' : Exit → St → Prop} {G G' : Nat → Option Value} {F F' : Nat → Nat → Prop} {a : Act} {w w' : World} {M M' : Mem}
 {ops : Array Oper} {l rest : List Oper} {o : Oper} {N id : Nat} {rd gs : List Nat}
end
theorem Imm.nil_zer {F : Nat → Nat → Prop} {w : World} {v : Value} {c : Cp} (h : Imm F w v (.sl true [] c)) : Imm F w v (.sl true [] .zer) := by
 cases h with
 | nil _ _ => exact .nil _ (.inr (.inl rfl))
def nilA (M : Mem) : AV → AV
 | .sl true [] _ => .sl true [] .zer
 | .tl j 0 true => match mlook M j with
   | some (.arr _ [] _) => .sl true [] .zer
   | _ => .tl j 0 true
 | v => v
def St.zerN (st : St) : St := ⟨st.vars, st.tmps, memMap (nilA st.mem) st.mem, st.nx⟩
attribute [go_sem] nilA St.zerN
section
variable {P : Program} {fr : Fr} {ro : Option Nat} {ds : DS} {st st' : St} {Q Q' : Exit → St → Prop} {G G' : Nat → Option Value} {F F' : Nat → Nat → Prop} {a : Act} {w w' : World} {M M' : Mem}
 {ops : Array Oper} {c : Code} {l rest : List Oper} {o : Oper} {N id : Nat} {rd gs : List Nat}
theorem nilA_rv {M : Mem} {nx : Nat} (hm : SimM P G F M nx w) {v : Value} {y : AV} (h : RV G F M w v y) : RV G F M w v (nilA M y) := by
 unfold nilA
 split
 ·exact .imm h.inv_sl.nil_zer
 ·rename_i j
  split
  ·rename_i esz fz ho
   obtain ⟨_, hh⟩ := h.inv_tl
   obtain ⟨hG, hb⟩ := (hh _ _ _ ho).2 rfl
   rcases (hm.obj j _ ho).2 with ⟨h0, base, h1, _⟩ | ⟨b, ko, c, cc, e, h1, _⟩
   ·rw [hG] at h1; cases h1
    cases base with
    | none => exact .imm (.nil _ (.inr (.inl rfl)))
    | some a => simp [isNilSlice] at hb
   ·rw [hG] at h1; cases h1
    simp [isNilSlice] at hb
  ·exact h
 ·exact h
theorem EvC.zerN (hc : EvC P fr ro ds c st.zerN Q) : EvC P fr ro ds c st Q :=
 EvC.conv (fun _ F _ _ s => let ⟨s', S'⟩ := s.memMap (f := nilA st.mem) fun _ _ h => nilA_rv s.sim.mem h; ⟨_, F, s', S'⟩) hc
theorem SimD.callT {f : FuncId} {cs : List AV} {callee : Operand} {args : Array Operand} {tys : Array TypeId} {xs : List AV} {esz : Nat} {es : List (List AV)} {K : Act → World → Prop} {Q1 : Exit → Act → World → Prop}
  (s : SimD P fr ds G F st N a w) (hN : id < N) (hid : G id = none) (hop : o.op = .call ⟨.value callee, args, tys⟩) (hd : dok fr o.dst = true) (hcal : od fr st true callee = .fn f cs)
  (hxs : callArgs fr st args ++ cs = xs) (hn : AV.norefs xs = true) (hc : PureNew P f xs esz es)
  (h : ∀ G' F' a' w', SimD P fr ds G' F' (run1 fr o.dst ⟨.tv id es.length 0 es.length .rest, some (id, .arr esz es false)⟩ st) N a' w' → Step All G F st.mem w G' F' (run1 fr o.dst ⟨.tv id es.length 0 es.length .rest, some (id, .arr esz es false)⟩ st).mem w' → (∀ j, j ≠ id → G j = none → G' j = none) → K a' w') : o.wpIn (fc ro) 0 P a w K Q1 := by
 refine ⟨fun _ _ => trivial, ?_⟩
 rw [Oper.semAt_eq _ _ _ (by rw [hop]; intro c h; cases h)]
 have hv := (s.eval callee).unopt
 have hv : RV G F st.mem w (a.eval callee) (.fn f cs) := by unfold od at hcal; rwa [hcal] at hv
 obtain ⟨vs, hev, hl, hcs⟩ := hv.inv_fn0 hc.1.1
 have hrun : (execOp a.eval o).run P w = .ok (.enter f ((args.toList.map a.eval ++ vs).toArray)) w := by
  obtain ⟨dst, op, ty, pos, after, guard⟩ := o
  simp only at hop
  subst hop
  simp only [execOp, resolve, hev, Deferred.ofValue, Sem.run_bind, Sem.run_pure, Result.andThen_ok, invoke]
  rw [hc.1.2]
  congr 2
  apply Array.ext'
  simp
 rw [hrun]
 have hi : Imms F w (args.toList.map a.eval ++ vs) xs := by
  subst hxs
  refine .of_rv (G := G) (M := st.mem) (by simp [callArgs, hl]) (fun i h1 h2 => ?_) hn
  by_cases hlt : i < args.toList.length
  ·rw [List.getElem_append_left (by simpa using hlt), List.getElem_append_left (by simpa [callArgs] using hlt)]
   simp only [callArgs, List.getElem_map]
   exact ((s.eval _).unopt).snap s.mem
  ·rw [List.getElem_append_right (by simpa using hlt), List.getElem_append_right (by simpa [callArgs] using hlt)]
   simp only [List.length_map, callArgs]
   exact hcs _ _ _
 refine ⟨fun h => by simp [fc, Fence.wide] at h, callsIn_fc ((hc.2 F w _ s.mem.fok hi).mono ?_)⟩
 rintro e w' ⟨b, ko, c, cc, el, F', rfl, q2, qb, q3, q4, q5, q6, q7, q8, g⟩
 obtain ⟨hm', S'⟩ := simM_grownNew (id := id) s.mem g hid hN (.slice (some ⟨b, ko, none⟩) es.length c) (.arr esz es false) (by simp [blkOf, q2]) qb fun S =>
  .inr ⟨b, ko, c, cc, el, upG_self _ _ _, q2, q3, q4, q5, q6, fun i j hi hj => by
   obtain ⟨v, k1, k2, k3⟩ := q7 i j hi hj
   exact ⟨v, k1, k2, .imm k3⟩, fun o hF => absurd hF (q8 o), fun hz => by cases hz⟩
 have hmid : mlook st.mem id = none := s.mem.noM hid
 obtain ⟨s1, S1⟩ := s.put (d := o.dst) (r := ⟨.tv id es.length 0 es.length .rest, some (id, .arr esz es false)⟩) (u := .slice (some ⟨b, ko, none⟩) es.length c) hm' (fun i => by
  simp only [Rc.mem]
  rw [mlook_mset, mlook_cons]) S' hd (.tv id es.length 0 es.length .rest _ (by rw [upG_self]; simp) fun esz' es' fz' ho => by
   rw [mlook_cons, if_pos rfl] at ho; cases ho
   exact ⟨Nat.le_refl _, fun _ => ⟨by omega, b, ko, c, upG_self _ _ _, .inl q2, c, by simp, q4, .inr (.inr ⟨rfl, by omega⟩)⟩⟩)
 exact h _ _ _ w' s1 S1 fun j hj hG => by rw [upG_other G _ hj]; exact hG
theorem OpIs.callT {f : FuncId} {cs : List AV} {callee : Operand} {args : Array Operand} {tys : Array TypeId} {xs : List AV} {esz : Nat} {es : List (List AV)} (hg : o.guard = none) (hop : o.op = .call ⟨.value callee, args, tys⟩) (hd : dok fr o.dst = true)
  (hcal : od fr st true callee = .fn f cs) (hxs : callArgs fr st args ++ cs = xs) (hn : AV.norefs xs = true) (hrd : rdOf fr st [] o = rd) (hc : PureNew P f xs esz es) : OpIs P fr ro ds ops id st ⟨o, ⟨.tv id es.length 0 es.length .rest, some (id, .arr esz es false)⟩, rd⟩ := by
 intro st' G F a w N K Q1 s hN hG hl h
 simp only [Region.wanted, hg, if_true]
 obtain ⟨e1, e2⟩ := callArgs_look (gs := []) (by rw [hrd]; exact hl) hop
 exact s.callT hN hG hop hd (by rw [e1]; exact hcal) (by rw [e2]; exact hxs) hn hc h
end
def St.mapE (f : AV → AV) (j k : Nat) (st : St) : Option St :=
 match mlook st.mem j with
 | some (.arr esz es false) => match es[k]? with
   | some c => some ⟨st.vars, st.tmps, mset st.mem j (.arr esz (es.set k (c.map f)) false), st.nx⟩
   | none => none
 | _ => none
attribute [go_sem] St.mapE
section
variable {P : Program} {fr : Fr} {ro : Option Nat} {ds : DS} {st st' : St} {Q Q' : Exit → St → Prop} {G G' : Nat → Option Value} {F F' : Nat → Nat → Prop} {a : Act} {w w' : World} {x y c : Code} {M : Mem}
theorem simM_mapE {nx j esz k : Nat} {es : List (List AV)} {c0 : List AV} {f : AV → AV} (hm : SimM P G F M nx w) (ho : mlook M j = some (.arr esz es false)) (hk : es[k]? = some c0) (hf : ∀ v y, RV G F M w v y → RV G F M w v (f y)) :
  SimM P G F (mset M j (.arr esz (es.set k (c0.map (f))) false)) nx w ∧ Step All G F M w G F (mset M j (.arr esz (es.set k (c0.map (f))) false)) w := by
 obtain ⟨es', hes⟩ : ∃ es', es' = es.set k (c0.map (f)) := ⟨_, rfl⟩
 rw [← hes]
 have hle : es'.length = es.length := by rw [hes, List.length_set]
 have hold := (hm.obj j _ ho).2
 have S : Step All G F M w G F (mset M j (.arr esz es' false)) w :=
  { kept := .refl
    size := Nat.le_refl _
    out := fun _ _ _ => rfl
    F1 := fun _ _ h => h
    F2 := fun _ _ _ => rfl
    F3 := fun b o h => .inl h
    own := fun b ⟨id, o, v, h3, h4, h5⟩ => by
     rw [mlook_mset] at h3
     by_cases hi : id = j
     ·subst hi; exact .inr ⟨id, _, v, ho, h4, h5⟩
     ·rw [if_neg hi] at h3; exact .inr ⟨id, o, v, h3, h4, h5⟩
    some' := fun _ _ h => h
    same := fun _ _ _ h _ => h
    keep := fun id o' _ hG h3 => by
     obtain ⟨v, hv⟩ := Option.ne_none_iff_exists'.1 hG
     rw [mlook_mset] at h3
     by_cases hi : id = j
     ·subst hi
      rw [if_pos rfl] at h3; cases h3
      exact ⟨_, v, v, ho, hv, hv, ⟨rfl, .inl ⟨hle, rfl⟩⟩⟩
     ·rw [if_neg hi] at h3
      exact ⟨o', v, v, h3, hv, hv, objKeep.refl v o'⟩ }
 have hinj : ∀ id id' v v' b, mlook (mset M j (.arr esz es' false)) id ≠ none → mlook (mset M j (.arr esz es' false)) id' ≠ none → G id = some v → G id' = some v' → blkOf v = some b → blkOf v' = some b → id = id' := by
  intro id id' v v' b h1 h2
  refine hm.inj id id' v v' b ?_ ?_
  ·rw [mlook_mset] at h1; by_cases hi : id = j
   ·subst hi; rw [ho]; simp
   ·rwa [if_neg hi] at h1
  ·rw [mlook_mset] at h2; by_cases hi : id' = j
   ·subst hi; rw [ho]; simp
   ·rwa [if_neg hi] at h2
 refine ⟨simM_gen hm S (fun id o' h => ?_) hinj hm.inF, S⟩
 rw [mlook_mset] at h
 by_cases hi : id = j
 ·subst hi; rw [if_pos rfl] at h; cases h
  refine ⟨(hm.obj id _ ho).1, .inl ?_⟩
  have hkl : k < es.length := (List.getElem?_eq_some_iff.1 hk).1
  have hke : es[k] = c0 := by rw [List.getElem?_eq_getElem hkl] at hk; exact Option.some.inj hk
  rcases hold with ⟨h0, _⟩ | ⟨b, ko, c, cc, e, h1, h2, h3, h4, h5, h6, h7, h8, h9⟩
  ·rw [h0] at hkl; exact absurd hkl (Nat.not_lt_zero _)
  ·refine .inr ⟨b, ko, c, cc, e, by rw [hle]; exact h1, h2, h3, by rw [hle]; exact h4, h5, fun i hi' => ?_, fun i l hi' hl' => ?_, fun o h => absurd (h8 o h).1 (by simp), fun h => (by cases h)⟩
   ·have hi2 : i < es.length := by rw [← hle]; exact hi'
    simp only [hes, List.getElem_set]
    split
    ·rename_i e1; subst e1; rw [List.length_map, ← hke]; exact h6 _ hi2
    ·exact h6 _ hi2
   ·have hi2 : i < es.length := by rw [← hle]; exact hi'
    by_cases e1 : k = i
    ·subst e1
     have e2 : es'[k] = es[k].map (f) := by simp [hes, hke]
     have hl2 : l < es[k].length := by rw [e2, List.length_map] at hl'; exact hl'
     obtain ⟨v, k1, k2, k3⟩ := h7 k l hi2 hl2
     refine ⟨v, k1, k2, ?_⟩
     have e3 : es'[k][l] = f es[k][l] := by simp [e2]
     rw [e3]
     exact (hf _ _ k3).step S fun _ _ => trivial
    ·have e2 : es'[i] = es[i] := by simp [hes, e1]
     have hl2 : l < es[i].length := by rw [e2] at hl'; exact hl'
     obtain ⟨v, k1, k2, k3⟩ := h7 i l hi2 hl2
     have e3 : es'[i][l] = es[i][l] := by simp [e2]
     exact ⟨v, k1, k2, by rw [e3]; exact k3.step S fun _ _ => trivial⟩
 ·rw [if_neg hi] at h
  exact ⟨(hm.obj id _ h).1, .inr ⟨h, rfl, fun b v hG hb => ⟨rfl, fun _ h => h⟩⟩⟩
theorem SimA.mapE {j k : Nat} {f : AV → AV} (s : SimA P fr ds G F st a w) (h : st.mapE f j k = some st') (hf : ∀ v y, RV G F st.mem w v y → RV G F st.mem w v (f y)) : SimA P fr ds G F st' a w ∧ Step (· < fr.base) G F st.mem w G F st'.mem w := by
 unfold St.mapE at h
 split at h
 ·rename_i esz es ho
  split at h
  ·rename_i c0 hk
   cases h
   obtain ⟨hm', S'⟩ := simM_mapE s.sim.mem ho hk hf
   exact ⟨⟨⟨hm', fun k => (s.sim.slots k).step S' (fun _ _ => trivial), s.sim.size⟩, s.fresh, s.defers⟩, S'.mono fun _ _ => trivial⟩
  ·cases h
 ·cases h
end
section
variable {P : Program} {fr : Fr} {ro : Option Nat} {ds : DS} {st st' : St} {G G' : Nat → Option Value} {F F' : Nat → Nat → Prop} {a : Act} {w w' : World} {M M' : Mem}
 {ops : Array Oper} {o : Oper} {N id : Nat} {rd gs : List Nat}
end
section
variable {P : Program}
end
section
variable {P : Program} {fr : Fr} {ro : Option Nat} {ds : DS} {st st1 : St} {Q : Exit → St → Prop} {G : Nat → Option Value} {F : Nat → Nat → Prop} {a : Act} {w w' : World}
theorem SimA.putJ {d : Nat} (s : SimA P fr ds G F st a w) (hj : st.get fr d = .junk) (u : Value) : SimA P fr ds G F st (a.put (some d) u) w :=
 ⟨⟨s.sim.mem, fun k => by
   rw [getD_put]
   split
   ·rename_i h; rw [h.1, hj]; exact .imm (.junk _)
   ·exact s.sim.slots k, by simp only [Act.put, Array.size_setIfInBounds]; exact s.sim.size⟩, s.fresh, s.defers⟩
theorem Marks.drew {l : List Deferred} (h : Marks ds l w) : Marks ds l (drew1 w) := h
theorem Step.drew {B : Nat → Prop} {G0 : Nat → Option Value} {F0 : Nat → Nat → Prop} {M0 M : Mem} {w0 : World} (S : Step B G0 F0 M0 w0 G F M w) (hF : ∀ b o, F b o → b < w.heap.size) : Step B G0 F0 M0 w0 G F M (drew1 w) :=
 S.allocs (Nat.le_refl _) (fun _ _ => rfl) hF ⟨rfl, rfl, rfl, .refl⟩
end
def St.unkV (fr : Fr) (k : Nat) (st : St) : Option St :=
 match (st.get fr k).noref with
 | true => some (st.put fr (some k) (st.get fr k).unk)
 | false => none
attribute [go_sem] St.unkV
section
variable {P : Program} {fr : Fr} {ro : Option Nat} {ds : DS} {st st' : St} {Q : Exit → St → Prop} {G : Nat → Option Value} {F : Nat → Nat → Prop} {a : Act} {w : World} {c : Code}
theorem SimA.unkV {k : Nat} (s : SimA P fr ds G F st a w) (h : st.unkV fr k = some st') : SimA P fr ds G F st' a w ∧ st'.mem = st.mem := by
 unfold St.unkV at h
 split at h
 ·rename_i hn
  cases h
  refine ⟨⟨⟨by rw [St.put_mem, St.put_nx]; exact s.sim.mem, fun j => ?_, s.sim.size⟩, fun j hj => s.fresh j (by rw [St.put_nx] at hj; exact hj), s.defers⟩, St.put_mem ..⟩
  rw [St.put_mem, St.get_put]
  split
  ·rename_i hj; subst hj
   exact .imm ((s.sim.slots j).imm_of hn).unk
  ·exact s.sim.slots j
 ·cases h
theorem EvC.unkV (k : Nat) (h : st.unkV fr k = some st') (hc : EvC P fr ro ds c st' Q) : EvC P fr ro ds c st Q :=
 EvC.conv (fun G F _ _ s => ⟨G, F, (s.unkV h).1, by rw [(s.unkV h).2]; exact .refl⟩) hc
end
section
variable {P : Program} {fr : Fr} {ro : Option Nat} {ds : DS} {st st' : St} {Q Q' : Exit → St → Prop} {G G' : Nat → Option Value} {F F' : Nat → Nat → Prop} {a : Act} {w w' : World} {c : Code}
 {M : Mem} {ops : Array Oper} {l rest : List Oper} {o : Oper} {id N : Nat} {rd : List Nat}
end
section
variable {P : Program} {fr : Fr} {ro : Option Nat} {ds : DS} {st st' : St} {Q Q' : Exit → St → Prop} {G G' Gs : Nat → Option Value} {F F' : Nat → Nat → Prop} {a : Act} {w w' : World} {c : Code}
 {M M0 Ms X : Mem} {ops : Array Oper} {l rest : List Oper} {o : Oper} {id N nx : Nat} {rd : List Nat} {v : Value} {y : AV}
theorem RV.sub (h : RV G F M w v y) (hs : ∀ id o, mlook M0 id = some o → mlook M id = some o) : RV G F M0 w v y := by
 induction h with
 | imm h => exact .imm h
 | ag vs cs hl _ ih => exact .ag vs cs hl ih
 | tu vs cs hl _ ih => exact .tu vs cs hl ih
 | ifc t v x _ ih => exact .ifc t v x ih
 | fn f vs cs hl _ ih => exact .fn f vs cs hl ih
 | opt b v x _ h' ih => exact .opt b v x ih h'
 | rf id off b h => exact .rf id off b h
 | mp id b h => exact .mp id b h
 | tl id len nl v hG h => exact .tl id len nl v hG fun esz es fz hm => h esz es fz (hs _ _ hm)
 | tv id n off len cap v hG h => exact .tv id n off len cap v hG fun esz es fz hm => h esz es fz (hs _ _ hm)
 | ea id n i off v hG h => exact .ea id n i off v hG fun esz es fz hm => h esz es fz (hs _ _ hm)
theorem ObjOk.map_rv {id : Nat} {o : RObj} (h : ObjOk P G F M w id o) (hG : G' id = G id) (hr : ∀ v y, RV G F M w v y → RV G' F M0 w v y) : ObjOk P G' F M0 w id o := by
 cases o with
 | cells cs =>
   obtain ⟨b, c, e, h1, h2, h3, h4, h5⟩ := h
   exact ⟨b, c, e, hG.trans h1, h2, h3, fun i a b => hr _ _ (h4 i a b), h5⟩
 | arr esz es fz =>
   rcases h with ⟨h0, base, h1, hsp⟩ | ⟨b, ko, c, cc, e, h1, h2, h3, h4, h5, h6, h7, h8, h9⟩
   ·exact .inl ⟨h0, base, hG.trans h1, hsp⟩
   ·exact .inr ⟨b, ko, c, cc, e, hG.trans h1, h2, h3, h4, h5, h6, fun i j a b => by
     obtain ⟨v, hv, h1, hr'⟩ := h7 i j a b
     exact ⟨v, hv, h1, hr _ _ hr'⟩, h8, h9⟩
 | map kt es =>
   obtain ⟨b, ents, clock, h1, h2, h3, h4, h5⟩ := h
   exact ⟨b, ents, clock, hG.trans h1, h2, h3, fun i a b => ⟨(h4 i a b).1, hr _ _ (h4 i a b).2.1, (h4 i a b).2.2⟩, h5⟩
theorem SimM.sub (h : SimM P G F M N w) (hs : ∀ id o, mlook M0 id = some o → mlook M id = some o) : SimM P G F M0 N w where
 obj := fun id o ho => ⟨(h.obj id o (hs _ _ ho)).1, (h.obj id o (hs _ _ ho)).2.map_rv rfl fun _ _ hr => hr.sub hs⟩
 inj := fun id id' v v' b h1 h2 => by
  obtain ⟨o, h1⟩ := Option.ne_none_iff_exists'.1 h1
  obtain ⟨o', h2⟩ := Option.ne_none_iff_exists'.1 h2
  exact h.inj id id' v v' b (by rw [hs _ _ h1]; simp) (by rw [hs _ _ h2]; simp)
 inF := h.inF
 gl := h.gl
def bodyArgsS (fr : Fr) (st : St) (args : Array Operand) : List AV := args.toList.map fun x => snap st.mem (od fr st true x)
end
attribute [go_sem] bodyArgsS
variable {P : Program} {fr : Fr} {ro : Option Nat} {ds : DS} {Q : Exit → St → Prop} {ops : Array Oper}
theorem XR.runTo' : ∀ (n : Nat) (l : List Oper) {st : St} {ok ok' : Bool} {st' : St}, xrun P fr (l.take n) st ok = .done ok' st' → ok' = true → XR P fr ro ds ops (l.drop n) st' Q → XR P fr ro ds ops l st Q ∧ ok = true
 | 0, l, st, ok, ok', st', h, hok, hq => by
   simp only [List.take_zero, xrun] at h
   cases h; exact ⟨hq, hok⟩
 | n + 1, [], st, ok, ok', st', h, hok, hq => by
   simp only [List.take_nil, xrun] at h
   cases h; exact ⟨hq, hok⟩
 | n + 1, o :: l, st, ok, ok', st', h, hok, hq => by
   rw [List.take_succ_cons] at h
   rw [List.drop_succ_cons] at hq
   unfold xrun at h
   split at h
   ·cases h
   ·rename_i hg
    split at h
    ·cases h
    ·rename_i hd
     split at h
     ·cases h
     ·rename_i b st1 he
      have := XR.runTo' n l h hok hq
      have h2 := this.2
      simp only [Bool.and_eq_true] at h2
      exact ⟨.op hg hd he h2.2 this.1, h2.1⟩
theorem XR.runTo (n : Nat) {l : List Oper} {st st' : St} {ok : Bool} (h : xrun P fr (l.take n) st true = .done ok st') (hok : ok = true) (hq : XR P fr ro ds ops (l.drop n) st' Q) : XR P fr ro ds ops l st Q := (XR.runTo' n l h hok hq).1
theorem EvC.rt {st st' : St} {l : List Oper} {ok : Bool} {id : Nat} (n : Nat) (h : xrun P fr (l.take n) st.clr true = .done ok st') (hok : ok = true) (hq : XR P fr ro ds l.toArray (l.drop n) st' Q) : EvC P fr ro ds (.region id l.toArray false) st Q := .region (.runTo n h hok hq)
section
variable {P : Program} {fr : Fr} {ro : Option Nat} {ds : DS} {st st' : St} {Q Q' : Exit → St → Prop} {x y c : Code} {l rest : List Oper} {o : Oper} {ok : Bool} {id : Nat} {ops : Array Oper} {its : List It}
theorem EvC.a (hq : EvC P fr ro ds y st'.clr Q) (h : xrun P fr l st.clr true = .done ok st' := by simp only [go_sem] <;> rfl) (hok : ok = true := by simp) : EvC P fr ro ds (.seq (.region id l.toArray false) y) st Q := .seq (.rg h hok hq)
theorem EvC.b (hq : Q .normal st'.clr) (h : xrun P fr l st.clr true = .done ok st' := by simp only [go_sem] <;> rfl) (hok : ok = true := by simp) : EvC P fr ro ds (.region id l.toArray false) st Q := .rg h hok hq
theorem EvC.bi (hq : Q .normal st'.clr) (h : xrun P fr l st.clr true = .done ok st' := by simp only [go_sem] <;> rfl) (hok : ok = true := by exact inI64_of (by omega) (by omega)) : EvC P fr ro ds (.region id l.toArray false) st Q := .rg h hok hq
theorem EvC.cd {o : Operand} {b : Bool} (ht : b = true → EvC P fr ro ds x st Q) (hf : b = false → EvC P fr ro ds y st Q) (ho : opnd fr st o = .sc (.bool b) := by simp only [go_sem] <;> rfl) : EvC P fr ro ds (.cond o x y) st Q := .cond ho ht hf
theorem EvC.s1 (ht : Tr P fr ro ds l.toArray st.nx l st.clr its st') (hq : EvC P fr ro ds y (st'.fin (st.nx + its.length)) Q) : EvC P fr ro ds (.seq (.region id l.toArray false) y) st Q := .seq (.tr ht hq)
theorem EvC.ct {o : Operand} (ht : EvC P fr ro ds x st Q) (ho : opnd fr st o = .sc (.bool true) := by simp only [go_sem] <;> rfl) : EvC P fr ro ds (.cond o x y) st Q := .cond_true ho ht
theorem EvC.cs {o : Operand} (h : Q .normal st) (ho : opnd fr st o = .sc (.bool false) := by simp only [go_sem] <;> rfl) : EvC P fr ro ds (.cond o x .skip) st Q := .cond_false ho (.skip h)
theorem EvC.z (i : Nat) (hc : EvC P fr ro ds c st' Q) (h : st.frzB i = some st' := by simp only [go_sem] <;> rfl) : EvC P fr ro ds c st Q := .frzB i h hc
theorem EvC.rz {results : List ResultVar} {r : AV} {rs : List AV} (h2 : mkRes rs = r) (hQ : Q .ret st = retP P fr results r .ret st := by rfl) (h1 : resAll P fr st results = some rs := by simp only [go_sem] <;> rfl) (h3 : r.noref = true := by rfl) : EvC P fr ro ds .ret st Q := .ret (by rw [hQ]; exact ⟨.inl rfl, _, h1, h2, h3⟩)
theorem OpIs.ca {f : FuncId} {cs : List AV} {callee : Operand} {args : Array Operand} {tys : Array TypeId} {xs : List AV} {v : AV} {rd : List Nat} (hc : PureIs P f xs v) (hg : o.guard = none := by rfl) (hop : o.op = .call ⟨.value callee, args, tys⟩ := by rfl) (hd : dok fr o.dst = true := by simp only [go_sem] <;> rfl)
 (hcal : od fr st true callee = .fn f cs := by simp only [go_sem] <;> rfl) (hxs : callArgs fr st args ++ cs = xs := by simp only [go_sem] <;> rfl) (hn : AV.norefs xs = true := by simp only [go_sem] <;> rfl) (hrd : rdOf fr st [] o = rd := by simp only [go_sem] <;> rfl) : OpIs P fr ro ds ops id st ⟨o, ⟨v, none⟩, rd⟩ := .call hg hop hd hcal hxs hn hrd hc
theorem OpIs.cg {j k : Nat} {want : Bool} {f : FuncId} {cs : List AV} {callee : Operand} {args : Array Operand} {tys : Array TypeId} {xs : List AV} {v : AV} {rd : List Nat} (hc : PureIs P f xs v) (hg : o.guard = some (j, want) := by rfl) (hj : gslot ops j = some k := by rfl) (hk : gval want (st.get fr k) = some true := by simp only [go_sem] <;> rfl)
 (hop : o.op = .call ⟨.value callee, args, tys⟩ := by rfl) (hd : dok fr o.dst = true := by simp only [go_sem] <;> rfl)
 (hcal : od fr st true callee = .fn f cs := by simp only [go_sem] <;> rfl) (hxs : callArgs fr st args ++ cs = xs := by simp only [go_sem] <;> rfl) (hn : AV.norefs xs = true := by simp only [go_sem] <;> rfl) (hrd : rdOf fr st [2 * k] o = rd := by simp only [go_sem] <;> rfl) : OpIs P fr ro ds ops id st ⟨o, ⟨v, none⟩, rd⟩ := .callG hg hj hk hop hd hcal hxs hn hrd hc
theorem PureIs.of1 (nv : Nat) (hid : List Nat) {f : FuncId} {fn : Func} {args : List AV} {r : AV} {n : Nat} {rs : Array ResultVar} (hf : P.funcs[f]? = some fn) (hn : fn.ntmps = n) (hr : fn.results = rs)
  (h : ∀ h0 : Nat, EvC P ⟨0, nv, hid, n⟩ none ⟨h0, none, false⟩ c (st0 args) (retP P ⟨0, nv, hid, n⟩ rs.toList r)) (hb : fn.body = some c := by rfl) (hnm : (fn.name == "runtime.NumGoroutine") = false := by kernel_rfl) (hsz : args.length ≤ n := by simp) (hlt : f < 1000000 := by first | assumption | decide) : PureIs P f args r := by
 subst hn hr
 exact .of hf hb hnm hsz h
end
section
variable {P : Program} {fr : Fr} {ro : Option Nat} {ds : DS} {st st1 st2 st3 st4 : St} {Q : Exit → St → Prop} {y : Code} {l r1 r2 r3 : List Oper} {o1 o2 o3 : Oper} {b1 b2 b3 b4 : Bool} {id n1 n2 n3 : Nat} {i1 i2 i3 i4 : List It} {x1 x2 x3 : Rc} {d1 d2 d3 : List Nat}
theorem EvC.g (hq : EvC P fr ro ds y (st1.fin (st.nx + i1.length)) Q) (h : trun P fr l l st.nx st.clr = .done b1 i1 st1 := by simp only [go_sem] <;> rfl) (hok : b1 = true := by simp) : EvC P fr ro ds (.seq (.region id l.toArray false) y) st Q := .seq (.trd h hok hq)
theorem EvC.d (m : P.follows .mixedOrders = true) (hq : EvC P fr ro ds y (st1.fin (st.nx + i1.length)) Q) (h : trun P fr l l st.nx st.clr = .done b1 i1 st1 := by simp only [go_sem] <;> rfl) (hok : b1 = true := by simp) (hc : confAll i1 0 i1 = true := by kernel_rfl) : EvC P fr ro ds (.seq (.region id l.toArray true) y) st Q := .seq (.drd m h hok hc hq)
theorem EvC.dL (m : P.follows .mixedOrders = true) (hq : Q .normal (st1.fin (st.nx + i1.length))) (h : trun P fr l l st.nx st.clr = .done b1 i1 st1 := by simp only [go_sem] <;> rfl) (hok : b1 = true := by simp) (hc : confAll i1 0 i1 = true := by kernel_rfl) : EvC P fr ro ds (.region id l.toArray true) st Q := .drd m h hok hc hq
theorem EvC.k1 (hq : EvC P fr ro ds y (st2.fin (st.nx + (i1 ++ ⟨o1, x1, d1⟩ :: i2).length)) Q) (h1 : trun P fr l l st.nx st.clr = .stop b1 i1 st1 (o1 :: r1) n1 := by simp only [go_sem] <;> rfl) (k1 : b1 = true := by simp)
 (c1 : OpIs P fr ro ds l.toArray n1 st1 ⟨o1, x1, d1⟩) (h2 : trun P fr l r1 (n1 + 1) (run1 fr o1.dst x1 st1) = .done b2 i2 st2 := by simp only [go_sem] <;> rfl) (k2 : b2 = true := by simp) : EvC P fr ro ds (.seq (.region id l.toArray false) y) st Q := .seq (.tr (.run h1 k1 (.cons c1 (.done h2 k2))) hq)
theorem EvC.k1L (hq : Q .normal (st2.fin (st.nx + (i1 ++ ⟨o1, x1, d1⟩ :: i2).length))) (h1 : trun P fr l l st.nx st.clr = .stop b1 i1 st1 (o1 :: r1) n1 := by simp only [go_sem] <;> rfl) (k1 : b1 = true := by simp)
 (c1 : OpIs P fr ro ds l.toArray n1 st1 ⟨o1, x1, d1⟩) (h2 : trun P fr l r1 (n1 + 1) (run1 fr o1.dst x1 st1) = .done b2 i2 st2 := by simp only [go_sem] <;> rfl) (k2 : b2 = true := by simp) : EvC P fr ro ds (.region id l.toArray false) st Q := .tr (.run h1 k1 (.cons c1 (.done h2 k2))) hq
theorem EvC.k1D (m : P.follows .mixedOrders = true) (hq : EvC P fr ro ds y (st2.fin (st.nx + (i1 ++ ⟨o1, x1, d1⟩ :: i2).length)) Q) (h1 : trun P fr l l st.nx st.clr = .stop b1 i1 st1 (o1 :: r1) n1 := by simp only [go_sem] <;> rfl) (k1 : b1 = true := by simp)
 (c1 : OpIs P fr ro ds l.toArray n1 st1 ⟨o1, x1, d1⟩) (h2 : trun P fr l r1 (n1 + 1) (run1 fr o1.dst x1 st1) = .done b2 i2 st2 := by simp only [go_sem] <;> rfl) (k2 : b2 = true := by simp) (hc : confAll (i1 ++ ⟨o1, x1, d1⟩ :: i2) 0 (i1 ++ ⟨o1, x1, d1⟩ :: i2) = true := by kernel_rfl) : EvC P fr ro ds (.seq (.region id l.toArray true) y) st Q := .seq (.drw m (.run h1 k1 (.cons c1 (.done h2 k2))) hc hq)
theorem EvC.k1LD (m : P.follows .mixedOrders = true) (hq : Q .normal (st2.fin (st.nx + (i1 ++ ⟨o1, x1, d1⟩ :: i2).length))) (h1 : trun P fr l l st.nx st.clr = .stop b1 i1 st1 (o1 :: r1) n1 := by simp only [go_sem] <;> rfl) (k1 : b1 = true := by simp)
 (c1 : OpIs P fr ro ds l.toArray n1 st1 ⟨o1, x1, d1⟩) (h2 : trun P fr l r1 (n1 + 1) (run1 fr o1.dst x1 st1) = .done b2 i2 st2 := by simp only [go_sem] <;> rfl) (k2 : b2 = true := by simp) (hc : confAll (i1 ++ ⟨o1, x1, d1⟩ :: i2) 0 (i1 ++ ⟨o1, x1, d1⟩ :: i2) = true := by kernel_rfl) : EvC P fr ro ds (.region id l.toArray true) st Q := .drw m (.run h1 k1 (.cons c1 (.done h2 k2))) hc hq
theorem EvC.k2D (m : P.follows .mixedOrders = true) (hq : EvC P fr ro ds y (st3.fin (st.nx + (i1 ++ ⟨o1, x1, d1⟩ :: (i2 ++ ⟨o2, x2, d2⟩ :: i3)).length)) Q) (h1 : trun P fr l l st.nx st.clr = .stop b1 i1 st1 (o1 :: r1) n1 := by simp only [go_sem] <;> rfl) (k1 : b1 = true := by simp)
 (c1 : OpIs P fr ro ds l.toArray n1 st1 ⟨o1, x1, d1⟩) (h2 : trun P fr l r1 (n1 + 1) (run1 fr o1.dst x1 st1) = .stop b2 i2 st2 (o2 :: r2) n2 := by simp only [go_sem] <;> rfl) (k2 : b2 = true := by simp)
 (c2 : OpIs P fr ro ds l.toArray n2 st2 ⟨o2, x2, d2⟩) (h3 : trun P fr l r2 (n2 + 1) (run1 fr o2.dst x2 st2) = .done b3 i3 st3 := by simp only [go_sem] <;> rfl) (k3 : b3 = true := by simp) (hc : confAll (i1 ++ ⟨o1, x1, d1⟩ :: (i2 ++ ⟨o2, x2, d2⟩ :: i3)) 0 (i1 ++ ⟨o1, x1, d1⟩ :: (i2 ++ ⟨o2, x2, d2⟩ :: i3)) = true := by kernel_rfl) : EvC P fr ro ds (.seq (.region id l.toArray true) y) st Q := .seq (.drw m (.run h1 k1 (.cons c1 (.run h2 k2 (.cons c2 (.done h3 k3))))) hc hq)
theorem EvC.k3 (hq : EvC P fr ro ds y (st4.fin (st.nx + (i1 ++ ⟨o1, x1, d1⟩ :: (i2 ++ ⟨o2, x2, d2⟩ :: (i3 ++ ⟨o3, x3, d3⟩ :: i4))).length)) Q) (h1 : trun P fr l l st.nx st.clr = .stop b1 i1 st1 (o1 :: r1) n1 := by simp only [go_sem] <;> rfl) (k1 : b1 = true := by simp)
 (c1 : OpIs P fr ro ds l.toArray n1 st1 ⟨o1, x1, d1⟩) (h2 : trun P fr l r1 (n1 + 1) (run1 fr o1.dst x1 st1) = .stop b2 i2 st2 (o2 :: r2) n2 := by simp only [go_sem] <;> rfl) (k2 : b2 = true := by simp)
 (c2 : OpIs P fr ro ds l.toArray n2 st2 ⟨o2, x2, d2⟩) (h3 : trun P fr l r2 (n2 + 1) (run1 fr o2.dst x2 st2) = .stop b3 i3 st3 (o3 :: r3) n3 := by simp only [go_sem] <;> rfl) (k3 : b3 = true := by simp)
 (c3 : OpIs P fr ro ds l.toArray n3 st3 ⟨o3, x3, d3⟩) (h4 : trun P fr l r3 (n3 + 1) (run1 fr o3.dst x3 st3) = .done b4 i4 st4 := by simp only [go_sem] <;> rfl) (k4 : b4 = true := by simp) : EvC P fr ro ds (.seq (.region id l.toArray false) y) st Q := .seq (.tr (.run h1 k1 (.cons c1 (.run h2 k2 (.cons c2 (.run h3 k3 (.cons c3 (.done h4 k4))))))) hq)
end
inductive T (α : Type) where
 | nil
 | nd (l : T α) (v : α) (r : T α)
noncomputable def T.get {α : Type} (d : α) (t : T α) : Nat → α := T.rec (motive := fun _ => Nat → α) (fun _ => d) (fun _ v _ gl gr i => bif Nat.beq i 0 then v else bif Nat.beq (Nat.land i 1) 1 then gl (Nat.div i 2) else gr (Nat.sub (Nat.div i 2) 1)) t
noncomputable def T.put {α : Type} (t : T α) (x : α) : Nat → T α := T.rec (motive := fun _ => Nat → T α) (fun _ => .nil) (fun l v r pl pr i => bif Nat.beq i 0 then .nd l x r else bif Nat.beq (Nat.land i 1) 1 then .nd (pl (Nat.div i 2)) v r else .nd l v (pr (Nat.sub (Nat.div i 2) 1))) t
noncomputable def T.mk {α : Type} (d : α) : Nat → T α := Nat.rec .nil (fun _ t => .nd t d t)
structure ES where
 tm : T AV
 mem : T (Option RObj)
 nx : Nat
inductive R where
 | val (v : AV)
 | new (v : AV) (o : RObj)
 | upd (v : AV) (i : Nat) (o : RObj)
 | key (v : AV) (i : Nat) (o : RObj)
def chk (b : Bool) (r : Option R) : Option R := match b with
 | true => r
 | false => none
def i64b (x : Int) : Bool := decide (-9223372036854775808 ≤ x) && decide (x ≤ 9223372036854775807)
def roomb (n bytes : Nat) : Bool := Nat.ble (n * (bytes + 1)) 35184372088832
noncomputable def opT (tm : T AV) : Operand → Option AV
 | .tmp t => match T.get .junk tm t with
   | .junk => none
   | .opt _ _ => none
   | v => some v
 | .const v => some (ofVal v)
 | .global g => match laidAt g with
   | some vs => some (.ia (vs.map AV.sc))
   | none => none
 | .func f => some (.fn f [])
section
variable (L : Nat → Option RObj)
def cellT : AV → Bool
 | .tl i n _ => match L i with
   | some (.arr _ es _) => Nat.beq n es.length
   | _ => false
 | .tv i n _ _ _ => match L i with
   | some (.arr _ es _) => Nat.beq n es.length
   | _ => false
 | v => v.cell1
def nilT : AV → Option (Nat × Bool)
 | .sl n _ _ => some (1, n)
 | .tl i n b => match L i with
   | some (.arr _ es _) => bif Nat.beq n es.length then some (1, b) else none
   | _ => none
 | .tv i n _ _ _ => match L i with
   | some (.arr _ es _) => bif Nat.beq n es.length then some (1, false) else none
   | _ => none
 | .sc .nilFunc => some (2, true)
 | .fn _ _ => some (2, false)
 | .sc (.pointer none) => some (3, true)
 | .rf _ _ => some (3, false)
 | _ => none
def elemsT : AV → Option (List (List AV))
 | .sl _ es _ => some es
 | .tl i n _ => match L i with
   | some (.arr _ es _) => bif Nat.beq n es.length then some es else none
   | _ => none
 | .tv i n off len _ => match L i with
   | some (.arr _ es _) => bif Nat.beq n es.length then some ((es.drop off).take len) else none
   | _ => none
 | _ => none
def snapT : AV → Option AV
 | .tl i n b => match L i with
   | some (.arr _ es true) => bif Nat.beq n es.length then some (.sl b es .unk) else some (.tl i n b)
   | some _ => some (.tl i n b)
   | none => none
 | .tv i n off len cap => match L i with
   | some (.arr _ es true) => bif Nat.beq n es.length then some (.sl false (tvEs es n off len) (tvCap len cap)) else some (.tv i n off len cap)
   | some _ => some (.tv i n off len cap)
   | none => none
 | v => some v
def viewT : AV → Option (Nat × Nat × Nat × Nat × Nat × Cp)
 | .tl i n _ => match L i with
   | some (.arr esz es _) => bif Nat.beq n es.length then some (i, esz, n, 0, n, .rest) else none
   | _ => none
 | .tv i n off len cap => match L i with
   | some (.arr esz es _) => bif Nat.beq n es.length then some (i, esz, n, off, len, cap) else none
   | _ => none
 | _ => none
def fillT (place : Nat → Option (Nat × Nat)) (cells : List AV) : List (Nat × AV) → Option (List AV)
 | [] => some cells
 | (i, v) :: r => match place i with
   | none => none
   | some (off, size) => bif Nat.beq (acells v).length size && Nat.ble (off + size) cells.length && (acells v).all (cellT L) then fillT place (awrite cells off (acells v)) r else none
def fillET (size : Nat) (es : List (List AV)) : List (Nat × AV) → Option (List (List AV))
 | [] => some es
 | (i, v) :: r => bif Nat.beq (acells v).length size && Nat.blt i es.length && (acells v).all (cellT L) then fillET size (es.set i (acells v)) r else none
end
def partsT (ev : Operand → Option AV) : List (Nat × Operand) → Option (List (Nat × AV))
 | [] => some []
 | (i, o) :: r => match ev o with
   | some v => match partsT ev r with
     | some l => some ((i, v) :: l)
     | none => none
   | none => none
def snapsT (L : Nat → Option RObj) : List (Nat × AV) → Option (List (Nat × AV))
 | [] => some []
 | (i, v) :: r => match snapT L v with
   | some u => match snapsT L r with
     | some l => some ((i, u) :: l)
     | none => none
   | none => none
def evs (ev : Operand → Option AV) : List Operand → Option (List AV)
 | [] => some []
 | o :: r => match ev o with
   | some v => match evs ev r with
     | some l => some (v :: l)
     | none => none
   | none => none
def intT (op : BinOp) (k : IntKind) (a b : Int) : Option R :=
 match op, k with
 | .add, .i64 => chk (i64b (a + b)) (some (.val (.sc (.int .i64 (a + b)))))
 | .sub, .i64 => chk (i64b (a - b)) (some (.val (.sc (.int .i64 (a - b)))))
 | .mul, .i64 => chk (i64b (a * b)) (some (.val (.sc (.int .i64 (a * b)))))
 | .add, k => some (.val (.sc (.int k (k.wrap (a + b)))))
 | .sub, k => some (.val (.sc (.int k (k.wrap (a - b)))))
 | .mul, k => some (.val (.sc (.int k (k.wrap (a * b)))))
 | .quo, .i64 => chk (decide (0 ≤ a) && decide (0 < b) && i64b (a / b)) (some (.val (.sc (.int .i64 (a / b)))))
 | .quo, k => chk (decide (0 ≤ a) && decide (0 < b)) (some (.val (.sc (.int k (k.wrap (a / b))))))
 | .rem, k => chk (decide (0 ≤ a) && decide (0 < b)) (some (.val (.sc (.int k (a % b)))))
 | .eql, _ => some (.val (.sc (.bool (decide (a = b)))))
 | .neq, _ => some (.val (.sc (.bool (!decide (a = b)))))
 | .lss, _ => some (.val (.sc (.bool (decide (a < b)))))
 | .leq, _ => some (.val (.sc (.bool (decide (a ≤ b)))))
 | .gtr, _ => some (.val (.sc (.bool (decide (b < a)))))
 | .geq, _ => some (.val (.sc (.bool (decide (b ≤ a)))))
 | .and, k => some (.val (.sc (.int k (bitsOf .and k a b))))
 | .or, k => some (.val (.sc (.int k (bitsOf .or k a b))))
 | _, _ => none
def strT (op : BinOp) (a b : ByteArray) : Option R :=
 match op with
 | .add => chk (Nat.ble (a.size + b.size) 1000000) (some (.val (.sc (.string ⟨⟨a.data.toList ++ b.data.toList⟩⟩))))
 | .eql => some (.val (.sc (.bool (a.data.toList == b.data.toList))))
 | .neq => some (.val (.sc (.bool (!(a.data.toList == b.data.toList)))))
 | .lss => some (.val (.sc (.bool (Go.Op.bytesLess a.data.toList b.data.toList))))
 | .leq => some (.val (.sc (.bool (Go.Op.bytesLess a.data.toList b.data.toList || a.data.toList == b.data.toList))))
 | .gtr => some (.val (.sc (.bool (!(Go.Op.bytesLess a.data.toList b.data.toList || a.data.toList == b.data.toList)))))
 | .geq => some (.val (.sc (.bool (!Go.Op.bytesLess a.data.toList b.data.toList))))
 | _ => none
def binT (P : Program) (L : Nat → Option RObj) (op : BinOp) (t : TypeId) (x y : AV) : Option R :=
 match nilT L x, nilT L y with
 | some a, some b => match nilEf P t op a b with
   | .val ok v => chk ok (some (.val v))
   | _ => none
 | _, _ => match x, y with
   | .sc (.int k a), .sc (.int k' b) => bif isShift op then chk (decide (0 ≤ b)) (some (.val (.sc (.int k (shiftOf op k a b.toNat))))) else if k = k' then intT op k a b else none
   | .sc (.bool a), .sc (.bool b) => match op with
     | .eql => chk (tbool P t) (some (.val (.sc (.bool (a == b)))))
     | .neq => chk (tbool P t) (some (.val (.sc (.bool (!(a == b))))))
     | _ => none
   | .sc (.string a), .sc (.string b) => strT op a b
   | .ag xs, .ag ys => match cellVals xs, cellVals ys with
     | some vs, some us => match eqKinds P t with
       | some ks => match op with
         | .eql => chk (matchKinds ks vs && matchKinds ks us) (some (.val (.sc (.bool (eqCells vs us)))))
         | .neq => chk (matchKinds ks vs && matchKinds ks us) (some (.val (.sc (.bool (!eqCells vs us)))))
         | _ => none
       | none => none
     | _, _ => none
   | _, _ => none
def appT (P : Program) (L : Nat → Option RObj) (id : Nat) (t : TypeId) (x : AV) (ys : List (List AV)) : Option R :=
 match telem P t with
 | none => none
 | some e => match tinfo P e with
   | none => none
   | some ti => match x with
     | .tl i n nl => match L i with
       | some (.arr esz es fz) => chk (Nat.beq n es.length && Nat.beq esz ti.size && Nat.beq ti.zero.length ti.size && roomb (es.length + ys.length) ti.bytes && (ys.all fun y => Nat.beq y.length esz) && (!fz || ys.all AV.norefs))
        (some (.upd (.tl i (es ++ ys).length (nl && ys.isEmpty)) i (.arr esz (es ++ ys) fz)))
       | _ => none
     | .tv i n 0 len (.val c) => match L i with
       | some (.arr esz es fz) => chk (!fz && Nat.beq n es.length && Nat.beq esz ti.size && Nat.beq ti.zero.length ti.size && Nat.ble (len + ys.length) c && Nat.ble c n && roomb (len + ys.length) ti.bytes && (ys.all fun y => Nat.beq y.length esz))
        (some (.upd (.tv i n 0 (len + ys.length) (.val c)) i (.arr esz (es.take len ++ (ys ++ es.drop (len + ys.length))) false)))
       | _ => none
     | .tv i n 0 len .rest => match L i with
       | some (.arr esz es fz) => bif Nat.beq len n then chk (!fz && !Nat.beq n 0 && Nat.beq n es.length && Nat.beq esz ti.size && Nat.beq ti.zero.length ti.size && roomb (es.length + ys.length) ti.bytes && (ys.all fun y => Nat.beq y.length esz))
         (some (.upd (.tv i (es ++ ys).length 0 (es ++ ys).length .rest) i (.arr esz (es ++ ys) false)))
         else chk (!fz && Nat.beq n es.length && Nat.beq esz ti.size && Nat.beq ti.zero.length ti.size && Nat.ble (len + ys.length) n && (ys.all fun y => Nat.beq y.length esz))
          (some (.upd (.tv i n 0 (len + ys.length) .rest) i (.arr esz (es.take len ++ (ys ++ es.drop (len + ys.length))) false)))
       | _ => none
     | .sl nl es .zer => chk (Nat.beq es.length 0 && Nat.beq ti.zero.length ti.size && roomb ys.length ti.bytes && ys.all fun y => Nat.beq y.length ti.size)
      (some (.new (.tl id ys.length (nl && ys.isEmpty)) (.arr ti.size ys false)))
     | .sl nl es .full => chk (!ys.isEmpty && roomb (es.length + ys.length) ti.bytes && Nat.beq ti.zero.length ti.size && (ys.all fun y => Nat.beq y.length ti.size) && (es.all fun y => Nat.beq y.length ti.size))
      (some (.new (.tl id (es ++ ys).length false) (.arr ti.size (es ++ ys) false)))
     | _ => none
def efT : Ef → Option R
 | .val ok v => chk ok (some (.val v))
 | .new ok v o => chk ok (some (.new v o))
 | .upd ok v i o => chk ok (some (.upd v i o))
 | _ => none
def restT (L : Nat → Option RObj) (id sz : Nat) : AV → Option Int → Option Int → Option Int → Option R
 | .tl i n nl, some a, none, none => match L i with
   | some (.arr esz es fz) => chk (!fz && Nat.beq n es.length && Nat.beq esz sz && decide (0 ≤ a) && Nat.beq a.toNat es.length && !Nat.beq n 0) (some (.key (.tl id 0 false) i (.arr esz [] false)))
   | _ => none
 | _, _, _, _ => none
def bndT (ev : Operand → Option AV) : Option Operand → Option (Option Int)
 | none => some none
 | some o => match ev o with
   | some (.sc (.int _ i)) => some (some i)
   | _ => none
noncomputable def xopT (P : Program) (ev : Operand → Option AV) (L : Nat → Option RObj) (id : Nat) (o : Oper) : Option R :=
 match o.op with
 | .move x => match ev x with
   | some v => some (.val v)
   | none => none
 | .assign x => match ev x with
   | some v => some (.val v)
   | none => none
 | .pick c a b => match ev c with
   | some (.sc (.bool true)) => match ev a with
     | some v => some (.val v)
     | none => none
   | some (.sc (.bool false)) => match ev b with
     | some v => some (.val v)
     | none => none
   | _ => none
 | .alloc t => match tinfo P t with
   | some ti => some (.new (.rf id 0) (.cells (zeroOf ti)))
   | none => none
 | .box _ x => match ev x with
   | some v => chk ((acells v).all (cellT L)) (some (.new (.rf id 0) (.cells (acells v))))
   | none => none
 | .build t parts => match tinfo P t, partsT ev parts.toList with
   | some ti, some ps => match fillT L (placeOf P t) (zeroOf ti) ps with
     | some cs => chk (tbuild P t) (some (.val (.ag cs)))
     | none => none
   | _, _ => none
 | .buildSlice t n parts => match telem P t, partsT ev parts.toList with
   | some e, some qs => match tinfo P e, snapsT L qs with
     | some ti, some ps => match fillET L ti.size (List.replicate n (zeroOf ti)) ps with
       | some es => chk (o.dst.isSome && Nat.ble (n * ti.size) 16777216 && Nat.beq ti.zero.length ti.size) (some (.new (.tl id n false) (.arr ti.size es false)))
       | none => none
     | _, _ => none
   | _, _ => none
 | .load t x => match tinfo P t with
   | some ti => match ev x with
     | some (.rf i off) => match L i with
       | some (.cells cs) => chk (Nat.ble (off + ti.size) cs.length && (ti.agg || Nat.beq ti.size 1)) (some (.val (mkv ti.agg ((cs.drop off).take ti.size))))
       | _ => none
     | some (.ia cs) => chk (Nat.ble ti.size cs.length && (ti.agg || Nat.beq ti.size 1)) (some (.val (mkv ti.agg (cs.take ti.size))))
     | some (.ea i n k off) => match L i with
       | some (.arr _ es _) => match es[k]? with
         | some c => chk (Nat.beq n es.length && Nat.ble (off + ti.size) c.length && (ti.agg || Nat.beq ti.size 1)) (some (.val (mkv ti.agg ((c.drop off).take ti.size))))
         | none => none
       | _ => none
     | _ => none
   | none => none
 | .store t a x => match tinfo P t, ev x with
   | some ti, some v => match ev a with
     | some (.rf i off) => match L i with
       | some (.cells cs) => chk (Nat.beq (acells v).length ti.size && Nat.ble (off + ti.size) cs.length && (acells v).all (cellT L)) (some (.upd .junk i (.cells (awrite cs off (acells v)))))
       | _ => none
     | some (.ea i n k off) => match L i, snapT L v with
       | some (.arr esz es fz), some u => match es[k]? with
         | some c => chk (!fz && Nat.beq n es.length && Nat.beq (acells u).length ti.size && Nat.ble (off + ti.size) c.length && (acells u).all (cellT L)) (some (.upd .junk i (.arr esz (es.set k (awrite c off (acells u))) fz)))
         | none => none
       | _, _ => none
     | _ => none
   | _, _ => none
 | .nilCheck x => match ev x with
   | some (.rf i off) => some (.val (.rf i off))
   | some (.ia cs) => some (.val (.ia cs))
   | some (.ea i n k off) => match L i with
     | some (.arr _ es _) => chk (Nat.beq n es.length) (some (.val (.ea i n k off)))
     | _ => none
   | _ => none
 | .fieldAddr t x f => match tfield P t f with
   | some (off, ft) => match ev x with
     | some (.rf i o) => chk (!Nat.beq (P.cellsOf ft) 0) (some (.val (.rf i (o + off))))
     | some (.ia cs) => chk (!Nat.beq (P.cellsOf ft) 0) (some (.val (.ia (cs.drop off))))
     | some (.ea i n k o) => match L i with
       | some (.arr _ es _) => chk (!Nat.beq (P.cellsOf ft) 0 && Nat.beq n es.length) (some (.val (.ea i n k (o + off))))
       | _ => none
     | _ => none
   | none => none
 | .field t x f => match tfield P t f with
   | some (off, ft) => match tinfo P ft, ev x with
     | some ti, some (.ag cs) => chk (Nat.ble (off + ti.size) cs.length && (ti.agg || Nat.beq ti.size 1)) (some (.val (mkv ti.agg ((cs.drop off).take ti.size))))
     | _, _ => none
   | none => none
 | .indexAddr t x ix => match ev ix with
   | some (.sc (.int _ i)) => match telem P t with
     | some e => match tinf P e, ev x with
       | true, some (.sl _ es _) => match es[i.toNat]? with
         | some c => chk (decide (0 ≤ i) && Nat.beq c.length (P.cellsOf e)) (some (.val (.ia c)))
         | none => none
       | true, some (.tl k n _) => match L k with
         | some (.arr esz es _) => chk (decide (0 ≤ i) && Nat.blt i.toNat es.length && Nat.beq n es.length && Nat.beq esz (P.cellsOf e)) (some (.val (.ea k n i.toNat 0)))
         | _ => none
       | true, some (.tv k n off len _) => match L k with
         | some (.arr esz es _) => chk (decide (0 ≤ i) && Nat.blt i.toNat len && Nat.beq n es.length && Nat.beq esz (P.cellsOf e)) (some (.val (.ea k n (off + i.toNat) 0)))
         | _ => none
       | _, _ => none
     | none => match tarr P t with
       | some (n, e) => match tinf P e, ev x with
         | true, some (.rf k off) => chk (decide (0 ≤ i) && Nat.blt i.toNat n) (some (.val (.rf k (off + i.toNat * P.cellsOf e))))
         | true, some (.ia cs) => chk (decide (0 ≤ i) && Nat.blt i.toNat n) (some (.val (.ia (cs.drop (i.toNat * P.cellsOf e)))))
         | true, some (.ea k m j off) => match L k with
           | some (.arr _ es _) => chk (decide (0 ≤ i) && Nat.blt i.toNat n && Nat.beq m es.length) (some (.val (.ea k m j (off + i.toNat * P.cellsOf e))))
           | _ => none
         | _, _ => none
       | none => none
   | _ => none
 | .index t x ix => match ev ix, ev x with
   | some (.sc (.int _ i)), some (.sc (.string s)) => match s.data.toList[i.toNat]? with
     | some b => chk (tstr P t && decide (0 ≤ i)) (some (.val (.sc (.int .u8 b.toNat))))
     | none => none
   | some (.sc (.int _ i)), some (.ag cs) => match tarr P t with
     | some (n, e) => match tinfo P e with
       | some ti => chk (decide (0 ≤ i) && Nat.blt i.toNat n && Nat.ble (i.toNat * ti.size + ti.size) cs.length && (ti.agg || Nat.beq ti.size 1)) (some (.val (mkv ti.agg ((cs.drop (i.toNat * ti.size)).take ti.size))))
       | none => none
     | none => none
   | _, _ => none
 | .binOp op t x y _ => match ev x, ev y with
   | some a, some b => binT P L op t a b
   | _, _ => none
 | .unOp op _ x => match op, ev x with
   | .not, some (.sc (.bool b)) => some (.val (.sc (.bool (!b))))
   | .neg, some (.sc (.int .i64 n)) => chk (i64b (-n)) (some (.val (.sc (.int .i64 (-n)))))
   | _, _ => none
 | .convert s d x => match tknown P s, tint P d, ev x with
   | true, some .i64, some (.sc (.int _ n)) => chk (i64b n) (some (.val (.sc (.int .i64 n))))
   | true, some k, some (.sc (.int _ n)) => some (.val (.sc (.int k (k.wrap n))))
   | _, _, _ => none
 | .makeFunc fn first caps => match fn, first.toList, evs ev caps.toList with
   | .func f, [], some vs => bif Nat.blt f 1000000 then some (.val (.fn f vs)) else none
   | .func f, _ :: _, _ => bif Nat.beq caps.size 0 then match evs ev first.toList with
     | some vs => some (.val (.fn (f + 1000000) vs))
     | none => none
     else none
   | _, _, _ => none
 | .makeMap t r => match tmap P t, r with
   | some (k, _), none => some (.new (.mp id) (.map k []))
   | some (k, _), some x => match ev x with
     | some (.sc (.int _ _)) => some (.new (.mp id) (.map k []))
     | _ => none
   | none, _ => none
 | .makeSlice t l c => match telem P t with
   | some e => match tinfo P e, ev l, ev c with
     | some ti, some (.sc (.int .i64 n)), some (.sc (.int .i64 m)) => chk (o.dst.isSome && decide (0 ≤ n) && decide (n ≤ m) && roomb m.toNat ti.bytes && Nat.beq ti.zero.length ti.size) (some (.new (.tv id m.toNat 0 n.toNat (.val m.toNat)) (.arr ti.size (List.replicate m.toNat (zeroOf ti)) false)))
     | _, _, _ => none
   | none => none
 | .slice t x lo hi mx => match bndT ev lo, bndT ev hi, bndT ev mx, ev x with
   | some a, some b, some c, some v => match telem P t with
     | some e => match tinf P e with
       | true => match snapT L v with
         | some u => match viewT L u with
           | some (i, esz, n, off, len, cap) => match restT L id (P.cellsOf e) u a b c with
             | some r => some r
             | none => efT (sliceV (P.cellsOf e) i esz n off len cap a b c)
           | none => efT (sliceEf (P.cellsOf e) u a b c)
         | none => none
       | false => none
     | none => match tstr P t, v, c with
       | true, .sc (.string s), none => chk (decide (0 ≤ a.getD 0) && decide (a.getD 0 ≤ b.getD s.size) && decide (b.getD s.size ≤ s.size)) (some (.val (.sc (.string ⟨⟨(s.data.toList.drop (a.getD 0).toNat).take ((b.getD s.size).toNat - (a.getD 0).toNat)⟩⟩))))
       | _, _, _ => none
   | _, _, _, _ => none
 | .lookup t m k ok => match tmap P t, ev k, ev m with
   | some (kt, et), some kv, some (.mp i) => match toVal kv, L i, tinfo P et with
     | some kv, some (.map kt' es), some ti => match elook es kv with
       | some v => chk (Nat.beq kt kt' && isKey P kt kv) (some (.val (bif ok then .tu [v, .sc (.bool true)] else v)))
       | none => chk (Nat.beq kt kt' && isKey P kt kv) (some (.val (bif ok then .tu [mkv ti.agg (zeroOf ti), .sc (.bool false)] else mkv ti.agg (zeroOf ti))))
     | _, _, _ => none
   | _, _, _ => none
 | .mapUpdate t m k x => match tmap P t, ev k, ev m, ev x with
   | some (kt, _), some kv, some (.mp i), some v => match toVal kv, L i with
     | some kv, some (.map kt' es) => chk (Nat.beq kt kt' && isKey P kt kv) (some (.upd .junk i (.map kt' (eset es kv v))))
     | _, _ => none
   | _, _, _, _ => none
 | .insert t m k x => match tmap P t, ev k, ev m, ev x with
   | some (kt, _), some kv, some (.mp i), some v => match toVal kv, L i with
     | some kv, some (.map kt' es) => chk (Nat.beq kt kt' && isKey P kt kv) (some (.upd .junk i (.map kt' (eset es kv v))))
     | _, _ => none
   | _, _, _, _ => none
 | .extract x i => match ev x with
   | some (.tu vs) => match vs[i]? with
     | some v => some (.val v)
     | none => none
   | _ => none
 | .call c => match c.callee, c.args.toList, c.argTypes.toList with
   | .builtin .len, [x], [t] => match ev x with
     | some v => match telem P t with
       | some _ => match elemsT L v with
         | some es => some (.val (.sc (.int .i64 es.length)))
         | none => none
       | none => match v with
         | .sc (.string s) => chk (tstr P t) (some (.val (.sc (.int .i64 s.size))))
         | .mp i => match L i, tmap P t with
           | some (.map _ es), some _ => some (.val (.sc (.int .i64 es.length)))
           | _, _ => none
         | _ => none
     | none => none
   | .builtin .cap, [x], [t] => match telem P t, ev x with
     | some _, some (.sl _ es .full) => some (.val (.sc (.int .i64 es.length)))
     | some _, some (.sl _ _ .zer) => some (.val (.sc (.int .i64 0)))
     | some _, some (.sl _ _ (.val c)) => some (.val (.sc (.int .i64 c)))
     | some _, some (.tv i n _ _ (.val c)) => match L i with
       | some (.arr _ es _) => chk (Nat.beq n es.length) (some (.val (.sc (.int .i64 c))))
       | _ => none
     | _, _ => none
   | .builtin .append, [x, y], [t, t'] => match telem P t', ev x, ev y with
     | some _, some a, some b => match elemsT L b with
       | some ys => bif o.dst.isSome then appT P L id t a ys else none
       | none => none
     | none, some (.sl nl es .zer), some (.sc (.int _ n)) => match tint P t', telem P t with
       | some _, some e => match tinfo P e with
         | some ti => chk (Nat.beq es.length 0 && decide (0 < n) && roomb n.toNat ti.bytes && Nat.beq ti.zero.length ti.size && Nat.blt 0 ti.size) (some (.new (.tl id n.toNat false) (.arr ti.size (List.replicate n.toNat (zeroOf ti)) false)))
         | none => none
       | _, _ => none
     | _, _, _ => none
   | .builtin .copy, [x, y], [t, _] => match telem P t, ev x, ev y with
     | some e, some a, some b => match tinfo P e, viewT L a, elemsT L b with
       | some ti, some (i, esz, n, off, len, _), some ys => match L i with
         | some (.arr _ es fz) => chk (!fz && Nat.beq esz ti.size && !Nat.beq n 0 && (ys.all fun y => Nat.beq y.length esz) && ys.all AV.norefs) (some (.upd (.sc (.int .i64 (min ys.length len : Nat))) i (.arr esz (es.take off ++ (ys.take (min ys.length len) ++ es.drop (off + min ys.length len))) false)))
         | _ => none
       | _, _, _ => none
     | _, _, _ => none
   | .builtin .min, [x, y], [_, _] => match ev x, ev y with
     | some (.sc (.int k a)), some (.sc (.int k' b)) => if k = k' then some (.val (.sc (.int k (if a ≤ b then a else b)))) else none
     | _, _ => none
   | .builtin .max, [x, y], [_, _] => match ev x, ev y with
     | some (.sc (.int k a)), some (.sc (.int k' b)) => if k = k' then some (.val (.sc (.int k (if a ≤ b then b else a)))) else none
     | _, _ => none
   | _, _, _ => none
 | _ => none
noncomputable def ES.put (s : ES) (d : Option Nat) (v : AV) : ES := match d with
 | some d => ⟨T.put s.tm v d, s.mem, s.nx⟩
 | none => s
noncomputable def ES.eff (s : ES) (d : Option Nat) : R → ES
 | .val v => (⟨s.tm, s.mem, Nat.add s.nx 1⟩ : ES).put d v
 | .new v o => (⟨s.tm, T.put s.mem (some o) s.nx, Nat.add s.nx 1⟩ : ES).put d v
 | .upd v i o => (⟨s.tm, T.put s.mem (some o) i, Nat.add s.nx 1⟩ : ES).put d v
 | .key v i o => (⟨s.tm, T.put (T.put s.mem none i) (some o) s.nx, Nat.add s.nx 1⟩ : ES).put d v
theorem beq_dec (a b : Nat) : Nat.beq a b = decide (a = b) := by rw [Bool.eq_iff_iff, Nat.beq_eq, decide_eq_true_eq]
theorem T.get_nd {α : Type} (d : α) (l : T α) (v : α) (r : T α) (i : Nat) : T.get d (.nd l v r) i = if i = 0 then v else if i % 2 = 1 then T.get d l (i / 2) else T.get d r (i / 2 - 1) := by
 show (bif Nat.beq i 0 then v else bif Nat.beq (Nat.land i 1) 1 then T.get d l (Nat.div i 2) else T.get d r (Nat.sub (Nat.div i 2) 1)) = _
 have e : Nat.land i 1 = i % 2 := Nat.and_one_is_mod i
 rw [e]
 by_cases h : i = 0
 ·subst h; rfl
 ·rw [if_neg h, show Nat.beq i 0 = false from by rw [beq_dec]; exact decide_eq_false h]
  by_cases h2 : i % 2 = 1
  ·rw [if_pos h2, h2]; rfl
  ·rw [if_neg h2, show Nat.beq (i % 2) 1 = false from by rw [beq_dec]; exact decide_eq_false h2]; rfl
theorem T.put_nd {α : Type} (l : T α) (v : α) (r : T α) (x : α) (i : Nat) : T.put (.nd l v r) x i = if i = 0 then .nd l x r else if i % 2 = 1 then .nd (T.put l x (i / 2)) v r else .nd l v (T.put r x (i / 2 - 1)) := by
 show (bif Nat.beq i 0 then T.nd l x r else bif Nat.beq (Nat.land i 1) 1 then T.nd (T.put l x (Nat.div i 2)) v r else T.nd l v (T.put r x (Nat.sub (Nat.div i 2) 1))) = _
 have e : Nat.land i 1 = i % 2 := Nat.and_one_is_mod i
 rw [e]
 by_cases h : i = 0
 ·subst h; rfl
 ·rw [if_neg h, show Nat.beq i 0 = false from by rw [beq_dec]; exact decide_eq_false h]
  by_cases h2 : i % 2 = 1
  ·rw [if_pos h2, h2]; rfl
  ·rw [if_neg h2, show Nat.beq (i % 2) 1 = false from by rw [beq_dec]; exact decide_eq_false h2]; rfl
theorem T.get_put {α : Type} (d x : α) : ∀ (t : T α) (i j : Nat), T.get d (T.put t x i) j = d ∨ T.get d (T.put t x i) j = if j = i then x else T.get d t j
 | .nil, _, _ => .inl rfl
 | .nd l v r, i, j => by
   rw [T.put_nd]
   by_cases hi : i = 0
   ·rw [if_pos hi, T.get_nd, T.get_nd]
    by_cases hj : j = 0
    ·right; rw [if_pos hj, if_pos (by omega)]
    ·right; rw [if_neg hj, if_neg hj, if_neg (show ¬ j = i by omega)]
   ·rw [if_neg hi]
    by_cases h2 : i % 2 = 1
    ·rw [if_pos h2, T.get_nd, T.get_nd]
     by_cases hj : j = 0
     ·right; rw [if_pos hj, if_neg (by omega), if_pos hj]
     ·rw [if_neg hj, if_neg hj]
      by_cases hj2 : j % 2 = 1
      ·rw [if_pos hj2, if_pos hj2]
       rcases T.get_put d x l (i / 2) (j / 2) with h | h
       ·exact .inl h
       ·right; rw [h]
        by_cases hij : j = i
        ·rw [if_pos hij, if_pos (by omega)]
        ·rw [if_neg hij, if_neg (by omega)]
      ·right; rw [if_neg hj2, if_neg hj2, if_neg (by omega)]
    ·rw [if_neg h2, T.get_nd, T.get_nd]
     by_cases hj : j = 0
     ·right; rw [if_pos hj, if_neg (by omega), if_pos hj]
     ·rw [if_neg hj, if_neg hj]
      by_cases hj2 : j % 2 = 1
      ·right; rw [if_pos hj2, if_pos hj2, if_neg (by omega)]
      ·rw [if_neg hj2, if_neg hj2]
       rcases T.get_put d x r (i / 2 - 1) (j / 2 - 1) with h | h
       ·exact .inl h
       ·right; rw [h]
        by_cases hij : j = i
        ·rw [if_pos hij, if_pos (by omega)]
        ·rw [if_neg hij, if_neg (by omega)]
structure Abs (fr : Fr) (s : ES) (st : St) : Prop where
 tmps : st.tmps = []
 slot : ∀ k, T.get .junk s.tm k = .junk ∨ st.get fr k = T.get .junk s.tm k
 mem : ∀ i, T.get none s.mem i = none ∨ mlook st.mem i = T.get none s.mem i
 nx : s.nx = st.nx
def allF (base sz : Nat) : Fr := ⟨base, sz, List.range sz, sz⟩
theorem allF_isG {base sz k : Nat} (h : k < sz) : (allF base sz).isG k = true := by simp [Fr.isG, allF, h]
theorem allF_own {base sz : Nat} {d : Option Nat} (h : dok (allF base sz) d = true) (hd : d.isSome = true) : ownSlot (allF base sz) d = true := by
 cases d with
 | none => cases hd
 | some d => have hlt : d < sz := of_decide_eq_true h
             simp [ownSlot, allF, hlt]
section
variable {base sz : Nat} {s : ES} {st : St}
theorem Abs.clr (h : Abs (allF base sz) s st) : st.clr = st := by
 cases st; have := h.tmps; simp only at this; subst this; rfl
theorem Abs.look (h : Abs (allF base sz) s st) {i : Nat} {o : RObj} (he : T.get none s.mem i = some o) : mlook st.mem i = some o := by
 rcases h.mem i with h | h
 ·rw [h] at he; cases he
 ·rw [h, he]
theorem Abs.op (h : Abs (allF base sz) s st) {x : Operand} {v : AV} (he : opT s.tm x = some v) : opnd (allF base sz) st x = v := by
 cases x with
 | tmp t =>
   simp only [opT] at he
   rcases h.slot t with hs | hs
   ·rw [hs] at he; cases he
   ·rw [opnd, hs]
    split at he
    ·cases he
    ·cases he
    ·exact Option.some.inj he
 | const v => exact Option.some.inj he
 | global g =>
   simp only [opT] at he
   simp only [opnd]
   split at he
   ·rename_i vs hv; rw [hv]; exact Option.some.inj he
   ·cases he
 | func f => exact Option.some.inj he
theorem Abs.put (h : Abs (allF base sz) s st) {d : Option Nat} (hd : dok (allF base sz) d = true) (v : AV) : Abs (allF base sz) (s.put d v) (st.put (allF base sz) d v) := by
 cases d with
 | none => exact h
 | some d =>
   have hlt : d < sz := of_decide_eq_true hd
   refine ⟨?_, fun k => ?_, ?_, ?_⟩
   ·simp only [St.put, allF_isG hlt, if_true]; exact h.tmps
   ·show T.get .junk (T.put s.tm v d) k = .junk ∨ _ = T.get .junk (T.put s.tm v d) k
    rcases T.get_put .junk v s.tm d k with hp | hp
    ·exact .inl hp
    ·rw [hp, St.get_put]
     by_cases hk : k = d
     ·rw [if_pos hk, if_pos hk]; exact .inr rfl
     ·rw [if_neg hk, if_neg hk]; exact h.slot k
   ·intro i; rw [St.put_mem]; exact h.mem i
   ·rw [St.put_nx]; exact h.nx
end
def EfR : Ef → R → Prop
 | .val b v, .val u => b = true ∧ v = u
 | .new b v o, .new u p => b = true ∧ v = u ∧ o = p
 | .upd b v i o, .upd u j p => b = true ∧ v = u ∧ i = j ∧ o = p
 | _, _ => False
theorem chk_inv {b : Bool} {r : Option R} {x : R} (h : chk b r = some x) : b = true ∧ r = some x := by
 cases b
 ·cases h
 ·exact ⟨rfl, h⟩
theorem ble_dec (a b : Nat) : Nat.ble a b = decide (a ≤ b) := by rw [Bool.eq_iff_iff, Nat.ble_eq, decide_eq_true_eq]
theorem blt_dec (a b : Nat) : Nat.blt a b = decide (a < b) := by rw [Nat.blt, ble_dec]; rfl
theorem i64b_eq (x : Int) : i64b x = inI64 x := (inI64_eq x).symm
theorem roomb_eq (n b : Nat) : roomb n b = room n b := by rw [room_eq, roomb, ble_dec]
section
variable {P : Program} {fr : Fr} {st : St} {ev : Operand → Option AV} {L : Nat → Option RObj}
def EvOk (fr : Fr) (st : St) (ev : Operand → Option AV) : Prop := ∀ x, ev x = none ∨ ev x = some (od fr st true x)
def LOk (st : St) (L : Nat → Option RObj) : Prop := ∀ i, L i = none ∨ L i = mlook st.mem i
theorem cellT_ok (hL : LOk st L) : ∀ {v : AV}, cellT L v = true → acell st.mem v = true
 | .tl i n _, h => by
   simp only [cellT] at h
   rcases hL i with hi | hi <;> rw [hi] at h
   ·cases h
   ·simp only [acell]; split at h
    ·rename_i hm; rw [hm]; rw [beq_dec] at h; exact h
    ·cases h
 | .tv i n _ _ _, h => by
   simp only [cellT] at h
   rcases hL i with hi | hi <;> rw [hi] at h
   ·cases h
   ·simp only [acell]; split at h
    ·rename_i hm; rw [hm]; rw [beq_dec] at h; exact h
    ·cases h
 | .sc _, h => h
 | .ag _, h => h
 | .tu _, h => h
 | .sl _ _ _, h => h
 | .ia _, h => h
 | .rf _ _, h => h
 | .ea _ _ _ _, h => h
 | .mp _, h => h
 | .fn _ _, h => h
 | .ifc _ _, h => h
 | .yl _, h => h
 | .opt _ _, h => h
 | .junk, h => h
theorem cellTs_ok (hL : LOk st L) {l : List AV} (h : l.all (cellT L) = true) : l.all (acell st.mem) = true := by
 rw [List.all_eq_true] at h ⊢
 exact fun x hx => cellT_ok hL (h x hx)
theorem elemsT_ok (hL : LOk st L) {v : AV} {es : List (List AV)} (h : elemsT L v = some es) : elemsOf st.mem v = some es := by
 unfold elemsT at h
 split at h
 ·exact h
 ·rename_i i n _
  rcases hL i with hi | hi <;> rw [hi] at h
  ·cases h
  ·split at h
   ·rename_i hm; simp only [elemsOf, hm]
    rw [beq_dec] at h
    by_cases hn : n = (by assumption : List (List AV)).length
    ·rw [decide_eq_true hn] at h; rw [if_pos hn]; exact h
    ·rw [decide_eq_false hn] at h; cases h
   ·cases h
 ·rename_i i n off len _
  rcases hL i with hi | hi <;> rw [hi] at h
  ·cases h
  ·split at h
   ·rename_i hm; simp only [elemsOf, hm]
    rw [beq_dec] at h
    by_cases hn : n = (by assumption : List (List AV)).length
    ·rw [decide_eq_true hn] at h; rw [if_pos hn]; exact h
    ·rw [decide_eq_false hn] at h; cases h
   ·cases h
 ·cases h
theorem bif_inv {α : Type} {p : Prop} [Decidable p] {a b : α} : (bif decide p then a else b) = if p then a else b := by
 by_cases h : p
 ·rw [decide_eq_true h, if_pos h]; rfl
 ·rw [decide_eq_false h, if_neg h]; rfl
theorem snapT_ok (hL : LOk st L) {v u : AV} (h : snapT L v = some u) : snap st.mem v = u := by
 unfold snapT at h
 split at h
 ·rename_i i n b
  rcases hL i with hi | hi <;> rw [hi] at h
  ·cases h
  ·simp only [snap]
   split at h
   ·rename_i hm; simp only [hm]; rw [beq_dec, bif_inv] at h
    split at h <;> rename_i hn <;> cases h
    ·rw [if_pos hn]
    ·rw [if_neg hn]
   ·rename_i hm hne; cases h; rw [hne]
    split
    ·rename_i hx; cases hx; exact (hm _ _ rfl).elim
    ·rfl
   ·cases h
 ·rename_i i n off len cap
  rcases hL i with hi | hi <;> rw [hi] at h
  ·cases h
  ·simp only [snap]
   split at h
   ·rename_i hm; simp only [hm]; rw [beq_dec, bif_inv] at h
    split at h <;> rename_i hn <;> cases h
    ·rw [if_pos hn]
    ·rw [if_neg hn]
   ·rename_i hm hne; cases h; rw [hne]
    split
    ·rename_i hx; cases hx; exact (hm _ _ rfl).elim
    ·rfl
   ·cases h
 ·cases h
  unfold snap
  split
  ·rename_i h1 _; exact (h1 _ _ _ rfl).elim
  ·rename_i _ h1; exact (h1 _ _ _ _ _ rfl).elim
  ·rfl
theorem viewT_ok (hL : LOk st L) {v : AV} {x} (h : viewT L v = some x) : viewOf st.mem v = some x := by
 unfold viewT at h
 split at h
 ·rename_i i n b
  rcases hL i with hi | hi <;> rw [hi] at h
  ·cases h
  ·simp only [viewOf]
   split at h
   ·rename_i hm; simp only [hm]; rw [beq_dec, bif_inv] at h; exact h
   ·cases h
 ·rename_i i n off len cap
  rcases hL i with hi | hi <;> rw [hi] at h
  ·cases h
  ·simp only [viewOf]
   split at h
   ·rename_i hm; simp only [hm]; rw [beq_dec, bif_inv] at h; exact h
   ·cases h
 ·cases h
theorem nilT_ok (hL : LOk st L) {v : AV} {x} (h : nilT L v = some x) : nilOf st.mem v = some x := by
 unfold nilT at h
 split at h
 ·exact h
 ·rename_i i n b
  rcases hL i with hi | hi <;> rw [hi] at h
  ·cases h
  ·simp only [nilOf]
   split at h
   ·rename_i hm; simp only [hm]; rw [beq_dec, bif_inv] at h; exact h
   ·cases h
 ·rename_i i n _ _ _
  rcases hL i with hi | hi <;> rw [hi] at h
  ·cases h
  ·simp only [nilOf]
   split at h
   ·rename_i hm; simp only [hm]; rw [beq_dec, bif_inv] at h; exact h
   ·cases h
 ·exact h
 ·exact h
 ·exact h
 ·exact h
 ·cases h
theorem fillT_ok (hL : LOk st L) {place : Nat → Option (Nat × Nat)} : ∀ {l : List (Nat × AV)} {cells cs : List AV}, fillT L place cells l = some cs → fillAV st.mem place cells l = some cs
 | [], _, _, h => h
 | (i, v) :: r, cells, cs, h => by
   simp only [fillT] at h
   simp only [fillAV]
   split at h
   ·cases h
   ·rename_i off size hp
    simp only [hp]
    generalize hb : (Nat.beq (acells v).length size && Nat.ble (off + size) cells.length && (acells v).all (cellT L)) = b at h
    cases b
    ·cases h
    ·simp only [Bool.and_eq_true, beq_dec, ble_dec, decide_eq_true_eq] at hb
     rw [if_pos ⟨hb.1.1, hb.1.2, cellTs_ok hL hb.2⟩]
     exact fillT_ok hL h
theorem fillET_ok (hL : LOk st L) {size : Nat} : ∀ {l : List (Nat × AV)} {es cs : List (List AV)}, fillET L size es l = some cs → fillEs st.mem size es l = some cs
 | [], _, _, h => h
 | (i, v) :: r, es, cs, h => by
   simp only [fillET] at h
   simp only [fillEs]
   generalize hb : (Nat.beq (acells v).length size && Nat.blt i es.length && (acells v).all (cellT L)) = b at h
   cases b
   ·cases h
   ·simp only [Bool.and_eq_true, beq_dec, blt_dec, decide_eq_true_eq] at hb
    rw [if_pos ⟨hb.1.1, hb.1.2, cellTs_ok hL hb.2⟩]
    exact fillET_ok hL h
theorem partsT_ok (he : EvOk fr st ev) : ∀ {l : List (Nat × Operand)} {ps : List (Nat × AV)}, partsT ev l = some ps → (l.map fun p => (p.1, od fr st true p.2)) = ps
 | [], _, h => by cases h; rfl
 | (i, o) :: r, ps, h => by
   simp only [partsT] at h
   rcases he o with ho | ho <;> rw [ho] at h
   ·cases h
   ·simp only at h
    split at h
    ·rename_i hq; cases h; rw [List.map_cons, partsT_ok he hq]
    ·cases h
theorem snapsT_ok (hL : LOk st L) : ∀ {l ps : List (Nat × AV)}, snapsT L l = some ps → (l.map fun p => (p.1, snap st.mem p.2)) = ps
 | [], _, h => by cases h; rfl
 | (i, v) :: r, ps, h => by
   simp only [snapsT] at h
   split at h
   ·rename_i u hu
    split at h
    ·rename_i hq; cases h; rw [List.map_cons, snapsT_ok hL hq, snapT_ok hL hu]
    ·cases h
   ·cases h
theorem evs_ok (he : EvOk fr st ev) : ∀ {l : List Operand} {vs : List AV}, evs ev l = some vs → l.map (od fr st true) = vs
 | [], _, h => by cases h; rfl
 | o :: r, vs, h => by
   simp only [evs] at h
   rcases he o with ho | ho <;> rw [ho] at h
   ·cases h
   ·simp only at h
    split at h
    ·rename_i hq; cases h; rw [List.map_cons, evs_ok he hq]
    ·cases h
end
section
variable {P : Program} {fr : Fr} {st : St} {ev : Operand → Option AV} {L : Nat → Option RObj} {id : Nat} {dst : Option Tmp} {ty : TypeId} {pos : String} {after : Array Edge} {guard : Option (Nat × Bool)} {r : R}
theorem o_load (he : EvOk fr st ev) (hL : LOk st L) {t : TypeId} {x : Operand} (h : xopT P ev L id ⟨dst, .load t x, ty, pos, after, guard⟩ = some r) : EfR (xop P fr st true id ⟨dst, .load t x, ty, pos, after, guard⟩) r := by
 simp only [xopT] at h; simp only [xop]
 split at h
 ·rename_i ti hti; simp only [hti]
  rcases he x with hx | hx <;> rw [hx] at h
  ·cases h
  ·generalize od fr st true x = X at h ⊢
   split at h
   ·rename_i i off heq; cases heq
    rcases hL i with hi | hi <;> rw [hi] at h
    ·cases h
    ·split at h
     ·rename_i hm; obtain ⟨hb, hr⟩ := chk_inv h; cases hr; simp only [hm]; exact ⟨by simpa only [ble_dec, beq_dec] using hb, rfl⟩
     ·cases h
   ·rename_i heq; cases heq
    obtain ⟨hb, hr⟩ := chk_inv h; cases hr; exact ⟨by simpa only [ble_dec, beq_dec] using hb, rfl⟩
   ·rename_i i n k off heq; cases heq
    rcases hL n with hi | hi <;> rcases hL i with hi | hi <;> rw [hi] at h
    all_goals first
     | (cases h; done)
     | (split at h
        ·rename_i hm; simp only [hm]
         split at h
         ·rename_i hk; obtain ⟨hb, hr⟩ := chk_inv h; cases hr; simp only [hk]; exact ⟨by simpa only [ble_dec, beq_dec] using hb, rfl⟩
         ·cases h
        ·cases h)
   ·cases h
 ·cases h
theorem o_alloc {t : TypeId} (h : xopT P ev L id ⟨dst, .alloc t, ty, pos, after, guard⟩ = some r) : EfR (xop P fr st true id ⟨dst, .alloc t, ty, pos, after, guard⟩) r := by
 simp only [xopT] at h; simp only [xop]
 split at h
 ·rename_i ti hti; cases h; simp only [hti]; exact ⟨rfl, rfl, rfl⟩
 ·cases h
theorem o_box (he : EvOk fr st ev) (hL : LOk st L) {t : TypeId} {x : Operand} (h : xopT P ev L id ⟨dst, .box t x, ty, pos, after, guard⟩ = some r) : EfR (xop P fr st true id ⟨dst, .box t x, ty, pos, after, guard⟩) r := by
 simp only [xopT] at h; simp only [xop]
 rcases he x with hx | hx <;> rw [hx] at h
 ·cases h
 ·obtain ⟨hb, hr⟩ := chk_inv h; cases hr; exact ⟨cellTs_ok hL hb, rfl, rfl⟩
theorem o_build (he : EvOk fr st ev) (hL : LOk st L) {t : TypeId} {parts : Array (Nat × Operand)} (h : xopT P ev L id ⟨dst, .build t parts, ty, pos, after, guard⟩ = some r) : EfR (xop P fr st true id ⟨dst, .build t parts, ty, pos, after, guard⟩) r := by
 simp only [xopT] at h; simp only [xop]
 split at h
 ·rename_i ti ps hti hps
  split at h
  ·rename_i cs hcs
   obtain ⟨hb, hr⟩ := chk_inv h; cases hr
   simp only [hti, partsT_ok he hps, fillT_ok hL hcs]; exact ⟨hb, rfl⟩
  ·cases h
 ·cases h
theorem o_buildSlice (he : EvOk fr st ev) (hL : LOk st L) (hown : dst.isSome = true → ownSlot fr dst = true) {t : TypeId} {n : Nat} {parts : Array (Nat × Operand)} (h : xopT P ev L id ⟨dst, .buildSlice t n parts, ty, pos, after, guard⟩ = some r) : EfR (xop P fr st true id ⟨dst, .buildSlice t n parts, ty, pos, after, guard⟩) r := by
 simp only [xopT] at h; simp only [xop]
 split at h
 ·rename_i e qs hte hqs
  split at h
  ·rename_i ti ps hti hps
   split at h
   ·rename_i es hes
    obtain ⟨hb, hr⟩ := chk_inv h; cases hr
    simp only [Bool.and_eq_true, ble_dec, beq_dec, Bool.not_eq_true', decide_eq_true_eq, decide_eq_false_iff_not] at hb
    have hq : (parts.toList.map fun p => (p.1, snap st.mem (od fr st true p.2))) = ps := by
     rw [← snapsT_ok hL hps, ← partsT_ok he hqs, List.map_map]; rfl
    simp only [hte, hti, hq, fillET_ok hL hes, hown hb.1.1, if_true]
    exact ⟨by simp only [Bool.and_eq_true, decide_eq_true_eq]; exact ⟨hb.1.2, hb.2⟩, rfl, rfl⟩
   ·cases h
  ·cases h
 ·cases h
theorem o_store (he : EvOk fr st ev) (hL : LOk st L) {t : TypeId} {a x : Operand} (h : xopT P ev L id ⟨dst, .store t a x, ty, pos, after, guard⟩ = some r) : EfR (xop P fr st true id ⟨dst, .store t a x, ty, pos, after, guard⟩) r := by
 simp only [xopT] at h; simp only [xop]
 split at h
 ·rename_i ti v hti hv
  rcases he x with hx | hx <;> rw [hx] at hv
  ·cases hv
  have hv := Option.some.inj hv; subst hv
  simp only [hti]
  rcases he a with ha | ha <;> rw [ha] at h
  ·cases h
  ·generalize od fr st true a = A at h ⊢
   split at h
   ·rename_i i off heq; cases heq
    rcases hL i with hi | hi <;> rw [hi] at h
    ·cases h
    ·split at h
     ·rename_i hm; obtain ⟨hb, hr⟩ := chk_inv h; cases hr; simp only [hm]
      simp only [Bool.and_eq_true, beq_dec, ble_dec] at hb
      exact ⟨by simp only [Bool.and_eq_true]; exact ⟨hb.1, cellTs_ok hL hb.2⟩, rfl, rfl, rfl⟩
     ·cases h
   ·rename_i i n k off heq; cases heq
    rcases hL i with hi | hi <;> rw [hi] at h
    ·cases h
    ·split at h
     ·rename_i hm hu; simp only [hm, snapT_ok hL hu]
      split at h
      ·rename_i hk; obtain ⟨hb, hr⟩ := chk_inv h; cases hr; simp only [hk]
       simp only [Bool.and_eq_true, beq_dec, ble_dec] at hb
       exact ⟨by simp only [Bool.and_eq_true]; exact ⟨hb.1, cellTs_ok hL hb.2⟩, rfl, rfl, rfl⟩
      ·cases h
     ·cases h
   ·cases h
 ·cases h
theorem o_nilCheck (he : EvOk fr st ev) (hL : LOk st L) {x : Operand} (h : xopT P ev L id ⟨dst, .nilCheck x, ty, pos, after, guard⟩ = some r) : EfR (xop P fr st true id ⟨dst, .nilCheck x, ty, pos, after, guard⟩) r := by
 simp only [xopT] at h; simp only [xop]
 rcases he x with hx | hx <;> rw [hx] at h
 ·cases h
 ·generalize od fr st true x = X at h ⊢
  split at h
  ·rename_i heq; cases heq; cases h; exact ⟨rfl, rfl⟩
  ·rename_i heq; cases heq; cases h; exact ⟨rfl, rfl⟩
  ·rename_i i n k off heq; cases heq
   rcases hL i with hi | hi <;> rw [hi] at h
   ·cases h
   ·split at h
    ·rename_i hm; obtain ⟨hb, hr⟩ := chk_inv h; cases hr; simp only [hm]; exact ⟨by simpa only [beq_dec] using hb, rfl⟩
    ·cases h
  ·cases h
theorem o_fieldAddr (he : EvOk fr st ev) (hL : LOk st L) {t : TypeId} {x : Operand} {f : Nat} (h : xopT P ev L id ⟨dst, .fieldAddr t x f, ty, pos, after, guard⟩ = some r) : EfR (xop P fr st true id ⟨dst, .fieldAddr t x f, ty, pos, after, guard⟩) r := by
 simp only [xopT] at h; simp only [xop]
 split at h
 ·rename_i off ft hf; simp only [hf]
  rcases he x with hx | hx <;> rw [hx] at h
  ·cases h
  ·generalize od fr st true x = X at h ⊢
   split at h
   ·rename_i heq; cases heq; obtain ⟨hb, hr⟩ := chk_inv h; cases hr
    exact ⟨by simpa [beq_dec] using hb, rfl⟩
   ·rename_i heq; cases heq; obtain ⟨hb, hr⟩ := chk_inv h; cases hr
    exact ⟨by simpa [beq_dec] using hb, rfl⟩
   ·rename_i i n k off heq; cases heq
    rcases hL i with hi | hi <;> rw [hi] at h
    ·cases h
    ·split at h
     ·rename_i hm; obtain ⟨hb, hr⟩ := chk_inv h; cases hr; simp only [hm]; exact ⟨by simpa [beq_dec] using hb, rfl⟩
     ·cases h
   ·cases h
 ·cases h
theorem o_field (he : EvOk fr st ev) {t : TypeId} {x : Operand} {f : Nat} (h : xopT P ev L id ⟨dst, .field t x f, ty, pos, after, guard⟩ = some r) : EfR (xop P fr st true id ⟨dst, .field t x f, ty, pos, after, guard⟩) r := by
 simp only [xopT] at h; simp only [xop]
 split at h
 ·rename_i off ft hf; simp only [hf]
  split at h
  ·rename_i ti cs hti hx
   rcases he x with hx' | hx' <;> rw [hx'] at hx
   ·cases hx
   ·have hx := Option.some.inj hx
    obtain ⟨hb, hr⟩ := chk_inv h; cases hr
    simp only [hti, hx]
    exact ⟨by simpa only [ble_dec, beq_dec] using hb, rfl⟩
  ·cases h
 ·cases h
end
section
variable {P : Program} {fr : Fr} {st : St} {ev : Operand → Option AV} {L : Nat → Option RObj} {id : Nat} {dst : Option Tmp} {ty : TypeId} {pos : String} {after : Array Edge} {guard : Option (Nat × Bool)} {r : R}
theorem EvOk.some (he : EvOk fr st ev) {x : Operand} {v : AV} (h : ev x = some v) : od fr st true x = v := by
 rcases he x with hx | hx <;> rw [hx] at h
 ·cases h
 ·exact Option.some.inj h
theorem LOk.some (hL : LOk st L) {i : Nat} {o : RObj} (h : L i = some o) : mlook st.mem i = some o := by
 rcases hL i with hx | hx <;> rw [hx] at h
 ·cases h
 ·exact h
theorem efT_ok {e : Ef} (h : efT e = some r) : EfR e r := by
 cases e <;> simp only [efT] at h
 ·cases h
 ·obtain ⟨hb, hr⟩ := chk_inv h; cases hr; exact ⟨by first | exact hb | rfl, rfl⟩
 ·obtain ⟨hb, hr⟩ := chk_inv h; cases hr; exact ⟨hb, rfl, rfl⟩
 ·obtain ⟨hb, hr⟩ := chk_inv h; cases hr; exact ⟨hb, rfl, rfl, rfl⟩
 ·cases h
theorem o_indexAddr (he : EvOk fr st ev) (hL : LOk st L) {t : TypeId} {x ix : Operand} (h : xopT P ev L id ⟨dst, .indexAddr t x ix, ty, pos, after, guard⟩ = some r) : EfR (xop P fr st true id ⟨dst, .indexAddr t x ix, ty, pos, after, guard⟩) r := by
 simp only [xopT] at h; simp only [xop]
 split at h
 ·rename_i k i hi; simp only [he.some hi]
  split at h
  ·rename_i e hte; simp only [hte]
   split at h
   all_goals first
    | (rename_i hin hx; simp only [hin, he.some hx, Bool.true_eq_false, if_false])
    | skip
   ·split at h
    ·rename_i c hc; obtain ⟨hb, hr⟩ := chk_inv h; cases hr; simp only [hc]; exact ⟨by simpa only [beq_dec] using hb, rfl⟩
    ·cases h
   ·split at h
    ·rename_i hm; obtain ⟨hb, hr⟩ := chk_inv h; cases hr; simp only [hL.some hm]; exact ⟨by simpa only [beq_dec, blt_dec] using hb, rfl⟩
    ·cases h
   ·split at h
    ·rename_i hm; obtain ⟨hb, hr⟩ := chk_inv h; cases hr; simp only [hL.some hm]; exact ⟨by simpa only [beq_dec, blt_dec] using hb, rfl⟩
    ·cases h
   ·cases h
  ·rename_i hte; simp only [hte]
   split at h
   ·rename_i n e hta; simp only [hta]
    split at h
    all_goals first
     | (rename_i hin hx; simp only [hin, he.some hx, Bool.true_eq_false, if_false])
     | skip
    ·obtain ⟨hb, hr⟩ := chk_inv h; cases hr; exact ⟨by simpa only [beq_dec, blt_dec] using hb, rfl⟩
    ·obtain ⟨hb, hr⟩ := chk_inv h; cases hr; exact ⟨by simpa only [beq_dec, blt_dec] using hb, rfl⟩
    ·split at h
     ·rename_i hm; obtain ⟨hb, hr⟩ := chk_inv h; cases hr; simp only [hL.some hm]; exact ⟨by simpa only [beq_dec, blt_dec] using hb, rfl⟩
     ·cases h
    ·cases h
   ·cases h
 ·cases h
def StrIx (fr : Fr) (st : St) (x ix : Operand) (r : R) : Prop := ∃ k i s b, od fr st true ix = .sc (.int k i) ∧ od fr st true x = .sc (.string s) ∧ s.data.toList[i.toNat]? = some b ∧ 0 ≤ i ∧ r = .val (.sc (.int .u8 b.toNat))
theorem o_index (he : EvOk fr st ev) {t : TypeId} {x ix : Operand} (h : xopT P ev L id ⟨dst, .index t x ix, ty, pos, after, guard⟩ = some r) : EfR (xop P fr st true id ⟨dst, .index t x ix, ty, pos, after, guard⟩) r ∨ tstr P t = true ∧ StrIx fr st x ix r := by
 simp only [xopT] at h
 split at h
 ·rename_i k i s hi hx
  split at h
  ·rename_i b hb; obtain ⟨hc, hr⟩ := chk_inv h; cases hr
   simp only [Bool.and_eq_true, decide_eq_true_eq] at hc
   exact .inr ⟨hc.1, k, i, s, b, he.some hi, he.some hx, hb, hc.2, rfl⟩
  ·cases h
 ·rename_i k i cs hi hx
  left
  simp only [xop]
  simp only [he.some hi, he.some hx]
  split at h
  ·rename_i n e hta; simp only [hta]
   split at h
   ·rename_i ti hti; simp only [hti]; obtain ⟨hb, hr⟩ := chk_inv h; cases hr; exact ⟨by simpa only [beq_dec, blt_dec, ble_dec] using hb, rfl⟩
   ·cases h
  ·cases h
 ·cases h
theorem intT_ok {op : BinOp} {k : IntKind} {a b : Int} (h : intT op k a b = some r) : EfR (intBin op k a b) r := by
 cases op <;> cases k <;> first
  | (cases h; exact ⟨rfl, rfl⟩)
  | (simp only [intT] at h; obtain ⟨hb, hr⟩ := chk_inv h; cases hr; exact ⟨by simpa only [i64b_eq] using hb, rfl⟩)
  | cases h
theorem o_binOp (he : EvOk fr st ev) (hL : LOk st L) {op : BinOp} {t yt : TypeId} {x y : Operand} (h : xopT P ev L id ⟨dst, .binOp op t x y yt, ty, pos, after, guard⟩ = some r) :
  EfR (xop P fr st true id ⟨dst, .binOp op t x y yt, ty, pos, after, guard⟩) r ∨ ∃ a b, od fr st true x = .sc (.string a) ∧ od fr st true y = .sc (.string b) ∧ strT op a b = some r := by
 simp only [xopT] at h
 split at h
 ·rename_i X Y hx hy
  simp only [xop, he.some hx, he.some hy]
  unfold binT at h
  split at h
  ·rename_i a b ha hb
   left
   simp only [nilT_ok hL ha, nilT_ok hL hb]
   split at h
   ·rename_i ok v hv; rw [hv]; obtain ⟨hb, hr⟩ := chk_inv h; cases hr; exact ⟨by first | exact hb | rfl, rfl⟩
   ·cases h
  ·split at h
   ·rename_i k a k' b _
    left
    simp only [nilOf, binEf]
    cases hs : isShift op
    ·rw [hs] at h
     simp only [cond_false, Bool.false_eq_true, if_false] at h ⊢
     by_cases hk : k = k'
     ·rw [if_pos hk] at h ⊢; exact intT_ok h
     ·rw [if_neg hk] at h; cases h
    ·rw [hs] at h
     simp only [cond_true, if_true] at h ⊢
     obtain ⟨hb, hr⟩ := chk_inv h; cases hr; exact ⟨by first | exact hb | rfl, rfl⟩
   ·left
    simp only [nilOf, binEf]
    split at h
    ·obtain ⟨hb, hr⟩ := chk_inv h; cases hr; exact ⟨by first | exact hb | rfl, rfl⟩
    ·obtain ⟨hb, hr⟩ := chk_inv h; cases hr; exact ⟨by first | exact hb | rfl, rfl⟩
    ·cases h
   ·rename_i a b _; exact .inr ⟨a, b, rfl, rfl, h⟩
   ·rename_i xs ys _
    left
    simp only [nilOf, binEf]
    split at h
    ·rename_i vs us hvs hus; simp only [hvs, hus]
     split at h
     ·rename_i ks hks; simp only [hks]
      split at h
      ·obtain ⟨hb, hr⟩ := chk_inv h; cases hr; exact ⟨by first | exact hb | rfl, rfl⟩
      ·obtain ⟨hb, hr⟩ := chk_inv h; cases hr; exact ⟨by first | exact hb | rfl, rfl⟩
      ·cases h
     ·cases h
    ·cases h
   ·cases h
 ·cases h
theorem o_unOp (he : EvOk fr st ev) {op : UnOp} {t : TypeId} {x : Operand} (h : xopT P ev L id ⟨dst, .unOp op t x, ty, pos, after, guard⟩ = some r) : EfR (xop P fr st true id ⟨dst, .unOp op t x, ty, pos, after, guard⟩) r := by
 simp only [xopT] at h; simp only [xop]
 split at h
 ·rename_i b hx; simp only [he.some hx]; cases h; exact ⟨rfl, rfl⟩
 ·rename_i n hx; simp only [he.some hx]; obtain ⟨hb, hr⟩ := chk_inv h; cases hr; exact ⟨by simpa only [i64b_eq] using hb, rfl⟩
 ·cases h
theorem o_convert (he : EvOk fr st ev) {s d : TypeId} {x : Operand} (h : xopT P ev L id ⟨dst, .convert s d x, ty, pos, after, guard⟩ = some r) : EfR (xop P fr st true id ⟨dst, .convert s d x, ty, pos, after, guard⟩) r := by
 simp only [xopT] at h; simp only [xop]
 split at h
 ·rename_i k n hs ht hx; simp only [hs, ht, he.some hx, Bool.true_eq_false, if_false]; obtain ⟨hb, hr⟩ := chk_inv h; cases hr; exact ⟨by simpa only [i64b_eq] using hb, rfl⟩
 ·rename_i k k' n hne hs ht hx; cases h; simp only [hs, ht, he.some hx, Bool.true_eq_false, if_false]
  exact ⟨rfl, rfl⟩
 ·cases h
theorem o_makeFunc (he : EvOk fr st ev) {fn : Fn} {first caps : Array Operand} (h : xopT P ev L id ⟨dst, .makeFunc fn first caps, ty, pos, after, guard⟩ = some r) : EfR (xop P fr st true id ⟨dst, .makeFunc fn first caps, ty, pos, after, guard⟩) r := by
 simp only [xopT] at h; simp only [xop]
 split at h
 ·rename_i f vs hf hv
  cases hb : Nat.blt f 1000000
  ·rw [hb] at h; cases h
  ·rw [hb] at h; cases h; simp only [hf, evs_ok he hv]; exact ⟨by first | exact hb | rfl, rfl⟩
 ·rename_i f _ _ _ hf
  cases hb : Nat.beq caps.size 0
  ·rw [hb] at h; cases h
  ·rw [hb] at h
   simp only [cond_true] at h
   split at h
   ·rename_i vs hv
    cases h
    rw [hf] at hv ⊢
    simp only [← evs_ok he hv]; exact ⟨by first | exact hb | rfl, rfl⟩
   ·cases h
 ·cases h
theorem o_extract (he : EvOk fr st ev) {x : Operand} {i : Nat} (h : xopT P ev L id ⟨dst, .extract x i, ty, pos, after, guard⟩ = some r) : EfR (xop P fr st true id ⟨dst, .extract x i, ty, pos, after, guard⟩) r := by
 simp only [xopT] at h; simp only [xop]
 split at h
 ·rename_i vs hx; simp only [he.some hx]
  split at h
  ·rename_i v hv; cases h; simp only [hv]; exact ⟨rfl, rfl⟩
  ·cases h
 ·cases h
theorem o_makeSlice (he : EvOk fr st ev) (hown : dst.isSome = true → ownSlot fr dst = true) {t : TypeId} {l c : Operand} (h : xopT P ev L id ⟨dst, .makeSlice t l c, ty, pos, after, guard⟩ = some r) : EfR (xop P fr st true id ⟨dst, .makeSlice t l c, ty, pos, after, guard⟩) r := by
 simp only [xopT] at h; simp only [xop]
 split at h
 ·rename_i e hte; simp only [hte]
  split at h
  ·rename_i ti n m hti hl hc; simp only [hti, he.some hl, he.some hc]
   obtain ⟨hb, hr⟩ := chk_inv h; cases hr
   simp only [Bool.and_eq_true] at hb
   simp only [hown hb.1.1.1.1, if_true]
   exact ⟨by simp only [Bool.and_eq_true]; exact ⟨⟨⟨hb.1.1.1.2, hb.1.1.2⟩, by rw [← roomb_eq]; exact hb.1.2⟩, by rw [← beq_dec]; exact hb.2⟩, rfl, rfl⟩
  ·cases h
 ·cases h
end
section
variable {P : Program} {fr : Fr} {st : St} {ev : Operand → Option AV} {L : Nat → Option RObj} {id : Nat} {dst : Option Tmp} {ty : TypeId} {pos : String} {after : Array Edge} {guard : Option (Nat × Bool)} {r : R}
theorem o_makeMap (he : EvOk fr st ev) {t : TypeId} {x : Option Operand} (h : xopT P ev L id ⟨dst, .makeMap t x, ty, pos, after, guard⟩ = some r) : EfR (xop P fr st true id ⟨dst, .makeMap t x, ty, pos, after, guard⟩) r := by
 simp only [xopT] at h; simp only [xop]
 split at h
 ·rename_i k e ht; cases h; simp only [ht]; exact ⟨rfl, rfl, rfl⟩
 ·rename_i k e x ht; simp only [ht]
  split at h
  ·rename_i hx; cases h; simp only [he.some hx]; exact ⟨rfl, rfl, rfl⟩
  ·cases h
 ·cases h
theorem o_lookup (he : EvOk fr st ev) (hL : LOk st L) {t : TypeId} {m k : Operand} {ok : Bool} (h : xopT P ev L id ⟨dst, .lookup t m k ok, ty, pos, after, guard⟩ = some r) : EfR (xop P fr st true id ⟨dst, .lookup t m k ok, ty, pos, after, guard⟩) r := by
 simp only [xopT] at h; simp only [xop]
 split at h
 ·rename_i kt et kv i ht hk hm
  split at h
  ·rename_i kv' kt' es ti hkv hi hti
   simp only [ht, he.some hk, he.some hm, hkv, hL.some hi, hti]
   split at h
   ·rename_i v hv; obtain ⟨hb, hr⟩ := chk_inv h; cases hr; simp only [hv]
    refine ⟨by rw [← beq_dec]; exact hb, ?_⟩
    cases ok <;> rfl
   ·rename_i hv; obtain ⟨hb, hr⟩ := chk_inv h; cases hr; simp only [hv]
    refine ⟨by rw [← beq_dec]; exact hb, ?_⟩
    cases ok <;> rfl
  ·cases h
 ·cases h
theorem o_mapUpdate (he : EvOk fr st ev) (hL : LOk st L) {t : TypeId} {m k x : Operand} (h : xopT P ev L id ⟨dst, .mapUpdate t m k x, ty, pos, after, guard⟩ = some r) : EfR (xop P fr st true id ⟨dst, .mapUpdate t m k x, ty, pos, after, guard⟩) r := by
 simp only [xopT] at h; simp only [xop]
 split at h
 ·rename_i kt et kv i v ht hk hm hx
  split at h
  ·rename_i kv' kt' es hkv hi
   obtain ⟨hb, hr⟩ := chk_inv h; cases hr
   simp only [ht, he.some hk, he.some hm, he.some hx, hkv, hL.some hi]
   exact ⟨by rw [← beq_dec]; exact hb, rfl, rfl, rfl⟩
  ·cases h
 ·cases h
theorem o_insert (he : EvOk fr st ev) (hL : LOk st L) {t : TypeId} {m k x : Operand} (h : xopT P ev L id ⟨dst, .insert t m k x, ty, pos, after, guard⟩ = some r) : EfR (xop P fr st true id ⟨dst, .insert t m k x, ty, pos, after, guard⟩) r := by
 simp only [xopT] at h; simp only [xop]
 split at h
 ·rename_i kt et kv i v ht hk hm hx
  split at h
  ·rename_i kv' kt' es hkv hi
   obtain ⟨hb, hr⟩ := chk_inv h; cases hr
   simp only [ht, he.some hk, he.some hm, he.some hx, hkv, hL.some hi]
   exact ⟨by rw [← beq_dec]; exact hb, rfl, rfl, rfl⟩
  ·cases h
 ·cases h
theorem bndT_ok (he : EvOk fr st ev) {o : Option Operand} {b : Option Int} (h : bndT ev o = some b) : bound (o.map (od fr st true)) = some b := by
 cases o with
 | none => exact h
 | some o =>
   simp only [bndT] at h
   split at h
   ·rename_i hx; cases h; simp only [Option.map_some, he.some hx, bound]
   ·cases h
def StrSl (fr : Fr) (st : St) (x : Operand) (lo hi mx : Option Operand) (r : R) : Prop :=
 ∃ s a b, od fr st true x = .sc (.string s) ∧ bound (lo.map (od fr st true)) = some a ∧ bound (hi.map (od fr st true)) = some b ∧ mx = none ∧ 0 ≤ a.getD 0 ∧ a.getD 0 ≤ b.getD s.size ∧ b.getD s.size ≤ s.size ∧
   r = .val (.sc (.string ⟨⟨(s.data.toList.drop (a.getD 0).toNat).take ((b.getD s.size).toNat - (a.getD 0).toNat)⟩⟩))
def RestSl (P : Program) (fr : Fr) (st : St) (id : Nat) (t : TypeId) (x : Operand) (lo hi mx : Option Operand) (r : R) : Prop :=
 ∃ e i n nl esz es q k z, lo = some z ∧ hi = none ∧ mx = none ∧ telem P t = some e ∧ tinf P e = true ∧ snap st.mem (od fr st true x) = .tl i n nl ∧ mlook st.mem i = some (.arr esz es false) ∧ n = es.length ∧ n ≠ 0 ∧ esz = P.cellsOf e ∧
   od fr st true z = .sc (.int q k) ∧ 0 ≤ k ∧ k.toNat = es.length ∧ r = .key (.tl id 0 false) i (.arr esz [] false)
theorem bndT_some (he : EvOk fr st ev) {o : Option Operand} {a : Int} (h : bndT ev o = some (some a)) : ∃ z q, o = some z ∧ od fr st true z = .sc (.int q a) := by
 cases o with
 | none => cases h
 | some z =>
   simp only [bndT] at h
   split at h
   ·rename_i q i hx; cases h; exact ⟨z, q, rfl, he.some hx⟩
   ·cases h
theorem bndT_none {o : Option Operand} (h : bndT ev o = some none) : o = none := by
 cases o with
 | none => rfl
 | some z =>
   simp only [bndT] at h
   split at h <;> cases h
theorem o_slice (he : EvOk fr st ev) (hL : LOk st L) {t : TypeId} {x : Operand} {lo hi mx : Option Operand} (h : xopT P ev L id ⟨dst, .slice t x lo hi mx, ty, pos, after, guard⟩ = some r) :
  EfR (xop P fr st true id ⟨dst, .slice t x lo hi mx, ty, pos, after, guard⟩) r ∨ (tstr P t = true ∧ StrSl fr st x lo hi mx r) ∨ RestSl P fr st id t x lo hi mx r := by
 simp only [xopT] at h
 split at h
 ·rename_i a b c v ha hb hc hx
  split at h
  ·rename_i e hte
   split at h
   ·rename_i hin
    split at h
    ·rename_i u hu
     split at h
     ·rename_i hw
      split at h
      ·rename_i r' hr'
       cases h
       refine .inr (.inr ?_)
       unfold restT at hr'
       split at hr'
       ·rename_i i n nl a
        split at hr'
        ·rename_i esz es fz ho
         obtain ⟨hk, hr⟩ := chk_inv hr'; cases hr
         simp only [Bool.and_eq_true, Bool.not_eq_true', beq_dec, decide_eq_true_eq, decide_eq_false_iff_not] at hk
         obtain ⟨⟨⟨⟨⟨h1, h2⟩, h3⟩, h4⟩, h5⟩, h6⟩ := hk
         subst h1
         obtain ⟨z, q, hz, hq⟩ := bndT_some he ha
         exact ⟨e, i, n, nl, esz, es, q, a, z, hz, bndT_none hb, bndT_none hc, hte, hin, by rw [he.some hx]; exact snapT_ok hL hu, hL.some ho, h2, h6, h3, hq, h4, h5, rfl⟩
        ·cases hr'
       ·cases hr'
      ·left
       simp only [xop, hte, he.some hx, bndT_ok he ha, bndT_ok he hb, bndT_ok he hc, hin, Bool.true_eq_false, if_false, snapT_ok hL hu, viewT_ok hL hw]; exact efT_ok h
     ·left
      rename_i hw
      simp only [xop, hte, he.some hx, bndT_ok he ha, bndT_ok he hb, bndT_ok he hc, hin, Bool.true_eq_false, if_false, snapT_ok hL hu]
      have hv : viewOf st.mem u = none := by
       cases u <;> first
        | rfl
        | (simp only [sliceEf, efT] at h; cases h)
      simp only [hv]; exact efT_ok h
    ·cases h
   ·cases h
  ·split at h
   ·rename_i s hts
    obtain ⟨hk, hr⟩ := chk_inv h; cases hr
    simp only [Bool.and_eq_true, decide_eq_true_eq] at hk
    refine .inr (.inl ⟨hts, s, a, b, he.some hx, bndT_ok he ha, bndT_ok he hb, ?_, hk.1.1, hk.1.2, hk.2, rfl⟩)
    cases mx with
    | none => rfl
    | some m => simp only [bndT] at hc; split at hc <;> cases hc
   ·cases h
 ·cases h
theorem appT_ok (hL : LOk st L) {own : Bool} (hown : own = true) {t : TypeId} {x : AV} {ys : List (List AV)} (h : appT P L id t x ys = some r) : EfR (appendEf P st.mem id own t x ys) r := by
 unfold appT at h
 unfold appendEf
 split at h
 ·cases h
 ·rename_i e hte; simp only [hte]
  split at h
  ·cases h
  ·rename_i ti hti; simp only [hti]
   split at h
   ·split at h
    ·rename_i hm; simp only [hL.some hm]; obtain ⟨hb, hr⟩ := chk_inv h; cases hr
     exact ⟨by simpa only [beq_dec, roomb_eq] using hb, rfl, rfl, rfl⟩
    ·cases h
   ·split at h
    ·rename_i hm; simp only [hL.some hm]; obtain ⟨hb, hr⟩ := chk_inv h; cases hr
     exact ⟨by simpa only [beq_dec, ble_dec, roomb_eq] using hb, rfl, rfl, rfl⟩
    ·cases h
   ·split at h
    ·rename_i hm; simp only [hL.some hm]
     rw [beq_dec, bif_inv] at h
     split at h <;> rename_i hn
     ·rw [if_pos hn]; obtain ⟨hb, hr⟩ := chk_inv h; cases hr
      exact ⟨by simpa [beq_dec, ble_dec, roomb_eq] using hb, rfl, rfl, rfl⟩
     ·rw [if_neg hn]; obtain ⟨hb, hr⟩ := chk_inv h; cases hr
      exact ⟨by simpa only [beq_dec, ble_dec, roomb_eq] using hb, rfl, rfl, rfl⟩
    ·cases h
   ·obtain ⟨hb, hr⟩ := chk_inv h; cases hr
    exact ⟨by simpa only [beq_dec, roomb_eq] using hb, rfl, rfl⟩
   ·subst hown; obtain ⟨hb, hr⟩ := chk_inv h; cases hr
    exact ⟨by simpa only [beq_dec, roomb_eq] using hb, rfl, rfl⟩
   ·cases h
theorem o_call (he : EvOk fr st ev) (hL : LOk st L) (hown : dst.isSome = true → ownSlot fr dst = true) {c : Call} (h : xopT P ev L id ⟨dst, .call c, ty, pos, after, guard⟩ = some r) : EfR (xop P fr st true id ⟨dst, .call c, ty, pos, after, guard⟩) r := by
 simp only [xopT] at h; simp only [xop]
 split at h
 ·rename_i x t hc ha ht; simp only [hc, ha, ht]
  split at h
  ·rename_i v hx; simp only [he.some hx]
   split at h
   ·rename_i e hte; simp only [hte]
    split at h
    ·rename_i es hes; cases h; simp only [elemsT_ok hL hes]; exact ⟨rfl, rfl⟩
    ·cases h
   ·rename_i hte; simp only [hte]
    split at h
    ·obtain ⟨hb, hr⟩ := chk_inv h; cases hr; simp only [hb, if_true]; exact ⟨rfl, rfl⟩
    ·split at h
     ·rename_i hi htm; cases h; simp only [hL.some hi, htm]; exact ⟨rfl, rfl⟩
     ·cases h
    ·cases h
  ·cases h
 ·rename_i x t hc ha ht; simp only [hc, ha, ht]
  split at h
  ·rename_i e es hte hx; cases h; simp only [hte, he.some hx]; exact ⟨rfl, rfl⟩
  ·rename_i hte hx; cases h; simp only [hte, he.some hx]; exact ⟨rfl, rfl⟩
  ·rename_i hte hx; cases h; simp only [hte, he.some hx]; exact ⟨rfl, rfl⟩
  ·rename_i hte hx; simp only [hte, he.some hx]
   split at h
   ·rename_i hm; simp only [hL.some hm]; obtain ⟨hb, hr⟩ := chk_inv h; cases hr; exact ⟨by rw [← beq_dec]; exact hb, rfl⟩
   ·cases h
  ·cases h
 ·rename_i x y t t' hc ha ht; simp only [hc, ha, ht]
  split at h
  ·rename_i e a b hte hx hy
   split at h
   ·rename_i ys hys
    cases hd : dst.isSome
    ·rw [hd] at h; cases h
    ·rw [hd] at h; simp only [hte, he.some hx, he.some hy, elemsT_ok hL hys]
     exact appT_ok hL (hown hd) h
   ·cases h
  ·rename_i nl es k n hte hx hy
   split at h
   ·rename_i k' e hti hte'
    split at h
    ·rename_i ti hi; obtain ⟨hb, hr⟩ := chk_inv h; cases hr
     simp only [hte, he.some hx, he.some hy, appendN, hti, hte', hi]
     exact ⟨by simpa only [beq_dec, blt_dec, roomb_eq] using hb, rfl, rfl⟩
    ·cases h
   ·cases h
  ·cases h
 ·rename_i x y t t' hc ha ht; simp only [hc, ha, ht]
  split at h
  ·rename_i e a b hte hx hy
   split at h
   ·rename_i ti i esz n off len cap ys hti hv hys
    split at h
    ·rename_i hm; obtain ⟨hb, hr⟩ := chk_inv h; cases hr
     simp only [copyEf, hte, hti, he.some hx, he.some hy, viewT_ok hL hv, elemsT_ok hL hys, hL.some hm]
     exact ⟨by simpa [beq_dec] using hb, rfl, rfl, rfl⟩
    ·cases h
   ·cases h
  ·cases h
 ·rename_i x y t t' hc ha ht; simp only [hc, ha, ht]
  split at h
  ·rename_i k a k' b hx hy; simp only [he.some hx, he.some hy]
   split at h
   ·rename_i hk; cases h; exact ⟨decide_eq_true hk, rfl⟩
   ·cases h
  ·cases h
 ·rename_i x y t t' hc ha ht; simp only [hc, ha, ht]
  split at h
  ·rename_i k a k' b hx hy; simp only [he.some hx, he.some hy]
   split at h
   ·rename_i hk; cases h; exact ⟨decide_eq_true hk, rfl⟩
   ·cases h
  ·cases h
 ·cases h
end
theorem bytes_toList (b : ByteArray) : b.toList = b.data.toList := by
 obtain ⟨⟨l⟩⟩ := b; exact ByteArray.toList_mk l
theorem bytes_cat (a b : ByteArray) : a ++ b = ⟨⟨a.data.toList ++ b.data.toList⟩⟩ := by
 apply ByteArray.ext
 rw [ByteArray.data_append]
 apply Array.ext'
 rw [Array.toList_append]
theorem bytes_cut (s : ByteArray) (l h : Nat) : s.extract l h = ⟨⟨(s.data.toList.drop l).take (h - l)⟩⟩ := by
 apply ByteArray.ext
 rw [ByteArray.data_extract]
 apply Array.ext'
 rw [Array.toList_extract, List.extract_eq_take_drop]
theorem bytes_get (s : ByteArray) (i : Nat) : s[i]? = s.data.toList[i]? := by
 by_cases h : i < s.size
 ·have h2 : i < s.data.toList.length := by rw [Array.length_toList]; exact h
  rw [getElem?_pos s i h, getElem?_pos s.data.toList i h2]; rfl
 ·have h2 : ¬ i < s.data.toList.length := by rw [Array.length_toList]; exact h
  rw [getElem?_neg s i h, getElem?_neg s.data.toList i h2]
section
variable {P : Program} {fr : Fr} {st : St} {G : Nat → Option Value} {F : Nat → Nat → Prop} {w : World} {ρ : Operand → Value} {dst : Option Tmp} {ty : TypeId} {pos : String} {after : Array Edge} {guard : Option (Nat × Bool)}
theorem tstr_inv {t : TypeId} (h : tstr P t = true) : P.underlying t = some .string := by
 unfold tstr at h; split at h
 ·assumption
 ·cases h
theorem run_strIx (hρ : ∀ x, RV G F st.mem w (ρ x) (opnd fr st x)) {t : TypeId} {x ix : Operand} {r : R} (ht : tstr P t = true) (h : StrIx fr st x ix r) :
  ∃ u, (execOp ρ ⟨dst, .index t x ix, ty, pos, after, guard⟩).run P w = .ok (.value u) w ∧ r = .val (.sc u) := by
 obtain ⟨k, i, s, b, hi, hx, hb, h0, rfl⟩ := h
 have ei := od_rv hρ ix; rw [hi] at ei; have ei := ei.inv_sc
 have ex := od_rv hρ x; rw [hx] at ex; have ex := ex.inv_sc
 refine ⟨.int .u8 b.toNat, run_v ?_, rfl⟩
 have hb' : s[i.toNat]? = some b := by rw [bytes_get]; exact hb
 simp only [Instr.index, ei, ex, asIntOf, Sem.run_bind, Sem.run_pure, Result.andThen_ok, run_under (tstr_inv ht), h0, if_true, hb']
theorem run_strT (hρ : ∀ x, RV G F st.mem w (ρ x) (opnd fr st x)) {op : BinOp} {t yt : TypeId} {x y : Operand} {r : R} {a b : ByteArray} (hx : od fr st true x = .sc (.string a)) (hy : od fr st true y = .sc (.string b)) (h : strT op a b = some r) :
  ∃ u, (execOp ρ ⟨dst, .binOp op t x y yt, ty, pos, after, guard⟩).run P w = .ok (.value u) w ∧ r = .val (.sc u) := by
 have ex := od_rv hρ x; rw [hx] at ex; have ex := ex.inv_sc
 have ey := od_rv hρ y; rw [hy] at ey; have ey := ey.inv_sc
 have hg : (eqGuard op t x y (ρ x) (ρ y)).run P w = .ok () w := eqGuard_int (fun _ _ h => by rw [ex] at h; cases h) (fun h => by rw [ex] at h; cases h)
 have fin : ∀ u, (binOp op t (ρ x) (ρ y)).run P w = .ok u w → (execOp ρ ⟨dst, .binOp op t x y yt, ty, pos, after, guard⟩).run P w = .ok (.value u) w := fun u hu => run_v (by rw [Sem.run_bind, hg, Result.andThen_ok, hu])
 rw [ex, ey] at fin
 have hl : ∀ n : Nat, n ≤ 1000000 → ¬ ((n : Int) > IntKind.i64.max) := fun n hn => by
  have : IntKind.i64.max = 9223372036854775807 := by decide
  rw [this]; omega
 cases op <;> simp only [strT] at h <;> try cases h
 ·obtain ⟨hb, hr⟩ := chk_inv h; cases hr
  rw [ble_dec] at hb
  refine ⟨_, fin (.string (a ++ b)) ?_, by rw [bytes_cat]⟩
  simp only [binOp, Op.stringOp, if_neg (hl _ (of_decide_eq_true hb)), Sem.run_pure]
 all_goals refine ⟨_, fin _ (by simp only [binOp, Op.stringOp, Sem.run_pure]; rfl), by simp only [bytes_toList]⟩
theorem run_strSl (hρ : ∀ x, RV G F st.mem w (ρ x) (opnd fr st x)) {t : TypeId} {x : Operand} {lo hi mx : Option Operand} {r : R} (ht : tstr P t = true) (h : StrSl fr st x lo hi mx r) :
  ∃ u, (execOp ρ ⟨dst, .slice t x lo hi mx, ty, pos, after, guard⟩).run P w = .ok (.value u) w ∧ r = .val (.sc u) := by
 obtain ⟨s, a, b, hx, ha, hb, rfl, h0, h1, h2, rfl⟩ := h
 have ex := od_rv hρ x; rw [hx] at ex; have ex := ex.inv_sc
 have hbd : ∀ (o : Option Operand) (c : Option Int), bound (o.map (od fr st true)) = some c → bnd ρ o c := fun o c h => by
  cases o with
  | none => cases h; exact trivial
  | some o =>
    simp only [Option.map_some, bound] at h
    split at h
    ·rename_i hh; cases hh
    ·rename_i k i hh
     cases h
     have e := od_rv hρ o; rw [Option.some.inj hh] at e
     exact ⟨k, e.inv_sc⟩
    ·cases h
 have hla := hbd lo a ha
 have hlb := hbd hi b hb
 refine ⟨.string (s.extract (a.getD 0).toNat (b.getD s.size).toNat), run_v ?_, by rw [bytes_cut]⟩
 cases lo <;> cases hi <;> cases a <;> cases b <;> simp only [bnd] at hla hlb <;> try exact hla.elim
 all_goals try exact hlb.elim
 all_goals simp only [Option.getD_some, Option.getD_none] at h0 h1 h2 ⊢
 ·simp [Instr.sliceAt, Instr.slice, ex, run_under (tstr_inv ht), Instr.sliceBounds]
 ·obtain ⟨k, hk⟩ := hlb
  simp [Instr.sliceAt, Instr.slice, ex, run_under (tstr_inv ht), Instr.sliceBounds, hk, run_bound h1 h2]
 ·obtain ⟨k, hk⟩ := hla
  simp [Instr.sliceAt, Instr.slice, ex, run_under (tstr_inv ht), Instr.sliceBounds, hk, run_bound h0 h1]
 ·obtain ⟨k, hk⟩ := hla
  obtain ⟨k', hk'⟩ := hlb
  rename_i _ _ va vb
  have q1 : (0 : Int) ≤ vb := by omega
  have q2 : va ≤ ((vb.toNat : Nat) : Int) := by omega
  simp [Instr.sliceAt, Instr.slice, ex, run_under (tstr_inv ht), Instr.sliceBounds, hk, hk', run_bound q1 h2, run_bound h0 q2]
end
end Go.Avl
