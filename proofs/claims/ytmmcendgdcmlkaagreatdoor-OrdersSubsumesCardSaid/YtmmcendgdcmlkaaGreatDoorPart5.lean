/-
  An empty object, to be grown by rows that are still written.
  Many objects at once: those with the numbers below n (n at most 1000000; the others have greater ones). Renaming, freezing.
  Another test of a drawn region's order: by the slots that its operations name, where the numbers of objects are not known.
  Tables whose rows are slices of their own, still written: the rows are the objects below n.
  Functions that work on objects that are there: what comes of them from given arguments and memory.
  Lists with room behind them.
  Regions that draw their order, the last operation behind all others.
  A box that keeps the front of an object that nobody else keeps: the object cut to it.
  Boxes that keep a whole object: as a view of it from its front.
  Functions whose result is a new slice that nobody else has: it may go on being written.
  A call that cuts the room behind a slice of an object of the caller's.
  Regions that draw their order: operations that wait for each other through others.
  A range over an iterator inside an iterator.
  In an iterator: regions with calls and guards ahead of yield and behind it.
  The test by slots, where operations wait through others.
  The rules once more, with what is shown the same way each time as defaults.
  Regions with calls, with what is shown the same way each time as defaults.
  Facts of the types, printed by a program of this claim's own.
  Lemmas.
-/
import Derived.KernelRfl
import Derived.Test.YtmmcendgdcmlkaaGreatDoorProg
import Derived.Test.YtmmcendgdcmlkaaGreatDoorPart4
set_option linter.unusedSimpArgs false
set_option linter.unusedVariables false
set_option linter.unnecessarySimpa false
set_option linter.deprecated false
namespace Go.Avl
open Go
def St.thaw (i : Nat) (st : St) : Option St :=
 match mlook st.mem i with
 | some (.arr esz [] _) => some ⟨st.vars, st.tmps, mset st.mem i (.arr esz [] false), st.nx⟩
 | _ => none
def St.snapE (j k : Nat) (st : St) : Option St :=
 match mlook st.mem j with
 | some (.arr esz es false) => match es[k]? with
   | some c => some ⟨st.vars, st.tmps, mset st.mem j (.arr esz (es.set k (c.map (AV.deep (snap st.mem)))) false), st.nx⟩
   | none => none
 | _ => none
section
variable {P : Program} {fr : Fr} {ro : Option Nat} {ds : DS} {st st' : St} {Q Q' : Exit → St → Prop} {G G' : Nat → Option Value} {F F' : Nat → Nat → Prop} {a : Act} {w w' : World} {x y c : Code} {M : Mem}
theorem simM_thaw {nx i esz : Nat} {fz : Bool} (hm : SimM P G F M nx w) (ho : mlook M i = some (.arr esz [] fz)) :
  SimM P G F (mset M i (.arr esz [] false)) nx w ∧ Step All G F M w G F (mset M i (.arr esz [] false)) w := by
 have hold := (hm.obj i _ ho).2
 have S : Step All G F M w G F (mset M i (.arr esz [] false)) w :=
  { kept := .refl
    size := Nat.le_refl _
    out := fun _ _ _ => rfl
    F1 := fun _ _ h => h
    F2 := fun _ _ _ => rfl
    F3 := fun b o h => .inl h
    own := fun b ⟨id, o, v, h3, h4, h5⟩ => by
     rw [mlook_mset] at h3
     by_cases hi : id = i
     ·subst hi; exact .inr ⟨id, _, v, ho, h4, h5⟩
     ·rw [if_neg hi] at h3; exact .inr ⟨id, o, v, h3, h4, h5⟩
    some' := fun _ _ h => h
    same := fun _ _ _ h _ => h
    keep := fun id o' _ hG h3 => by
     obtain ⟨v, hv⟩ := Option.ne_none_iff_exists'.1 hG
     rw [mlook_mset] at h3
     by_cases hi : id = i
     ·subst hi
      rw [if_pos rfl] at h3; cases h3
      exact ⟨_, v, v, ho, hv, hv, ⟨rfl, .inl ⟨rfl, rfl⟩⟩⟩
     ·rw [if_neg hi] at h3
      exact ⟨o', v, v, h3, hv, hv, objKeep.refl v o'⟩ }
 have hinj : ∀ id id' v v' b, mlook (mset M i (.arr esz [] false)) id ≠ none → mlook (mset M i (.arr esz [] false)) id' ≠ none → G id = some v → G id' = some v' → blkOf v = some b → blkOf v' = some b → id = id' := by
  intro id id' v v' b h1 h2
  refine hm.inj id id' v v' b ?_ ?_
  ·rw [mlook_mset] at h1; by_cases hi : id = i
   ·subst hi; rw [ho]; simp
   ·rwa [if_neg hi] at h1
  ·rw [mlook_mset] at h2; by_cases hi : id' = i
   ·subst hi; rw [ho]; simp
   ·rwa [if_neg hi] at h2
 refine ⟨simM_gen hm S (fun id o' h => ?_) hinj hm.inF, S⟩
 rw [mlook_mset] at h
 by_cases hi : id = i
 ·subst hi; rw [if_pos rfl] at h; cases h
  refine ⟨(hm.obj id _ ho).1, .inl ?_⟩
  rcases hold with h | ⟨b, c, cc, e, h1, h2, h3, h4, h5, h6, h7, h8, h9⟩
  ·exact .inl h
  ·exact .inr ⟨b, c, cc, e, h1, h2, h3, h4, h5, h6, fun k j hk => absurd hk (Nat.not_lt_zero _), fun o h => absurd (h8 o h).2 (by simp), fun h => (by cases h)⟩
 ·rw [if_neg hi] at h
  exact ⟨(hm.obj id _ h).1, .inr ⟨h, rfl, fun b v hG hb => ⟨rfl, fun _ h => h⟩⟩⟩
theorem SimA.thaw {i : Nat} (s : SimA P fr ds G F st a w) (h : st.thaw i = some st') : SimA P fr ds G F st' a w ∧ Step (· < fr.base) G F st.mem w G F st'.mem w := by
 unfold St.thaw at h
 split at h
 ·rename_i esz fz ho
  cases h
  obtain ⟨hm', S'⟩ := simM_thaw s.sim.mem ho
  exact ⟨⟨⟨hm', fun k => (s.sim.slots k).step S' (fun _ _ => trivial), s.sim.size⟩, s.fresh, s.defers⟩, S'.mono fun _ _ => trivial⟩
 ·cases h
theorem EvC.thaw (i : Nat) (h : st.thaw i = some st') (hc : EvC P fr ro ds c st' Q) : EvC P fr ro ds c st Q :=
 EvC.conv (fun _ _ _ _ s => let ⟨s', S'⟩ := s.thaw h; ⟨_, _, s', S'⟩) hc
theorem simM_snapE {nx j esz k : Nat} {es : List (List AV)} {c0 : List AV} (hm : SimM P G F M nx w) (ho : mlook M j = some (.arr esz es false)) (hk : es[k]? = some c0) :
  SimM P G F (mset M j (.arr esz (es.set k (c0.map (AV.deep (snap M)))) false)) nx w ∧ Step All G F M w G F (mset M j (.arr esz (es.set k (c0.map (AV.deep (snap M)))) false)) w := by
 obtain ⟨es', hes⟩ : ∃ es', es' = es.set k (c0.map (AV.deep (snap M))) := ⟨_, rfl⟩
 rw [← hes]
 have hle : es'.length = es.length := by rw [hes, List.length_set]
 have hold := (hm.obj j _ ho).2
 have S : Step All G F M w G F (mset M j (.arr esz es' false)) w :=
  { kept := .refl
    size := Nat.le_refl _
    out := fun _ _ _ => rfl
    F1 := fun _ _ h => h
    F2 := fun _ _ _ => rfl
    F3 := fun b o h => .inl h
    own := fun b ⟨id, o, v, h3, h4, h5⟩ => by
     rw [mlook_mset] at h3
     by_cases hi : id = j
     ·subst hi; exact .inr ⟨id, _, v, ho, h4, h5⟩
     ·rw [if_neg hi] at h3; exact .inr ⟨id, o, v, h3, h4, h5⟩
    some' := fun _ _ h => h
    same := fun _ _ _ h _ => h
    keep := fun id o' _ hG h3 => by
     obtain ⟨v, hv⟩ := Option.ne_none_iff_exists'.1 hG
     rw [mlook_mset] at h3
     by_cases hi : id = j
     ·subst hi
      rw [if_pos rfl] at h3; cases h3
      exact ⟨_, v, v, ho, hv, hv, ⟨rfl, .inl ⟨hle, rfl⟩⟩⟩
     ·rw [if_neg hi] at h3
      exact ⟨o', v, v, h3, hv, hv, objKeep.refl v o'⟩ }
 have hinj : ∀ id id' v v' b, mlook (mset M j (.arr esz es' false)) id ≠ none → mlook (mset M j (.arr esz es' false)) id' ≠ none → G id = some v → G id' = some v' → blkOf v = some b → blkOf v' = some b → id = id' := by
  intro id id' v v' b h1 h2
  refine hm.inj id id' v v' b ?_ ?_
  ·rw [mlook_mset] at h1; by_cases hi : id = j
   ·subst hi; rw [ho]; simp
   ·rwa [if_neg hi] at h1
  ·rw [mlook_mset] at h2; by_cases hi : id' = j
   ·subst hi; rw [ho]; simp
   ·rwa [if_neg hi] at h2
 refine ⟨simM_gen hm S (fun id o' h => ?_) hinj hm.inF, S⟩
 rw [mlook_mset] at h
 by_cases hi : id = j
 ·subst hi; rw [if_pos rfl] at h; cases h
  refine ⟨(hm.obj id _ ho).1, .inl ?_⟩
  have hkl : k < es.length := (List.getElem?_eq_some_iff.1 hk).1
  have hke : es[k] = c0 := by rw [List.getElem?_eq_getElem hkl] at hk; exact Option.some.inj hk
  rcases hold with ⟨h0, _⟩ | ⟨b, c, cc, e, h1, h2, h3, h4, h5, h6, h7, h8, h9⟩
  ·rw [h0] at hkl; exact absurd hkl (Nat.not_lt_zero _)
  ·refine .inr ⟨b, c, cc, e, by rw [hle]; exact h1, h2, h3, by rw [hle]; exact h4, h5, fun i hi' => ?_, fun i l hi' hl' => ?_, fun o h => absurd (h8 o h).1 (by simp), fun h => (by cases h)⟩
   ·have hi2 : i < es.length := by rw [← hle]; exact hi'
    simp only [hes, List.getElem_set]
    split
    ·rename_i e1; subst e1; rw [List.length_map, ← hke]; exact h6 _ hi2
    ·exact h6 _ hi2
   ·have hi2 : i < es.length := by rw [← hle]; exact hi'
    by_cases e1 : k = i
    ·subst e1
     have e2 : es'[k] = es[k].map (AV.deep (snap M)) := by simp [hes, hke]
     have hl2 : l < es[k].length := by rw [e2, List.length_map] at hl'; exact hl'
     obtain ⟨v, k1, k2, k3⟩ := h7 k l hi2 hl2
     refine ⟨v, k1, k2, ?_⟩
     have e3 : es'[k][l] = AV.deep (snap M) es[k][l] := by simp [e2]
     rw [e3]
     exact (k3.deep fun v y h => h.snap hm).step S fun _ _ => trivial
    ·have e2 : es'[i] = es[i] := by simp [hes, e1]
     have hl2 : l < es[i].length := by rw [e2] at hl'; exact hl'
     obtain ⟨v, k1, k2, k3⟩ := h7 i l hi2 hl2
     have e3 : es'[i][l] = es[i][l] := by simp [e2]
     exact ⟨v, k1, k2, by rw [e3]; exact k3.step S fun _ _ => trivial⟩
 ·rw [if_neg hi] at h
  exact ⟨(hm.obj id _ h).1, .inr ⟨h, rfl, fun b v hG hb => ⟨rfl, fun _ h => h⟩⟩⟩
theorem SimA.snapE {j k : Nat} (s : SimA P fr ds G F st a w) (h : st.snapE j k = some st') : SimA P fr ds G F st' a w ∧ Step (· < fr.base) G F st.mem w G F st'.mem w := by
 unfold St.snapE at h
 split at h
 ·rename_i esz es ho
  split at h
  ·rename_i c0 hk
   cases h
   obtain ⟨hm', S'⟩ := simM_snapE s.sim.mem ho hk
   exact ⟨⟨⟨hm', fun k => (s.sim.slots k).step S' (fun _ _ => trivial), s.sim.size⟩, s.fresh, s.defers⟩, S'.mono fun _ _ => trivial⟩
  ·cases h
 ·cases h
theorem EvC.snapE (j k : Nat) (h : st.snapE j k = some st') (hc : EvC P fr ro ds c st' Q) : EvC P fr ro ds c st Q :=
 EvC.conv (fun _ _ _ _ s => let ⟨s', S'⟩ := s.snapE h; ⟨_, _, s', S'⟩) hc
end
attribute [go_sem] St.snapE
attribute [go_sem] St.thaw
def msegA : Nat → List RObj → Mem
 | _, [] => []
 | b, o :: r => (b, o) :: msegA (b + 1) r
def mseg (l : List RObj) : Mem := msegA 0 l
theorem mlook_msegA : ∀ (l : List RObj) (b i : Nat), mlook (msegA b l) i = if b ≤ i then l[i - b]? else none
 | [], b, i => by simp [msegA, mlook]
 | o :: r, b, i => by
   simp only [msegA, mlook]
   by_cases h : i = b
   ·subst h; simp
   ·rw [if_neg h, mlook_msegA r (b + 1) i]
    by_cases h2 : b ≤ i
    ·rw [if_pos (by omega), if_pos h2, show i - b = (i - (b + 1)) + 1 by omega]; rfl
    ·rw [if_neg (by omega), if_neg h2]
theorem mlook_mseg (l : List RObj) (i : Nat) : mlook (mseg l) i = l[i]? := by rw [mseg, mlook_msegA, if_pos (Nat.zero_le _), Nat.sub_zero]
def idK (n : Nat) : List (Nat × Nat) := (List.range n).map fun i => (i, i)
def segK (A : List (Nat × Nat)) (n : Nat) (B : List (Nat × Nat)) : List (Nat × Nat) := A ++ (idK n ++ B)
theorem renMem_append (M : Mem) (K : List (Nat × Nat)) : ∀ (A B : List (Nat × Nat)), renMem M K (A ++ B) = renMem M K A ++ renMem M K B
 | [], B => rfl
 | (i, j) :: A, B => by
   simp only [List.cons_append, renMem, renMem_append M K A B]
   split <;> simp
theorem renMem_segK (M : Mem) (A B : List (Nat × Nat)) (n : Nat) : renMem M (segK A n B) (segK A n B) = renMem M (segK A n B) A ++ (renMem M (segK A n B) (idK n) ++ renMem M (segK A n B) B) := by
 conv => lhs; arg 3; rw [segK]
 rw [renMem_append, renMem_append]
def St.snapA (j : Nat) (st : St) : Option St :=
 match mlook st.mem j with
 | some (.arr esz es false) => some ⟨st.vars, st.tmps, mset st.mem j (.arr esz (es.map fun c => c.map (AV.deep (snap st.mem))) false), st.nx⟩
 | _ => none
section
variable {P : Program} {fr : Fr} {ro : Option Nat} {ds : DS} {st st' : St} {Q Q' : Exit → St → Prop} {G G' : Nat → Option Value} {F F' : Nat → Nat → Prop} {a : Act} {w w' : World} {x y c : Code} {M : Mem}
theorem simM_snapA {nx j esz : Nat} {es : List (List AV)} (hm : SimM P G F M nx w) (ho : mlook M j = some (.arr esz es false)) :
  SimM P G F (mset M j (.arr esz (es.map fun c => c.map (AV.deep (snap M))) false)) nx w ∧ Step All G F M w G F (mset M j (.arr esz (es.map fun c => c.map (AV.deep (snap M))) false)) w := by
 obtain ⟨es', hes⟩ : ∃ es', es' = es.map fun c => c.map (AV.deep (snap M)) := ⟨_, rfl⟩
 rw [← hes]
 have hle : es'.length = es.length := by rw [hes, List.length_map]
 have hold := (hm.obj j _ ho).2
 have S : Step All G F M w G F (mset M j (.arr esz es' false)) w :=
  { kept := .refl
    size := Nat.le_refl _
    out := fun _ _ _ => rfl
    F1 := fun _ _ h => h
    F2 := fun _ _ _ => rfl
    F3 := fun b o h => .inl h
    own := fun b ⟨id, o, v, h3, h4, h5⟩ => by
     rw [mlook_mset] at h3
     by_cases hi : id = j
     ·subst hi; exact .inr ⟨id, _, v, ho, h4, h5⟩
     ·rw [if_neg hi] at h3; exact .inr ⟨id, o, v, h3, h4, h5⟩
    some' := fun _ _ h => h
    same := fun _ _ _ h _ => h
    keep := fun id o' _ hG h3 => by
     obtain ⟨v, hv⟩ := Option.ne_none_iff_exists'.1 hG
     rw [mlook_mset] at h3
     by_cases hi : id = j
     ·subst hi
      rw [if_pos rfl] at h3; cases h3
      exact ⟨_, v, v, ho, hv, hv, ⟨rfl, .inl ⟨hle, rfl⟩⟩⟩
     ·rw [if_neg hi] at h3
      exact ⟨o', v, v, h3, hv, hv, objKeep.refl v o'⟩ }
 have hinj : ∀ id id' v v' b, mlook (mset M j (.arr esz es' false)) id ≠ none → mlook (mset M j (.arr esz es' false)) id' ≠ none → G id = some v → G id' = some v' → blkOf v = some b → blkOf v' = some b → id = id' := by
  intro id id' v v' b h1 h2
  refine hm.inj id id' v v' b ?_ ?_
  ·rw [mlook_mset] at h1; by_cases hi : id = j
   ·subst hi; rw [ho]; simp
   ·rwa [if_neg hi] at h1
  ·rw [mlook_mset] at h2; by_cases hi : id' = j
   ·subst hi; rw [ho]; simp
   ·rwa [if_neg hi] at h2
 refine ⟨simM_gen hm S (fun id o' h => ?_) hinj hm.inF, S⟩
 rw [mlook_mset] at h
 by_cases hi : id = j
 ·subst hi; rw [if_pos rfl] at h; cases h
  refine ⟨(hm.obj id _ ho).1, .inl ?_⟩
  rcases hold with ⟨h0, h0'⟩ | ⟨b, c, cc, e, h1, h2, h3, h4, h5, h6, h7, h8, h9⟩
  ·exact .inl ⟨by rw [hes, h0]; rfl, h0'⟩
  ·refine .inr ⟨b, c, cc, e, by rw [hle]; exact h1, h2, h3, by rw [hle]; exact h4, h5, fun i hi' => ?_, fun i l hi' hl' => ?_, fun o h => absurd (h8 o h).1 (by simp), fun h => (by cases h)⟩
   ·have hi2 : i < es.length := by rw [← hle]; exact hi'
    simp only [hes, List.getElem_map, List.length_map]
    exact h6 _ hi2
   ·have hi2 : i < es.length := by rw [← hle]; exact hi'
    have e2 : es'[i] = es[i].map (AV.deep (snap M)) := by simp [hes]
    have hl2 : l < es[i].length := by rw [e2, List.length_map] at hl'; exact hl'
    obtain ⟨v, k1, k2, k3⟩ := h7 i l hi2 hl2
    refine ⟨v, k1, k2, ?_⟩
    have e3 : es'[i][l] = AV.deep (snap M) es[i][l] := by simp [e2]
    rw [e3]
    exact (k3.deep fun v y h => h.snap hm).step S fun _ _ => trivial
 ·rw [if_neg hi] at h
  exact ⟨(hm.obj id _ h).1, .inr ⟨h, rfl, fun b v hG hb => ⟨rfl, fun _ h => h⟩⟩⟩
theorem SimA.snapA {j : Nat} (s : SimA P fr ds G F st a w) (h : st.snapA j = some st') : SimA P fr ds G F st' a w ∧ Step (· < fr.base) G F st.mem w G F st'.mem w := by
 unfold St.snapA at h
 split at h
 ·rename_i esz es ho
  cases h
  obtain ⟨hm', S'⟩ := simM_snapA s.sim.mem ho
  exact ⟨⟨⟨hm', fun k => (s.sim.slots k).step S' (fun _ _ => trivial), s.sim.size⟩, s.fresh, s.defers⟩, S'.mono fun _ _ => trivial⟩
 ·cases h
theorem EvC.snapA (j : Nat) (h : st.snapA j = some st') (hc : EvC P fr ro ds c st' Q) : EvC P fr ro ds c st Q :=
 EvC.conv (fun _ _ _ _ s => let ⟨s', S'⟩ := s.snapA h; ⟨_, _, s', S'⟩) hc
end
attribute [go_sem] St.snapA mlook_mseg renMem_segK
section
variable {α : Type}
end
def retB (P : Program) (fr : Fr) (results : List ResultVar) (R : AV → Mem → Nat → Prop) : Exit → St → Prop :=
 fun e st => (e = .ret ∨ e = .normal) ∧ ∃ rs, resAllR P fr st results = some rs ∧ R (mkRes rs) st.mem st.nx
def BodyIs (P : Program) (f : FuncId) (args : List AV) (M : Mem) (nx : Nat) (R : AV → Mem → Nat → Prop) : Prop :=
 ∃ fn c nv hid, P.funcs[f]? = some fn ∧ fn.body = some c ∧ (fn.name == "runtime.NumGoroutine") = false ∧ args.length ≤ fn.ntmps ∧
   ∀ h0 : Nat, EvC P ⟨nx, nv, hid, fn.ntmps⟩ none ⟨h0, none, false⟩ c ⟨vars0 0 args, [], M, nx⟩ (retB P ⟨nx, nv, hid, fn.ntmps⟩ fn.results.toList R)
section
variable {P : Program} {fr : Fr} {ro : Option Nat} {ds : DS} {st st' : St} {Q Q' : Exit → St → Prop} {c : Code} {M : Mem} {ops : Array Oper} {l rest : List Oper} {o : Oper}
theorem BodyIs.of {f : FuncId} {fn : Func} {args : List AV} {nx nv : Nat} {hid : List Nat} {R : AV → Mem → Nat → Prop} (hf : P.funcs[f]? = some fn) (hb : fn.body = some c) (hnm : (fn.name == "runtime.NumGoroutine") = false) (hsz : args.length ≤ fn.ntmps)
  (h : ∀ h0 : Nat, EvC P ⟨nx, nv, hid, fn.ntmps⟩ none ⟨h0, none, false⟩ c ⟨vars0 0 args, [], M, nx⟩ (retB P ⟨nx, nv, hid, fn.ntmps⟩ fn.results.toList R)) : BodyIs P f args M nx R :=
 ⟨fn, c, nv, hid, hf, hb, hnm, hsz, h⟩
theorem BodyIs.mono {f : FuncId} {args : List AV} {nx : Nat} {R R' : AV → Mem → Nat → Prop} (h : BodyIs P f args M nx R) (hr : ∀ r M nx, R r M nx → R' r M nx) : BodyIs P f args M nx R' := by
 obtain ⟨fn, c, nv, hid, h1, h2, h3, h4, h5⟩ := h
 exact ⟨fn, c, nv, hid, h1, h2, h3, h4, fun h0 => (h5 h0).mono fun e st ⟨k1, rs, k2, k3⟩ => ⟨k1, rs, k2, hr _ _ _ k3⟩⟩
theorem XR.callI {f : FuncId} {cs : List AV} {callee : Operand} {args : Array Operand} {tys : Array TypeId} {xs : List AV} (hg : o.guard = none) (hop : o.op = .call ⟨.value callee, args, tys⟩) (hd : dok fr o.dst = true)
  (hcal : od fr st true callee = .fn f cs) (hxs : bodyArgs fr st args ++ cs = xs)
  (hb : BodyIs P f xs st.mem st.nx fun r M' nx' => XR P fr ro ds ops rest ((⟨st.vars, st.tmps, M', nx'⟩ : St).put fr o.dst r) Q) : XR P fr ro ds ops (o :: rest) st Q := by
 obtain ⟨fn, c, nv, hid, h1, h2, h3, h4, h5⟩ := hb
 exact XR.callB nv hid hg hop hd hcal hxs h1 h2 h3 h4 fun h0 => (h5 h0).mono fun e st ⟨k1, rs, k2, k3⟩ => ⟨k1, rs, k2, k3⟩
end
attribute [go_sem] resAllR resOneR bodyArgs
section
variable {P : Program} {fr : Fr} {ro : Option Nat} {ds : DS} {st st' : St} {Q : Exit → St → Prop} {G G' : Nat → Option Value} {F F' : Nat → Nat → Prop} {a : Act} {w w' : World}
 {M M' : Mem} {ops : Array Oper} {o : Oper} {id N : Nat} {S S' : Nat → Bool} {d : Option Nat} {r : Rc} {x y : Nat} {l : List It}
theorem trun_pre {all : List Oper} : ∀ {l : List Oper} {id : Nat} {st : St} {ok : Bool} {its : List It} {st' : St} {rest : List Oper} {id' : Nat}, trun P fr all l id st = .stop ok its st' rest id' → ok = true →
  ∃ pre, l = pre ++ rest ∧ id' = id + its.length ∧ Tr P fr ro ds all.toArray id pre st its st'
 | [], id, st, ok, its, st', rest, id', h, _ => by simp only [trun] at h; cases h
 | o :: l, id, st, ok, its, st', rest, id', h, hok => by
   have stopCase : trun P fr all (o :: l) id st = .stop true [] st (o :: l) id → ∃ pre, o :: l = pre ++ rest ∧ id' = id + its.length ∧ Tr P fr ro ds all.toArray id pre st its st' := fun h1 => by
    rw [h1] at h; cases h
    exact ⟨[], rfl, rfl, .nil _ _⟩
   have goCase : ∀ {b : Bool} {r : Rc} {rd : List Nat}, trun P fr all (o :: l) id st = (trun P fr all l (id + 1) (run1 fr o.dst r st)).cons b ⟨o, r, rd⟩ →
     (b = true → OpIs P fr ro ds all.toArray id st ⟨o, r, rd⟩) → ∃ pre, o :: l = pre ++ rest ∧ id' = id + its.length ∧ Tr P fr ro ds all.toArray id pre st its st' := by
    intro b r rd h1 h2
    rw [h1] at h
    cases hres : trun P fr all l (id + 1) (run1 fr o.dst r st) with
    | done ok its st1 => rw [hres] at h; simp only [TRes.cons] at h; cases h
    | stop ok1 its1 st1 rest1 id1 =>
      rw [hres] at h
      simp only [TRes.cons] at h
      cases h
      simp only [Bool.and_eq_true] at hok
      obtain ⟨pre, e1, e2, t⟩ := trun_pre hres hok.2
      exact ⟨o :: pre, by rw [e1]; rfl, by rw [e2]; simp; omega, .cons (h2 hok.1) t⟩
   cases hd : dok fr o.dst with
   | false => exact stopCase (by simp only [trun, hd])
   | true =>
     cases hg : o.guard with
     | none =>
       cases he : efRc id (xop P fr st true id o) with
       | none => exact stopCase (by simp only [trun, hd, hg, he])
       | some p =>
         obtain ⟨b, r⟩ := p
         exact goCase (by simp only [trun, hd, hg, he]) fun hb => .op hg hd he hb rfl
     | some p =>
       obtain ⟨j, want⟩ := p
       cases hj : gslot all.toArray j with
       | none => exact stopCase (by simp only [trun, hd, hg, hj])
       | some k =>
         cases hk : gval want (st.get fr k) with
         | none => exact stopCase (by simp only [trun, hd, hg, hj, hk])
         | some g =>
           cases he : efRcG g (xop P fr st g id o) with
           | none => exact stopCase (by simp only [trun, hd, hg, hj, hk, he])
           | some p =>
             obtain ⟨b, r⟩ := p
             exact goCase (by simp only [trun, hd, hg, hj, hk, he]) fun hb => .guard hg hj hk hd he hb rfl
def TrTo (P : Program) (fr : Fr) (ro : Option Nat) (ds : DS) (ops : Array Oper) (id : Nat) (l : List Oper) (st : St) (its : List It) (st' : St) (rest : List Oper) : Prop :=
 ∃ pre, l = pre ++ rest ∧ Tr P fr ro ds ops id pre st its st'
theorem TrTo.cons {l rest : List Oper} {rd : List Nat} {its : List It} (h : OpIs P fr ro ds ops id st ⟨o, r, rd⟩) (t : TrTo P fr ro ds ops (id + 1) l (run1 fr o.dst r st) its st' rest) : TrTo P fr ro ds ops id (o :: l) st (⟨o, r, rd⟩ :: its) st' rest := by
 obtain ⟨pre, rfl, t⟩ := t
 exact ⟨o :: pre, rfl, .cons h t⟩
theorem TrTo.run {all l rest rest' : List Oper} {ok : Bool} {its its2 : List It} {id' : Nat} {st2 : St} (h : trun P fr all l id st = .stop ok its st' rest id') (hok : ok = true) (t : TrTo P fr ro ds all.toArray id' rest st' its2 st2 rest') : TrTo P fr ro ds all.toArray id l st (its ++ its2) st2 rest' := by
 obtain ⟨pre, e1, e2, t1⟩ := trun_pre (ro := ro) (ds := ds) h hok
 obtain ⟨pre2, e3, t2⟩ := t
 subst e3
 subst e1
 exact ⟨pre ++ pre2, by rw [List.append_assoc], t1.append e2 t2⟩
end
def St.shrinkC (k j : Nat) (st : St) : Option St :=
 match mlook st.mem k with
 | some (.cells cs) => match cs[j]? with
   | some (.tv i n 0 len .rest) => match mlook st.mem i with
     | some (.arr esz es false) => if n = es.length then some ⟨st.vars, st.tmps, mset ((st.nx, .arr esz (es.take len) false) :: mdel st.mem i) k (.cells (cs.set j (.tl st.nx len false))), st.nx + 1⟩ else none
     | _ => none
   | _ => none
 | _ => none
section
variable {P : Program} {fr : Fr} {ro : Option Nat} {ds : DS} {st st' : St} {Q Q' : Exit → St → Prop} {G G' : Nat → Option Value} {F F' : Nat → Nat → Prop} {a : Act} {w w' : World} {x y c : Code} {M : Mem}
 {ops : Array Oper} {l rest : List Oper}
theorem simM_shrink {nx i esz n len b c' : Nat} {es : List (List AV)} (hm : SimM P G F M nx w) (hf : ∀ j, nx ≤ j → G j = none) (ho : mlook M i = some (.arr esz es false)) (hG : G i = some (.slice (some ⟨b, 0, none⟩) n c')) (hc0 : c' ≠ 0) (hn : n = es.length) (hlen : len ≤ n) :
  SimM P (upG G nx (.slice (some ⟨b, 0, none⟩) len c')) F ((nx, .arr esz (es.take len) false) :: mdel M i) (nx + 1) w ∧ Step All G F M w (upG G nx (.slice (some ⟨b, 0, none⟩) len c')) F ((nx, .arr esz (es.take len) false) :: mdel M i) w := by
 have htl : (es.take len).length = len := by rw [List.length_take]; omega
 have hob := (hm.obj i _ ho)
 have hne : i ≠ nx := Nat.ne_of_lt hob.1
 obtain ⟨G1, hG1⟩ : ∃ G1, G1 = upG G nx (.slice (some ⟨b, 0, none⟩) len c') := ⟨_, rfl⟩
 obtain ⟨M1, hM1⟩ : ∃ M1 : Mem, M1 = (nx, .arr esz (es.take len) false) :: mdel M i := ⟨_, rfl⟩
 rw [← hG1, ← hM1]
 have hlk : ∀ j, mlook M1 j = if j = nx then some (.arr esz (es.take len) false) else if j = i then none else mlook M j := fun j => by
  rw [hM1]; simp only [mlook]
  by_cases hj : j = nx
  ·rw [if_pos hj, if_pos hj]
  ·rw [if_neg hj, if_neg hj, mlook_mdel']
 have hgo : ∀ j, j ≠ nx → G1 j = G j := fun j hj => by rw [hG1, upG_other G _ hj]
 have hgs : G1 nx = some (.slice (some ⟨b, 0, none⟩) len c') := by rw [hG1, upG_self]
 have hbk : blkOf (.slice (some ⟨b, 0, none⟩) n c') = some b := by simp [blkOf, hc0]
 have hbk0 : blkOf (.slice (some ⟨b, 0, none⟩) len c') = some b := by simp [blkOf, hc0]
 have S : Step All G F M w G1 F M1 w :=
  { kept := .refl
    size := Nat.le_refl _
    out := fun _ _ _ => rfl
    F1 := fun _ _ h => h
    F2 := fun _ _ _ => rfl
    F3 := fun _ _ h => .inl h
    own := fun b' ⟨id, o, v, h1, h2, h3⟩ => by
     rw [hlk] at h1
     by_cases hj : id = nx
     ·subst hj
      rw [hgs] at h2; cases h2
      rw [hbk0] at h3; cases h3
      exact .inr ⟨i, _, _, ho, hG, hbk⟩
     ·rw [if_neg hj] at h1
      rw [hgo id hj] at h2
      split at h1
      ·cases h1
      ·exact .inr ⟨id, o, v, h1, h2, h3⟩
    some' := fun id _ hid => by
     by_cases hj : id = nx
     ·subst hj; rw [hgs]; simp
     ·rw [hgo id hj]; exact hid
    same := fun id v _ hid _ => by
     have hj : id ≠ nx := fun e => by rw [e, hf _ (Nat.le_refl _)] at hid; cases hid
     rw [hgo id hj]; exact hid
    keep := fun id o' _ hid h1 => by
     have hj : id ≠ nx := fun e => hid (by rw [e]; exact hf _ (Nat.le_refl _))
     rw [hlk, if_neg hj] at h1
     obtain ⟨v, hv⟩ := Option.ne_none_iff_exists'.1 hid
     split at h1
     ·cases h1
     ·exact ⟨o', v, v, h1, hv, (hgo id hj).trans hv, objKeep.refl v o'⟩ }
 have hm' : SimM P G1 F M1 (nx + 1) w := by
  refine simM_gen hm S (fun id o' h1 => ?_) (fun id id' v v' b' h1 h2 h3 h4 h5 h6 => ?_) hm.inF
  ·rw [hlk] at h1
   by_cases hj : id = nx
   ·subst hj
    rw [if_pos rfl] at h1; cases h1
    refine ⟨Nat.lt_succ_self _, .inl ?_⟩
    rcases hob.2 with ⟨_, base, h1, _⟩ | ⟨b2, c2, cc, e, k1, k2, k3, k4, k5, k6, k7, k8, k9⟩
    ·rw [hG] at h1; cases h1; exact absurd rfl hc0
    ·rw [hG] at k1; cases k1
     refine .inr ⟨b, c', cc, e, by rw [hgs, htl], hc0, k3, by rw [htl]; omega, k5, fun i h => by rw [List.getElem_take]; exact k6 _ _, fun i j h hj => ?_, fun o h => ?_, fun h => by cases h⟩
     ·simp only [List.getElem_take] at hj ⊢
      obtain ⟨v, q1, q2, q3⟩ := k7 i j (by rw [htl] at h; omega) hj
      exact ⟨v, q1, q2, q3.step S fun _ _ => trivial⟩
     ·have := (k8 o h).1
      cases this
   ·rw [if_neg hj] at h1
    split at h1
    ·cases h1
    ·exact ⟨Nat.lt_succ_of_lt (hm.obj id o' h1).1, .inr ⟨h1, hgo id hj, fun b v _ _ => ⟨rfl, fun _ h => h⟩⟩⟩
  ·have back : ∀ {id : Nat} {v : Value}, mlook M1 id ≠ none → G1 id = some v → blkOf v = some b' → (id = nx ∧ b' = b) ∨ (id ≠ nx ∧ id ≠ i ∧ mlook M id ≠ none ∧ G id = some v) := fun {id v} q1 q2 q3 => by
     by_cases hj : id = nx
     ·subst hj
      rw [hgs] at q2; cases q2
      rw [hbk0] at q3; cases q3
      exact .inl ⟨rfl, rfl⟩
     ·rw [hlk, if_neg hj] at q1
      rw [hgo id hj] at q2
      by_cases hi : id = i
      ·rw [if_pos hi] at q1; exact absurd rfl q1
      ·rw [if_neg hi] at q1; exact .inr ⟨hj, hi, q1, q2⟩
   have hio : mlook M i ≠ none := by rw [ho]; simp
   rcases back h1 h3 h5 with ⟨e1, e2⟩ | ⟨q1, q2, q3, q4⟩ <;> rcases back h2 h4 h6 with ⟨e3, e4⟩ | ⟨p1, p2, p3, p4⟩
   ·rw [e1, e3]
   ·subst e2
    exact absurd (hm.inj id' i _ _ _ p3 hio p4 hG h6 hbk) p2
   ·subst e4
    exact absurd (hm.inj id i _ _ _ q3 hio q4 hG h5 hbk) q2
   ·exact hm.inj id id' _ _ _ q3 p3 q4 p4 h5 h6
 exact ⟨hm', S⟩
theorem SimA.shrinkC {k j : Nat} (s : SimA P fr ds G F st a w) (h : st.shrinkC k j = some st') : ∃ G', SimA P fr ds G' F st' a w ∧ Step (· < fr.base) G F st.mem w G' F st'.mem w := by
 unfold St.shrinkC at h
 split at h
 ·rename_i cs hok
  split at h
  ·rename_i i n len hj
   split at h
   ·rename_i esz es ho
    split at h
    rotate_left
    ·cases h
    rename_i hn
    cases h
    obtain ⟨hin, b, cc, el, k1, k2, k3, k4, k5⟩ := s.sim.mem.obj k _ hok
    obtain ⟨hjl, hjv⟩ := List.getElem?_eq_some_iff.1 hj
    have hv := k4 j (by omega) hjl
    rw [hjv] at hv
    obtain ⟨hG0, hh⟩ := hv.inv_tv
    obtain ⟨hol, b', c, hG, hc0, c', hval, _, hcp⟩ := (hh _ _ _ ho).2 hn
    replace hc0 : c ≠ 0 := hc0.resolve_right fun h => by cases h.2.1
    have hcc : c' = c := by
     rcases hcp with h | h | ⟨_, h⟩
     ·cases h
     ·cases h
     ·omega
    subst hcc
    rw [Nat.zero_mul] at hval
    have hki : k ≠ i := fun e => by rw [e, ho] at hok; cases hok
    obtain ⟨hm', S'⟩ := simM_shrink (len := len) s.sim.mem s.fresh ho hG hc0 hn (by omega)
    have hne : k ≠ st.nx := Nat.ne_of_lt hin
    obtain ⟨M1, hM1⟩ : ∃ M1 : Mem, M1 = ((st.nx, RObj.arr esz (es.take len) false) :: mdel st.mem i) := ⟨_, rfl⟩
    obtain ⟨G1, hG1⟩ : ∃ G1, G1 = upG G st.nx (.slice (some ⟨b', 0, none⟩) len c') := ⟨_, rfl⟩
    rw [← hM1, ← hG1] at hm' S'
    have ho1 : mlook M1 k = some (.cells cs) := by rw [hM1, mlook_cons, if_neg hne, mlook_mdel', if_neg hki]; exact hok
    have hgi : G1 k = some (.pointer (some ⟨b, 0, none⟩)) := by rw [hG1, upG_other G _ hne]; exact k1
    have harr : ∀ {id esz' es fz}, mlook (mset M1 k (.cells (cs.set j (.tl st.nx len false)))) id = some (.arr esz' es fz) → mlook M1 id = some (.arr esz' es fz) := fun {id esz' es fz} h => by
     rw [mlook_mset] at h
     split at h
     ·cases h
     ·exact h
    have hrv : ∀ {v : Value} {x : AV}, RV G1 F M1 w v x → RV G1 F (mset M1 k (.cells (cs.set j (.tl st.nx len false)))) w v x := fun h => by
     induction h with
     | imm h => exact .imm h
     | ag vs cs hl _ ih => exact .ag vs cs hl ih
     | tu vs cs hl _ ih => exact .tu vs cs hl ih
     | ifc t v x _ ih => exact .ifc t v x ih
     | fn f vs cs hl _ ih => exact .fn f vs cs hl ih
     | opt b v x _ h' ih => exact .opt b v x ih h'
     | rf id off b h => exact .rf id off b h
     | tl id len nl v hG h => exact .tl id len nl v hG fun esz es fz ho => h esz es fz (harr ho)
     | tv id n off len cap v hG h => exact .tv id n off len cap v hG fun esz es fz ho => h esz es fz (harr ho)
     | ea id n i off v hG h => exact .ea id n i off v hG fun esz es fz ho => h esz es fz (harr ho)
     | mp id b h => exact .mp id b h
    have hsome : ∀ id, mlook (mset M1 k (.cells (cs.set j (.tl st.nx len false)))) id ≠ none → mlook M1 id ≠ none := fun id h he => by
     rw [mlook_mset] at h
     split at h
     ·rename_i e; subst e; rw [ho1] at he; cases he
     ·exact h he
    have hobj : ∀ {id o}, ObjOk P G1 F M1 w id o → ObjOk P G1 F (mset M1 k (.cells (cs.set j (.tl st.nx len false)))) w id o := fun {id o} h => by
     cases o with
     | cells cs => obtain ⟨b, c, e, k1, k2, k3, k4, k5⟩ := h; exact ⟨b, c, e, k1, k2, k3, fun i a b => hrv (k4 i a b), k5⟩
     | arr esz es fz =>
       rcases h with h | ⟨b, c, cc, e, k1, k2, k3, k4, k5, k6, k7, k8⟩
       ·exact .inl h
       ·exact .inr ⟨b, c, cc, e, k1, k2, k3, k4, k5, k6, fun i j a b => let ⟨v, x, y, z⟩ := k7 i j a b; ⟨v, x, y, hrv z⟩, k8⟩
     | map kt es => obtain ⟨b, ents, clock, k1, k2, k3, k4, k5⟩ := h; exact ⟨b, ents, clock, k1, k2, k3, fun i a b => let ⟨x, y, z⟩ := k4 i a b; ⟨x, hrv y, z⟩, k5⟩
    have S2 : Step All G1 F M1 w G1 F (mset M1 k (.cells (cs.set j (.tl st.nx len false)))) w :=
     { kept := .refl, size := Nat.le_refl _
       out := fun _ _ _ => rfl
       F1 := fun _ _ h => h
       F2 := fun _ _ _ => rfl
       F3 := fun _ _ h => .inl h
       own := fun b ⟨id, o, v, h1, h2, h3⟩ => .inr (by
        obtain ⟨o', ho'⟩ := Option.ne_none_iff_exists'.1 (hsome id (by rw [h1]; simp))
        exact ⟨id, o', v, ho', h2, h3⟩)
       some' := fun _ _ h => h
       same := fun _ _ _ h _ => h
       keep := fun id o _ hG h1 => by
        obtain ⟨v, hvG⟩ := Option.ne_none_iff_exists'.1 hG
        rw [mlook_mset] at h1
        by_cases e : id = k
        ·rw [if_pos e] at h1
         cases h1
         subst e
         exact ⟨_, v, v, ho1, hvG, hvG, rfl⟩
        ·rw [if_neg e] at h1
         exact ⟨o, v, v, h1, hvG, hvG, objKeep.refl v o⟩ }
    have htl : (es.take len).length = len := by rw [List.length_take]; omega
    rw [← hM1]
    refine ⟨G1, ⟨⟨⟨fun id o h => ?_, fun id id' v v' b h1 h2 => hm'.inj id id' v v' b (hsome _ h1) (hsome _ h2), hm'.inF, hm'.gl⟩, fun k => hrv ((s.sim.slots k).step S' fun _ _ => trivial), s.sim.size⟩, fun k hk => ?_, s.defers⟩, (S'.trans S2).mono fun _ _ => trivial⟩
    ·rw [mlook_mset] at h
     by_cases e : id = k
     ·rw [if_pos e] at h
      cases h
      subst e
      refine ⟨Nat.lt_succ_of_lt hin, b, cc, el, hgi, k2, by rw [List.length_set]; exact k3, fun q q1 q2 => ?_, k5⟩
      by_cases hq : q = j
      ·subst hq
       rw [List.getElem_set_self, hval]
       refine .tl st.nx len false _ (by rw [hG1, upG_self]; simp) fun esz' es' fz hx => ?_
       rw [mlook_mset, if_neg (Ne.symm hne), hM1, mlook_cons, if_pos rfl] at hx; cases hx
       exact ⟨by rw [htl]; exact Nat.le_refl _, fun _ => ⟨by rw [hG1]; exact upG_self _ _ _, rfl⟩⟩
      ·rw [List.getElem_set_ne (Ne.symm hq)]
       exact hrv ((k4 q q1 (by simpa using q2)).step S' fun _ _ => trivial)
     ·rw [if_neg e] at h
      exact ⟨(hm'.obj id o h).1, hobj (hm'.obj id o h).2⟩
    ·have hk : st.nx + 1 ≤ k := hk
     rw [hG1, upG_other G _ (by omega)]; exact s.fresh k (by omega)
   ·cases h
  ·cases h
 ·cases h
theorem EvC.shrinkC (k j : Nat) {st' : St} (h : st.shrinkC k j = some st') (hc : EvC P fr ro ds c st' Q) : EvC P fr ro ds c st Q :=
 EvC.conv (fun _ F _ _ s => let ⟨G', s', S'⟩ := s.shrinkC h; ⟨G', F, s', S'⟩) hc
attribute [go_sem] St.shrinkC
end
def tvOf (M : Mem) (i : Nat) : AV → AV
 | .tl j n b => if j = i ∧ n ≠ 0 then match mlook M i with
   | some (.arr _ es _) => if n = es.length then .tv i n 0 n .rest else .tl j n b
   | _ => .tl j n b else .tl j n b
 | v => v
def St.toTv (i : Nat) (st : St) : St := ⟨st.vars, st.tmps, memMap (tvOf st.mem i) st.mem, st.nx⟩
section
variable {P : Program} {fr : Fr} {ro : Option Nat} {ds : DS} {st st' : St} {Q Q' : Exit → St → Prop} {G G' : Nat → Option Value} {F F' : Nat → Nat → Prop} {a : Act} {w w' : World} {c : Code}
theorem tvOf_rv {M : Mem} {nx i : Nat} (hm : SimM P G F M nx w) {v : Value} {y : AV} (h : RV G F M w v y) : RV G F M w v (tvOf M i y) := by
 unfold tvOf
 split
 ·rename_i j n b
  split
  ·rename_i hj
   obtain ⟨rfl, h0⟩ := hj
   split
   ·rename_i esz es fz ho
    split
    ·rename_i hn
     exact h.tl_tv hm ho hn h0
    ·exact h
   ·exact h
  ·exact h
 ·exact h
theorem EvC.toTv (i : Nat) (hc : EvC P fr ro ds c (st.toTv i) Q) : EvC P fr ro ds c st Q :=
 EvC.conv (fun _ F _ _ s => let ⟨s', S'⟩ := s.memMap (f := tvOf st.mem i) fun _ _ h => tvOf_rv s.sim.mem h; ⟨_, F, s', S'⟩) hc
theorem EvC.mergeS {α : Type} (sh : α → St) (ok : α → Prop) (L : List Nat) (nx : Nat) {c rest : Code} (h1 : EvC P fr ro ds c st (fun e st' => e = .normal ∧ ∃ (K : List (Nat × Nat)) (a : α), gcOk fr.base nx K = true ∧ st'.gc L K nx = sh a ∧ ok a))
  (h2 : ∀ a, ok a → EvC P fr ro ds rest (sh a) Q) : EvC P fr ro ds (.seq c rest) st Q :=
 .seq (h1.mono fun e st' ⟨he, K, a, hk, hs, ha⟩ => by
  subst he
  show EvC P fr ro ds rest st' Q
  exact .gc L K nx hk (by rw [hs]; exact h2 a ha))
theorem EvC.mergeC {α : Type} (sh : α → St) (ok : α → Prop) {c rest : Code} (h1 : EvC P fr ro ds c st (fun e st' => e = .normal ∧ ∃ a : α, ok a ∧ ∀ (c : Code) (Q : Exit → St → Prop), EvC P fr ro ds c (sh a) Q → EvC P fr ro ds c st' Q))
  (h2 : ∀ a, ok a → EvC P fr ro ds rest (sh a) Q) : EvC P fr ro ds (.seq c rest) st Q :=
 .seq (h1.mono fun e st' ⟨he, a, ha, hc⟩ => by
  subst he
  exact hc _ _ (h2 a ha))
theorem EvC.gcE {c : Code} {Q : Exit → St → Prop} (L : List Nat) (K : List (Nat × Nat)) (nx : Nat) {st2 : St} (hk : gcOk fr.base nx K = true) (he : st.gc L K nx = st2) (h : EvC P fr ro ds c st2 Q) : EvC P fr ro ds c st Q := .gc L K nx hk (by rw [he]; exact h)
end
attribute [go_sem] St.toTv tvOf
def newRes (F : Nat → Nat → Prop) (w : World) (esz : Nat) (es : List (List AV)) (e : Ending) (w' : World) : Prop :=
 ∃ (b c : Nat) (cc : Array Value) (elem : TypeId) (F' : Nat → Nat → Prop), e = .returned (.slice (some ⟨b, 0, none⟩) es.length c) ∧ c ≠ 0 ∧ w.heap.size ≤ b ∧ w'.heap[b]? = some (.cells cc elem (0, 0)) ∧ es.length ≤ c ∧ cc.size = c * esz ∧
   (∀ i (h : i < es.length), es[i].length = esz) ∧ (∀ i j (h : i < es.length) (h' : j < es[i].length), ∃ v, cc[i * esz + j]? = some v ∧ v.oneCell' = true ∧ Imm F' w' v es[i][j]) ∧ (∀ o, ¬ F' b o) ∧ Grown F w F' w'
def PureNew (P : Program) (f : FuncId) (args : List AV) (esz : Nat) (es : List (List AV)) : Prop :=
 callable P f ∧ ∀ F w vals, FOk F w → Imms F w vals args → CallsIn Fence.wide 0 P f vals.toArray w fun e w' => newRes F w esz es e w'
def retN (P : Program) (fr : Fr) (results : List ResultVar) (esz : Nat) (es : List (List AV)) (e : Exit) (st : St) : Prop :=
 (e = .ret ∨ e = .normal) ∧ ∃ (r0 : AV) (i : Nat), resAllR P fr st results = some [r0] ∧ (r0 = .tl i es.length false ∨ r0 = .tv i es.length 0 es.length .rest) ∧ mlook st.mem i = some (.arr esz es false) ∧ es.length ≠ 0 ∧ es.all AV.norefs = true
section
variable {P : Program} {fr : Fr} {ro : Option Nat} {ds : DS} {st st' : St} {Q Q' : Exit → St → Prop} {G G' : Nat → Option Value} {F F' : Nat → Nat → Prop} {a : Act} {w w' : World} {M M' : Mem}
 {ops : Array Oper} {l rest : List Oper} {o : Oper} {N id : Nat} {rd gs : List Nat}
theorem PureNew.of {c : Code} {f : FuncId} {fn : Func} {args : List AV} {esz : Nat} {es : List (List AV)} {nv : Nat} {hid : List Nat} (hf : P.funcs[f]? = some fn) (hb : fn.body = some c) (hnm : (fn.name == "runtime.NumGoroutine") = false) (hsz : args.length ≤ fn.ntmps)
  (h : ∀ h0 : Nat, EvC P ⟨0, nv, hid, fn.ntmps⟩ none ⟨h0, none, false⟩ c (st0 args) (retN P ⟨0, nv, hid, fn.ntmps⟩ fn.results.toList esz es)) : PureNew P f args esz es := by
 refine ⟨callable_of hf hnm (by rw [hb]; rfl), fun F w vals hF hi => ?_⟩
 obtain ⟨hl, hi⟩ := hi
 have s0 : SimA P ⟨0, nv, hid, fn.ntmps⟩ ⟨w.heap.size, none, false⟩ (fun _ => none) F (st0 args) { tmps := vals.toArray ++ Array.replicate (fn.ntmps - vals.toArray.size) undef, defers := [] } w := by
  refine ⟨⟨⟨fun id o h => (by cases h), fun id id' v v' b h => absurd rfl h, hF.1, hF.2⟩, fun k => ?_, by simp; omega⟩, fun _ _ => rfl, Marks.none _ _ _ (Nat.le_refl _)⟩
  have key : ∀ x, (x = .junk ∨ ∃ h : k < args.length, x = args[k]) → RV (fun _ => none) F (st0 args).mem w ((vals.toArray ++ Array.replicate (fn.ntmps - vals.toArray.size) undef).getD k undef) x := by
   rintro x (rfl | ⟨hk, rfl⟩)
   ·exact .imm (.junk _)
   ·have : (vals.toArray ++ Array.replicate (fn.ntmps - vals.toArray.size) undef).getD k undef = vals[k]'(by omega) := by
      rw [Array.getD_eq_getD_getElem?, Array.getElem?_append_left (by simp; omega)]
      simp [List.getElem?_eq_getElem (show k < vals.length by omega)]
    rw [this]
    exact .imm (hi k (by omega) hk)
  refine key _ ?_
  unfold St.get
  split
  ·rcases alook_vars0 args 0 k with h | ⟨h1, h2, h3⟩
   ·exact .inl h
   ·exact .inr ⟨by simpa using h1, by simpa [st0] using h3⟩
  ·exact .inl rfl
 refine callsIn_of_wp_marks (F := Fence.wide) hf hb trivial (wpIn_mono (h _ _ _ _ _ _ _ _ _ .refl s0) ?_)
 rintro e a' w' ⟨G', F', st', s', S', he, r0, i, hrs, hr0, ho, hne, hnr⟩
 have hown : ∀ b, Owned G' st'.mem b → w.heap.size ≤ b := fun b hb => (S'.own b hb).elim id fun ⟨_, _, _, h, _⟩ => by cases h
 have g : ∀ w2 : World, w.heap.size ≤ w2.heap.size → (∀ b, b < w.heap.size → w2.heap[b]? = w.heap[b]?) → Kept w w2 → (∀ b o, F' b o → b < w2.heap.size) → Grown F w F' w2 := fun w2 h1 h2 h3 h4 =>
  ⟨h1, h2, S'.F1, fun b o h => by
   rcases S'.F3 b o h with h | h | ⟨_, _, _, h, _⟩
   ·exact .inl h
   ·exact .inr h
   ·exact (by cases h), h4, h3⟩
 have hfin : ∀ (Ds : List Nat) (w2 : World), Ds.Nodup → (∀ D ∈ Ds, w.heap.size ≤ D ∧ w2.heap[D]? = some (.deferred (some []))) → w.heap.size ≤ w2.heap.size → (∀ b, b < w.heap.size → w2.heap[b]? = w.heap[b]?) → Kept w w2 →
   SimA P ⟨0, nv, hid, fn.ntmps⟩ ⟨w.heap.size, none, false⟩ G' F' st' { a' with defers := [] } w2 →
   LeavesInM Fence.wide 0 P fn a'.tmps (fun e w' => newRes F w esz es e w') (Ds.map dmark) .returning w2 := by
  intro Ds
  induction Ds with
  | nil =>
    intro w2 _ _ h1 h2 h3 s2
    obtain ⟨u, k1, k2⟩ := resultsR_ok s2 hrs
    have hu : u = u := rfl
    refine ⟨u, k1, ?_⟩
    have k2 : RV G' F' st'.mem w2 u r0 := k2
    have hv : G' i = some u ∧ isNilSlice u = false := by
     rcases hr0 with rfl | rfl
     ·obtain ⟨_, hh⟩ := k2.inv_tl
      obtain ⟨q1, q2⟩ := (hh _ _ _ ho).2 rfl
      exact ⟨q1, q2.symm⟩
     ·obtain ⟨_, hh⟩ := k2.inv_tv
      obtain ⟨_, b, c, hG, hc0, c', hval, _, hcp⟩ := (hh _ _ _ ho).2 rfl
      subst hval
      have hc0 : c ≠ 0 := hc0.resolve_right fun h => hne h.1
      rcases hcp with h | h | ⟨h, _⟩
      ·cases h
      ·cases h
      ·have : c' = c := by omega
       subst this
       exact ⟨by rw [hG, Nat.zero_mul], rfl⟩
    obtain ⟨hGi, _⟩ := hv
    rcases (s2.sim.mem.obj i _ ho).2 with ⟨h0, _⟩ | ⟨b, c, cc, el, q1, q2, q3, q4, q5, q6, q7, q8, _⟩
    ·subst h0; exact absurd rfl hne
    ·rw [hGi] at q1
     cases q1
     refine ⟨b, c, cc, el, F', rfl, q2, hown b ⟨i, _, _, ho, hGi, by simp [blkOf, q2]⟩, q3, q4, q5, q6, fun k j hk hj => ?_, fun o hF => (by cases (q8 o hF).1), g w2 h1 h2 h3 s2.sim.mem.inF⟩
     obtain ⟨v, hv, h1c, hr⟩ := q7 k j hk hj
     exact ⟨v, hv, h1c, hr.imm_of (all_norefs hnr k j hk hj)⟩
  | cons D Ds ih =>
    intro w2 hnd hD h1 h2 h3 s2
    obtain ⟨d1, d2⟩ := hD D List.mem_cons_self
    have hnd := List.nodup_cons.1 hnd
    have hk : ∀ (b : Nat) (o : Obj), w2.heap[b]? = some o → isData o = true → (w2.putObj D (.deferred none)).heap[b]? = some o := fun b o hb ho => by
     rw [World.putObj_heap_other (by rintro rfl; rw [d2] at hb; cases hb; cases ho)]; exact hb
    refine ⟨(by intro h; cases h), .inl ⟨D, _, rfl, run_takeDeferred d2, ih _ hnd.2 (fun D' hD' => ?_) (by rw [World.putObj_size]; exact h1) (fun b hb => ?_) (h3.trans (.set d2 rfl rfl)) ?_⟩⟩
    ·refine ⟨(hD D' (List.mem_cons_of_mem _ hD')).1, ?_⟩
     rw [World.putObj_heap_other (by rintro rfl; exact hnd.1 hD')]; exact (hD D' (List.mem_cons_of_mem _ hD')).2
    ·rw [World.putObj_heap_other (by omega)]; exact h2 b hb
    ·exact ⟨⟨s2.sim.mem.keepData hk (by rw [World.putObj_size]; exact Nat.le_refl _), fun k => (s2.sim.slots k).keepData hk, s2.sim.size⟩, s2.fresh, Marks.none _ _ _ (by rw [World.putObj_size]; exact h1)⟩
 obtain ⟨⟨Ds, hDs, hnd, hD⟩, _⟩ := s'.defers
 have := hfin Ds w' hnd hD S'.size (fun b hb => S'.out b hb (fun ⟨_, _, _, h, _⟩ => by cases h)) S'.kept ⟨⟨s'.sim.mem, s'.sim.slots, s'.sim.size⟩, s'.fresh, Marks.none _ _ _ S'.size⟩
 rw [← hDs] at this
 rcases he with rfl | rfl
 ·exact this
 ·exact this
theorem simM_grownNew {nx b : Nat} (hm : SimM P G F M nx w) (g : Grown F w F' w') (hid : G id = none) (hn : id < nx) (h : Value) (ob : RObj) (hb : blkOf h = some b) (hb1 : w.heap.size ≤ b)
  (S' : Step All G F M w (upG G id h) F' ((id, ob) :: M) w' → ObjOk P (upG G id h) F' ((id, ob) :: M) w' id ob) :
  SimM P (upG G id h) F' ((id, ob) :: M) nx w' ∧ Step All G F M w (upG G id h) F' ((id, ob) :: M) w' := by
 have hne : ∀ j, G j ≠ none → j ≠ id := fun j hj e => hj (e ▸ hid)
 have S : Step All G F M w (upG G id h) F' ((id, ob) :: M) w' :=
  { kept := g.kept
    size := g.size
    out := fun b hb _ => g.old b hb
    F1 := g.F1
    F2 := fun b o' hF => cell?_same (g.old b (hm.inF b o' hF)) o'
    F3 := fun b o h => (g.F3 b o h).imp (fun h => h) fun h => .inl h
    own := fun b1 ⟨j, o', v, ho, hv, hbv⟩ => by
     by_cases e : j = id
     ·subst e
      rw [upG_self] at hv; cases hv
      rw [hb] at hbv; cases hbv
      exact .inl hb1
     ·rw [mlook_cons, if_neg e] at ho
      rw [upG_other G h e] at hv
      exact .inr ⟨j, o', v, ho, hv, hbv⟩
    some' := fun j _ hj => by rw [upG_other G h (hne j hj)]; exact hj
    same := fun j v _ hj _ => by rw [upG_other G h (hne j (by simp [hj]))]; exact hj
    keep := fun j o' _ hj ho => by
     have e := hne j hj
     rw [mlook_cons, if_neg e] at ho
     cases hv : G j with
     | none => exact absurd hv hj
     | some v => exact ⟨o', v, v, ho, rfl, by rw [upG_other G h e]; exact hv, objKeep.refl v o'⟩ }
 refine ⟨simM_gen hm S (fun j o' ho => ?_) (fun i j v v' b1 hi hj hv hv' hbv hbv' => ?_) g.inF, S⟩
 ·by_cases e : j = id
  ·subst e
   rw [mlook_cons, if_pos rfl] at ho; cases ho
   exact ⟨hn, .inl (S' S)⟩
  ·rw [mlook_cons, if_neg e] at ho
   refine ⟨(hm.obj j o' ho).1, .inr ⟨ho, upG_other G h e, fun b1 v hv hbv => ?_⟩⟩
   have hlt : b1 < w.heap.size := hm.lt ⟨j, o', v, ho, hv, hbv⟩
   exact ⟨g.old b1 hlt, fun o h => by rcases g.F3 b1 o h with h | h; exact h; omega⟩
 ·have old : ∀ j v, j ≠ id → mlook ((id, ob) :: M) j ≠ none → upG G id h j = some v → mlook M j ≠ none ∧ G j = some v := fun j v e h1 h2 =>
    ⟨by rwa [mlook_cons, if_neg e] at h1, by rwa [upG_other G h e] at h2⟩
  have lt : ∀ j v, mlook M j ≠ none → G j = some v → blkOf v = some b1 → b1 < w.heap.size := fun j v h1 h2 h3 => by
   cases ho : mlook M j with
   | none => exact absurd ho h1
   | some o' => exact hm.lt ⟨j, o', v, ho, h2, h3⟩
  by_cases ei : i = id
  ·by_cases ej : j = id
   ·rw [ei, ej]
   ·subst ei
    rw [upG_self] at hv; cases hv
    obtain ⟨h1, h2⟩ := old j v' ej hj hv'
    have := lt j v' h1 h2 hbv'
    rw [hb] at hbv; cases hbv
    omega
  ·by_cases ej : j = id
   ·subst ej
    rw [upG_self] at hv'; cases hv'
    obtain ⟨h1, h2⟩ := old i v ei hi hv
    have := lt i v h1 h2 hbv
    rw [hb] at hbv'; cases hbv'
    omega
   ·obtain ⟨h1, h2⟩ := old i v ei hi hv
    obtain ⟨h3, h4⟩ := old j v' ej hj hv'
    exact hm.inj i j v v' b1 h1 h3 h2 h4 hbv hbv'
theorem SimD.callN {f : FuncId} {cs : List AV} {callee : Operand} {args : Array Operand} {tys : Array TypeId} {xs : List AV} {esz : Nat} {es : List (List AV)} {K : Act → World → Prop} {Q1 : Exit → Act → World → Prop}
  (s : SimD P fr ds G F st N a w) (hN : id < N) (hid : G id = none) (hop : o.op = .call ⟨.value callee, args, tys⟩) (hd : dok fr o.dst = true) (hcal : od fr st true callee = .fn f cs)
  (hxs : callArgs fr st args ++ cs = xs) (hn : AV.norefs xs = true) (hc : PureNew P f xs esz es)
  (h : ∀ G' F' a' w', SimD P fr ds G' F' (run1 fr o.dst ⟨.tl id es.length false, some (id, .arr esz es false)⟩ st) N a' w' → Step All G F st.mem w G' F' (run1 fr o.dst ⟨.tl id es.length false, some (id, .arr esz es false)⟩ st).mem w' → (∀ j, j ≠ id → G j = none → G' j = none) → K a' w') : o.wpIn (fc ro) 0 P a w K Q1 := by
 refine ⟨fun _ _ => trivial, ?_⟩
 rw [Oper.semAt_eq _ _ _ (by rw [hop]; intro c h; cases h)]
 have hv := (s.eval callee).unopt
 have hv : RV G F st.mem w (a.eval callee) (.fn f cs) := by unfold od at hcal; rwa [hcal] at hv
 obtain ⟨vs, hev, hl, hcs⟩ := hv.inv_fn
 have hrun : (execOp a.eval o).run P w = .ok (.enter f ((args.toList.map a.eval ++ vs).toArray)) w := by
  obtain ⟨dst, op, ty, pos, after, guard⟩ := o
  simp only at hop
  subst hop
  simp only [execOp, resolve, hev, Deferred.ofValue, Sem.run_bind, Sem.run_pure, Result.andThen_ok, invoke]
  rw [hc.1]
  congr 2
  apply Array.ext'
  simp
 rw [hrun]
 have hi : Imms F w (args.toList.map a.eval ++ vs) xs := by
  subst hxs
  refine .of_rv (G := G) (M := st.mem) (by simp [callArgs, hl]) (fun i h1 h2 => ?_) hn
  by_cases hlt : i < args.toList.length
  ·rw [List.getElem_append_left (by simpa using hlt), List.getElem_append_left (by simpa [callArgs] using hlt)]
   simp only [callArgs, List.getElem_map]
   exact ((s.eval _).unopt).snap s.mem
  ·rw [List.getElem_append_right (by simpa using hlt), List.getElem_append_right (by simpa [callArgs] using hlt)]
   simp only [List.length_map, callArgs]
   exact hcs _ _ _
 refine ⟨fun h => by simp [fc, Fence.wide] at h, callsIn_fc ((hc.2 F w _ s.mem.fok hi).mono ?_)⟩
 rintro e w' ⟨b, c, cc, el, F', rfl, q2, qb, q3, q4, q5, q6, q7, q8, g⟩
 obtain ⟨hm', S'⟩ := simM_grownNew (id := id) s.mem g hid hN (.slice (some ⟨b, 0, none⟩) es.length c) (.arr esz es false) (by simp [blkOf, q2]) qb fun S =>
  .inr ⟨b, c, cc, el, upG_self _ _ _, q2, q3, q4, q5, q6, fun i j hi hj => by
   obtain ⟨v, k1, k2, k3⟩ := q7 i j hi hj
   exact ⟨v, k1, k2, .imm k3⟩, fun o hF => absurd hF (q8 o), fun hz => by cases hz⟩
 have hmid : mlook st.mem id = none := s.mem.noM hid
 obtain ⟨s1, S1⟩ := s.put (d := o.dst) (r := ⟨.tl id es.length false, some (id, .arr esz es false)⟩) (u := .slice (some ⟨b, 0, none⟩) es.length c) hm' (fun i => by
  simp only [Rc.mem]
  rw [mlook_mset, mlook_cons]) S' hd (.tl id es.length false _ (by rw [upG_self]; simp) fun esz' es' fz' ho => by
   rw [mlook_cons, if_pos rfl] at ho; cases ho
   exact ⟨Nat.le_refl _, fun _ => ⟨upG_self _ _ _, rfl⟩⟩)
 exact h _ _ _ w' s1 S1 fun j hj hG => by rw [upG_other G _ hj]; exact hG
theorem OpIs.callN {f : FuncId} {cs : List AV} {callee : Operand} {args : Array Operand} {tys : Array TypeId} {xs : List AV} {esz : Nat} {es : List (List AV)} (hg : o.guard = none) (hop : o.op = .call ⟨.value callee, args, tys⟩) (hd : dok fr o.dst = true)
  (hcal : od fr st true callee = .fn f cs) (hxs : callArgs fr st args ++ cs = xs) (hn : AV.norefs xs = true) (hrd : rdOf fr st [] o = rd) (hc : PureNew P f xs esz es) : OpIs P fr ro ds ops id st ⟨o, ⟨.tl id es.length false, some (id, .arr esz es false)⟩, rd⟩ := by
 intro st' G F a w N K Q1 s hN hG hl h
 simp only [Region.wanted, hg, if_true]
 obtain ⟨e1, e2⟩ := callArgs_look (gs := []) (by rw [hrd]; exact hl) hop
 exact s.callN hN hG hop hd (by rw [e1]; exact hcal) (by rw [e2]; exact hxs) hn hc h
end
section
variable {P : Program} {fr : Fr} {ro : Option Nat} {ds : DS} {st st' : St} {Q Q' : Exit → St → Prop} {G G' : Nat → Option Value} {F F' : Nat → Nat → Prop} {a : Act} {w w' : World} {M M' : Mem}
 {ops : Array Oper} {l rest : List Oper} {o : Oper} {N id : Nat} {rd gs : List Nat}
def Clips (P : Program) (f : FuncId) : Prop := ∀ (a : Addr) (n c : Nat), n ≤ c → (n : Int) < 1000000 → PureIs P f [.sc (.slice (some a) n c)] (.sc (.slice (some a) n n))
theorem OpIs.clip {f : FuncId} {callee x : Operand} {tys : Array TypeId} {i n esz : Nat} {nl fz : Bool} {es : List (List AV)} (hg : o.guard = none) (hop : o.op = .call ⟨.value callee, #[x], tys⟩) (hd : dok fr o.dst = true)
  (hcal : od fr st true callee = .fn f []) (hx : od fr st true x = .tl i n nl) (ho : mlook st.mem i = some (.arr esz es fz)) (hn : n = es.length) (h0 : n ≠ 0) (hlt : (n : Int) < 1000000) (hrd : rdOf fr st [] o = rd) (hc : Clips P f) :
  OpIs P fr ro ds ops id st ⟨o, ⟨.tv i n 0 n (.val n), none⟩, rd⟩ := by
 intro st' G F a w N K Q1 s hN hG hl h
 simp only [Region.wanted, hg, if_true]
 have hs := opSame_look (gs := []) (by rw [hrd]; exact hl) (by rw [hop]; rfl) (by rw [hop]; rfl)
 rw [hop] at hs
 have e1 : od fr st' true callee = .fn f [] := by rw [(hs.od (x := callee) (by simp [Op.operands, Call.operands]) true).1, hcal]
 obtain ⟨e2, e3⟩ := hs.od (x := x) (by simp [Op.operands, Call.operands]) true
 have e4 : mlook st'.mem i = some (.arr esz es fz) := by rw [e3 i (by rw [hx]; simp [AV.ids])]; exact ho
 rw [hx] at e2
 refine ⟨fun _ _ => trivial, ?_⟩
 rw [Oper.semAt_eq _ _ _ (by rw [hop]; intro c h; cases h)]
 have hv := (s.eval callee).unopt
 have hv : RV G F st'.mem w (a.eval callee) (.fn f []) := by unfold od at e1; rwa [e1] at hv
 obtain ⟨vs, hev, hl2, _⟩ := hv.inv_fn
 have hvs : vs = [] := by cases vs with
  | nil => rfl
  | cons a l => simp at hl2
 subst hvs
 have hxv := (s.eval x).unopt
 have hxv : RV G F st'.mem w (a.eval x) (.tl i n nl) := by unfold od at e2; rwa [e2] at hxv
 obtain ⟨hGi, hnl, va, vc, hval, hcase⟩ := tl_handle s.mem hxv e4 hn
 rcases hcase with ⟨h1, _⟩ | ⟨b, cc, el, rfl, k2, k3, k4, _⟩
 ·subst h1; exact absurd hn h0
 have hrun : (execOp a.eval o).run P w = .ok (.enter f #[a.eval x]) w := by
  obtain ⟨dst, op, ty, pos, after, guard⟩ := o
  simp only at hop
  subst hop
  simp only [execOp, resolve, hev, Deferred.ofValue, Sem.run_bind, Sem.run_pure, Result.andThen_ok, invoke]
  rw [(hc ⟨b, 0, none⟩ n vc (by omega) hlt).1]
  congr 2
  all_goals (apply Array.ext'; simp)
 rw [hrun]
 rw [← hn] at hval
 have hi : Imms F w [a.eval x] [.sc (.slice (some ⟨b, 0, none⟩) n vc)] := ⟨rfl, fun j h1 h2 => by
  have : j = 0 := by simp at h1; omega
  subst this
  simp only [List.getElem_cons_zero]
  rw [hval, hn]; exact .sc _⟩
 refine ⟨fun h => by simp [fc, Fence.wide] at h, callsIn_fc (((hc ⟨b, 0, none⟩ n vc (by omega) hlt).2 F w _ s.mem.fok hi).mono ?_)⟩
 rintro e w' ⟨u, F', rfl, hu, g⟩
 obtain ⟨hm', S'⟩ := simM_grown s.mem g
 have hu' : u = .slice (some ⟨b, 0, none⟩) n n := by cases hu; rfl
 subst hu'
 obtain ⟨s1, S1⟩ := s.put (d := o.dst) (r := ⟨.tv i n 0 n (.val n), none⟩) (u := .slice (some ⟨b, 0, none⟩) n n) hm' (fun _ => rfl) S' hd (.tv i n 0 n _ _ (by rw [hGi]; simp) fun esz' es' fz' ho' => by
  rw [e4] at ho'; cases ho'
  exact ⟨by omega, fun _ => ⟨by omega, b, vc, by rw [hGi, hval, hn], .inl k2, n, by rw [Nat.zero_mul], Nat.le_refl _, .inr (.inl rfl)⟩⟩)
 exact h G F' _ w' s1 S1 (fun _ _ h => h)
end
inductive Anc (l : List It) : Nat → Nat → Prop
 | base {i m : Nat} {t : It} (h : l[i]? = some t) (hm : m ∈ depsOf t.o) : Anc l i m
 | step {i e m : Nat} {t : It} (h : l[i]? = some t) (he : e ∈ depsOf t.o) (h2 : Anc l e m) : Anc l i m
def ancB (l : List It) : Nat → Nat → Nat → Bool
 | 0, _, _ => false
 | k + 1, i, m => match l[i]? with
   | none => false
   | some t => (depsOf t.o).contains m || (depsOf t.o).any fun e => ancB l k e m
theorem ancB_spec {l : List It} : ∀ {k i m : Nat}, ancB l k i m = true → Anc l i m
 | 0, _, _, h => by cases h
 | k + 1, i, m, h => by
   simp only [ancB] at h
   split at h
   ·cases h
   ·rename_i t ht
    rw [Bool.or_eq_true] at h
    rcases h with h | h
    ·exact .base ht (by simpa using h)
    ·rw [List.any_eq_true] at h
     obtain ⟨e, he, h⟩ := h
     exact .step ht he (ancB_spec h)
structure ConfA (l : List It) : Prop where
 back : ∀ i t, l[i]? = some t → ∀ e ∈ depsOf t.o, e < i
 edge : ∀ i m t u, l[i]? = some t → l[m]? = some u → i ≠ m → ∀ x, (x ∈ t.rd ∨ x ∈ wl t.o.dst t.r) → x ∈ wl u.o.dst u.r → Anc l i m ∨ Anc l m i
theorem ConfA.lt {l : List It} (hc : ConfA l) {i m : Nat} (h : Anc l i m) : m < i := by
 induction h with
 | base h hm => exact hc.back _ _ h _ hm
 | step h he _ ih => have := hc.back _ _ h _ he; omega
theorem Anc.closed {l : List It} {p : Nat → Bool} (hcl : ∀ i t, l[i]? = some t → p i = true → ∀ e ∈ depsOf t.o, p e = true) {i m : Nat} (h : Anc l i m) (hi : p i = true) : p m = true := by
 induction h with
 | base h hm => exact hcl _ _ h hi _ hm
 | step h he _ ih => exact ih (hcl _ _ h hi _ he)
theorem Anc.ready {l : List It} {p : Nat → Bool} (hcl : ∀ i t, l[i]? = some t → p i = true → ∀ e ∈ depsOf t.o, p e = true) {i m : Nat} {t : It} (h : Anc l i m) (ht : l[i]? = some t) (hd : ∀ e ∈ depsOf t.o, p e = true) : p m = true := by
 cases h with
 | base h hm => rw [ht] at h; cases h; exact hd _ hm
 | step h he h2 => rw [ht] at h; cases h; exact h2.closed hcl (hd _ he)
def confOneA (all : List It) (i : Nat) (t : It) : Nat → List It → Bool
 | _, [] => true
 | m, u :: l => (i == m || !((t.rd ++ wl t.o.dst t.r).any fun x => (wl u.o.dst u.r).contains x) || ancB all 4 i m || ancB all 4 m i) && confOneA all i t (m + 1) l
def confAllA (all : List It) : Nat → List It → Bool
 | _, [] => true
 | i, t :: l => (depsOf t.o).all (fun e => decide (e < i)) && confOneA all i t 0 all && confAllA all (i + 1) l
section
variable {P : Program} {fr : Fr} {ro : Option Nat} {ds : DS} {st st' : St} {Q : Exit → St → Prop} {G G' : Nat → Option Value} {F F' : Nat → Nat → Prop} {a : Act} {w w' : World}
 {M M' : Mem} {ops : Array Oper} {o : Oper} {id N : Nat} {S S' : Nat → Bool} {d : Option Nat} {r : Rc} {x y : Nat} {l : List It}
theorem confOneA_spec {all : List It} {i : Nat} {t : It} : ∀ (l : List It) (m0 : Nat), confOneA all i t m0 l = true → ∀ m u, l[m]? = some u → i ≠ m0 + m → ∀ x, (x ∈ t.rd ∨ x ∈ wl t.o.dst t.r) → x ∈ wl u.o.dst u.r → Anc all i (m0 + m) ∨ Anc all (m0 + m) i := by
 intro l
 induction l with
 | nil => intro m0 _ m u hm; simp at hm
 | cons u0 l ih =>
   intro m0 h m u hm hne x hx hu
   simp only [confOneA, Bool.and_eq_true] at h
   cases m with
   | zero =>
     have e : u0 = u := by simpa using hm
     subst e
     have h1 := h.1
     simp only [Bool.or_eq_true, beq_iff_eq, Bool.not_eq_true'] at h1
     rcases h1 with ((h1 | h1) | h1) | h1
     ·exact absurd h1 (by simpa using hne)
     ·rw [List.any_eq_false] at h1
      exact absurd (by simpa using hu) (h1 x (List.mem_append.2 hx))
     ·exact .inl (ancB_spec h1)
     ·exact .inr (ancB_spec h1)
   | succ m =>
     have := ih (m0 + 1) h.2 m u (by simpa using hm) (by omega) x hx hu
     rwa [show m0 + 1 + m = m0 + (m + 1) by omega] at this
theorem confAllA_spec {all : List It} : ∀ (l : List It) (i0 : Nat), confAllA all i0 l = true → ∀ i t, l[i]? = some t → (∀ e ∈ depsOf t.o, e < i0 + i) ∧ confOneA all (i0 + i) t 0 all = true := by
 intro l
 induction l with
 | nil => intro i0 _ i t ht; simp at ht
 | cons t0 l ih =>
   intro i0 h i t ht
   simp only [confAllA, Bool.and_eq_true, List.all_eq_true, decide_eq_true_eq] at h
   cases i with
   | zero =>
     have e : t0 = t := by simpa using ht
     subst e
     exact ⟨h.1.1, h.1.2⟩
   | succ i =>
     have := ih (i0 + 1) h.2 i t (by simpa using ht)
     rwa [show i0 + 1 + i = i0 + (i + 1) by omega] at this
theorem ConfA.of (h : confAllA l 0 l = true) : ConfA l where
 back := fun i t ht => by simpa using (confAllA_spec l 0 h i t ht).1
 edge := fun i m t u ht hu hne x hx hxu => by
  have := confOneA_spec l 0 (by simpa using (confAllA_spec l 0 h i t ht).2) m u hu (by simpa using hne) x hx hxu
  simpa using this
theorem drawAnyA {nx : Nat} {l : List It} {st : St} {G0 : Nat → Option Value} {F0 : Nat → Nat → Prop} {M0 : Mem} {w0 : World} (hops : ∀ i : Nat, (ops[i]? : Option Oper) = (l[i]?).map fun t => t.o) (hn : ops.size = l.length) (hc : ConfA l)
  (his : ∀ i t, l[i]? = some t → OpIs P fr ro ds ops (nx + i) (foldS fr (fun j => decide (j < i)) 0 l st) t)
  (hQ : ∀ G F a w, SimD P fr ds G F (foldS fr (fun _ => true) 0 l st) (nx + l.length) a w → (∀ j, nx + l.length ≤ j → G j = none) → Step (· < fr.base) G0 F0 M0 w0 G F (foldS fr (fun _ => true) 0 l st).mem w → Post P fr ds G0 F0 M0 w0 Q .normal a w) :
  ∀ (fuel : Nat) (listed : Array Bool) (G : Nat → Option Value) (F : Nat → Nat → Prop) (a : Act) (w : World), listed.size = l.length →
    SimD P fr ds G F (foldS fr (inS listed) 0 l st) (nx + l.length) a w → Step (· < fr.base) G0 F0 M0 w0 G F (foldS fr (inS listed) 0 l st).mem w →
    (∀ j, nx ≤ j → (∀ i, i < l.length → inS listed i = true → j ≠ nx + i) → G j = none) →
    (∀ i t, l[i]? = some t → inS listed i = true → ∀ e ∈ depsOf t.o, inS listed e = true) →
    (List.range l.length).countP (fun i => !inS listed i) ≤ fuel →
    wpAnyIn (fc ro) 0 P .any ops (Post P fr ds G0 F0 M0 w0 Q) fuel listed a w := by
 have allDone : ∀ (listed : Array Bool) (G : Nat → Option Value) (F : Nat → Nat → Prop) (a : Act) (w : World), SimD P fr ds G F (foldS fr (inS listed) 0 l st) (nx + l.length) a w → Step (· < fr.base) G0 F0 M0 w0 G F (foldS fr (inS listed) 0 l st).mem w →
   (∀ j, nx ≤ j → (∀ i, i < l.length → inS listed i = true → j ≠ nx + i) → G j = none) → (∀ i, i < l.length → inS listed i = true) → Post P fr ds G0 F0 M0 w0 Q .normal a w := by
  intro listed G F a w s S hfr hall
  have e : foldS fr (inS listed) 0 l st = foldS fr (fun _ => true) 0 l st := foldS_congr fun m hm => by rw [Nat.zero_add]; exact hall m hm
  rw [e] at s S
  exact hQ G F a w s (fun j hj => hfr j (by omega) fun i hi _ => by omega) S
 have readyOf : ∀ (listed : Array Bool), listed.size = l.length → ∀ i, i ∈ Region.ready .any ops listed ↔ inS listed i = false ∧ ∃ t, l[i]? = some t ∧ ∀ e ∈ depsOf t.o, inS listed e = true := by
  intro listed hsz i
  rw [mem_ready]
  constructor
  ·rintro ⟨h1, o, ho, h2⟩
   rw [hops] at ho
   obtain ⟨t, ht, rfl⟩ := Option.map_eq_some_iff.1 ho
   have hi : i < l.length := (List.getElem?_eq_some_iff.1 ht).1
   refine ⟨?_, t, ht, fun e he => ?_⟩
   ·unfold inS
    rw [Array.getD_eq_getD_getElem?] at h1 ⊢
    rw [Array.getElem?_eq_getElem (by omega)] at h1 ⊢
    exact h1
   ·simp only [depsOf, List.mem_map, List.mem_filter] at he
    obtain ⟨e', ⟨he1, he2⟩, rfl⟩ := he
    exact h2 e' (by simpa using he1) he2
  ·rintro ⟨h1, t, ht, h2⟩
   have hi : i < l.length := (List.getElem?_eq_some_iff.1 ht).1
   refine ⟨?_, t.o, by rw [hops, ht]; rfl, fun e he hb => h2 e.on ?_⟩
   ·unfold inS at h1
    rw [Array.getD_eq_getD_getElem?] at h1 ⊢
    rw [Array.getElem?_eq_getElem (by omega)] at h1 ⊢
    exact h1
   ·simp only [depsOf, List.mem_map, List.mem_filter]
    exact ⟨e, ⟨by simpa using he, hb⟩, rfl⟩
 have noneReady : ∀ (listed : Array Bool), listed.size = l.length → Region.ready .any ops listed = [] → ∀ i, i < l.length → inS listed i = true := by
  intro listed hsz hr i
  induction i using Nat.strongRecOn with
  | _ i ih =>
    intro hi
    cases hs : inS listed i with
    | true => rfl
    | false =>
      have : i ∈ Region.ready .any ops listed := (readyOf listed hsz i).2 ⟨hs, l[i], List.getElem?_eq_getElem hi, fun e he => by
       have := hc.back i l[i] (List.getElem?_eq_getElem hi) e he
       exact ih e this (by omega)⟩
      rw [hr] at this; cases this
 intro fuel
 induction fuel with
 | zero =>
   intro listed G F a w hsz s S hfr hcl hcount
   have hall : ∀ i, i < l.length → inS listed i = true := by
    intro i hi
    have h0 : (List.range l.length).countP (fun i => !inS listed i) = 0 := by omega
    rw [List.countP_eq_zero] at h0
    have := h0 i (by simpa using hi)
    simpa using this
   refine ⟨?_, allDone listed G F a w s S hfr hall⟩
   cases hr : Region.ready .any ops listed with
   | nil => rfl
   | cons i rs =>
     have := (readyOf listed hsz i).1 (by rw [hr]; exact List.mem_cons_self)
     obtain ⟨h1, t, ht, _⟩ := this
     rw [hall i (List.getElem?_eq_some_iff.1 ht).1] at h1; cases h1
 | succ fuel ih =>
   intro listed G F a w hsz s S hfr hcl hcount
   refine ⟨fun hr => allDone listed G F a w s S hfr (noneReady listed hsz hr), fun i hi => ?_⟩
   obtain ⟨hSi, t, ht, hdep⟩ := (readyOf listed hsz i).1 hi
   have hil : i < l.length := (List.getElem?_eq_some_iff.1 ht).1
   unfold wpOpIn
   rw [hops, ht]
   simp only [Option.map_some]
   have hadd : ∀ j, inS (listed.setIfInBounds i true) j = addS (inS listed) i j := by
    intro j
    unfold inS addS
    simp only [Array.getD_eq_getD_getElem?, Array.getElem?_setIfInBounds]
    by_cases h : i = j
    ·subst h
     simp [show i < listed.size by omega]
    ·simp [h, Ne.symm h]
   have hfold : foldS fr (inS (listed.setIfInBounds i true)) 0 l st = foldS fr (addS (inS listed) i) 0 l st := foldS_congr fun m _ => hadd _
   have hlook : ∀ x, look fr (foldS fr (inS (listed.setIfInBounds i true)) 0 l st) x = look fr (run1 fr t.o.dst t.r (foldS fr (inS listed) 0 l st)) x := by
    intro x
    rw [hfold]
    refine foldS_add ht hSi (fun m u hu hlt hSm x hx => ?_) x
    cases hw : wrt u.o.dst u.r x with
    | none => rfl
    | some v =>
      exfalso
      rcases hc.edge i m t u ht hu (by omega) x (.inr (wrt_wl hx)) (wrt_wl (by rw [hw]; rfl)) with h | h
      ·have := hc.lt h; omega
      ·have := h.closed hcl hSm
       rw [hSi] at this; cases this
   refine his i t ht _ G F a w (nx + l.length) _ _ s (by omega) (hfr _ (by omega) fun i' _ hS' he => ?_) (fun x hx => ?_) (fun G' F' a' w' s' S' hfr' => ?_)
   ·have : i = i' := by omega
    subst this
    rw [hSi] at hS'; cases hS'
   ·rw [look_foldS, look_foldS]
    refine lastW_agree l 0 _ fun m u hu hw => ?_
    rw [Nat.zero_add]
    by_cases hmi : m = i
    ·subst hmi; rw [hSi]; simp
    ·rcases hc.edge i m t u ht hu (fun h => hmi h.symm) x (.inl hx) (wrt_wl hw) with h | h
     ·have := hc.lt h
      rw [h.ready hcl ht hdep]; simp [this]
     ·have h1 := hc.lt h
      cases hSm : inS listed m with
      | false => simp; omega
      | true =>
        have := h.closed hcl hSm
        rw [hSi] at this; cases this
   ·refine ih _ G' F' a' w' (by simpa using hsz) (s'.ext hlook) ((S.trans (S'.mono fun _ _ => trivial)).ext (look_mem hlook)) (fun j hj hne => ?_) (fun i' t' ht' hS' e he => ?_) ?_
    ·refine hfr' j (hne i hil (by rw [hadd]; simp [addS])) (hfr j hj fun i' hi' hS' => hne i' hi' (by rw [hadd]; simp [addS, hS']))
    ·rw [hadd] at hS' ⊢
     simp only [addS, Bool.or_eq_true, decide_eq_true_eq] at hS' ⊢
     rcases hS' with hS' | rfl
     ·exact .inl (hcl i' t' ht' hS' e he)
     ·rw [ht] at ht'; cases ht'
      exact .inl (hdep e he)
    ·have := countP_less (p := fun i => !inS listed i) (q := fun j => !inS (listed.setIfInBounds i true) j) hil (by simp [hSi]) (by simp only [hadd]; simp [addS]) (fun j hj => by
       rw [hadd] at hj
       simp only [addS, Bool.not_or, Bool.and_eq_true] at hj
       exact hj.1)
     omega
theorem EvC.drawA {idr : Nat} {l : List Oper} {its : List It} (hm : P.follows .mixedOrders = true) (ht : Tr P fr ro ds l.toArray st.nx l st.clr its st') (hc : confAllA its 0 its = true)
  (hq : Q .normal ⟨st'.vars, st'.tmps, st'.mem, st.nx + its.length⟩) : EvC P fr ro ds (.region idr l.toArray true) st Q := by
 intro G0 F0 M0 w0 G F a w S s
 obtain ⟨h1, h2, h3⟩ := ht.spec
 obtain ⟨hm', S'⟩ := simM_drew (w' := { w with drawn := w.drawn + 1 }) (s.clr.sim.mem.more (Nat.le_add_right _ its.length)) rfl ⟨rfl, rfl, rfl, fun _ => rfl, .refl⟩
 have hlen : l.length = its.length := by rw [← h1]; simp
 refine wpIn_region_any hm ?_
 have hnone : ∀ i, inS (Array.replicate l.toArray.size false) i = false := fun i => by
  unfold inS
  simp only [Array.getD_eq_getD_getElem?, Array.getElem?_replicate]
  split <;> rfl
 have e : foldS fr (inS (Array.replicate l.toArray.size false)) 0 its st.clr = st.clr := by
  have : ∀ (l' : List It) (m : Nat) (st : St), foldS fr (inS (Array.replicate l.toArray.size false)) m l' st = st := by
   intro l'
   induction l' with
   | nil => intro m st; rfl
   | cons u l' ih => intro m st; simp only [foldS]; rw [hnone]; exact ih _ _
  exact this _ _ _
 refine drawAnyA (l := its) (nx := st.nx) (st := st.clr) (fun i => by rw [← h1]; simp) (by simp [hlen]) (ConfA.of hc) h2 (fun G F a w s hfr S => ?_) _ _ G F a _ (by simp [hlen]) ?_ ?_ (fun j hj _ => s.fresh j hj) (fun i t _ h => by rw [hnone] at h; cases h) ?_
 ·refine ⟨G, F, _, ⟨⟨?_, fun k => ?_, s.size⟩, hfr, s.defers⟩, ?_, hq⟩
  ·rw [h3]; exact s.mem
  ·have := s.slots k
   rw [← h3] at this
   exact this
  ·rw [← h3] at S; exact S
 ·rw [e]
  exact ⟨hm', fun k => (s.clr.sim.slots k).step S' (fun _ _ => trivial), s.clr.sim.size, s.clr.defers⟩
 ·rw [e]; exact S.trans (S'.mono fun _ _ => trivial)
 ·refine Nat.le_trans List.countP_le_length (by simp [hlen])
theorem EvC.drwA {id : Nat} {l : List Oper} {its : List It} (hm : P.follows .mixedOrders = true) (ht : Tr P fr ro ds l.toArray st.nx l st.clr its st') (hc : confAllA its 0 its = true) (hq : Q .normal (st'.fin (st.nx + its.length))) : EvC P fr ro ds (.region id l.toArray true) st Q :=
 .clrQ (.drawA hm ht hc hq)
end
section
variable {P : Program} {fr : Fr} {ro : Option Nat} {ds : DS} {st st' : St} {G G' : Nat → Option Value} {F F' : Nat → Nat → Prop} {a : Act} {w w' : World} {x y c : Code}
 {M : Mem} {h0 : Nat} {J : Env} {k : Option Nat} {Q : Exit → St → Option Nat → Prop}
theorem Marks.keep' {l : List Deferred} (h : Marks ds l w) (hD : ∀ D, dmark D ∈ l → w'.heap[D]? = w.heap[D]?) (hr : ∀ l0, ds.ro = some l0 → w'.heap[l0]? = w.heap[l0]?) (hs : w.heap.size ≤ w'.heap.size) : Marks ds l w' := by
 obtain ⟨⟨Ds, h1, h2, h3⟩, h4, h5, h6⟩ := h
 exact ⟨⟨Ds, h1, h2, fun D hD' => ⟨(h3 D hD').1, by rw [hD D (by rw [h1]; exact List.mem_map.2 ⟨D, hD', rfl⟩)]; exact (h3 D hD').2⟩⟩, fun l0 hl => let ⟨r, hr'⟩ := h4 l0 hl; ⟨r, by rw [hr l0 hl]; exact hr'⟩, h5, Nat.le_trans h6 hs⟩
def withO (X O : Nat → Prop) : Nat → Prop := fun b => X b ∨ O b
structure CoreY (P : Program) (fr : Fr) (ro : Option Nat) (h0 : Nat) (a : Act) (N : Nat) (L : List Deferred) (R : YRef) (st : St) (X : Nat → Prop) (G : Nat → Option Value) (F : Nat → Nat → Prop) (O : Nat → Prop) (W : World) : Prop where
 mem : SimM P G F st.mem st.nx W
 slots : ∀ i, RV G F st.mem W (a.tmps.getD i undef) (st.get fr i)
 fresh : ∀ j, st.nx ≤ j → G j = none
 marks : Marks ⟨h0, ro, some L⟩ L W
 ok : OkX (· < fr.base) R (withO X O) G F st.mem W
 mks : MarksIn ro L X
 lo : ∀ b, O b → N ≤ b
 NW : N ≤ W.heap.size
 mlt : (∀ D, dmark D ∈ L → D < N) ∧ ∀ l0, ro = some l0 → l0 < N
 rlt : ∀ b, R.X b → b < N ∧ X b
theorem CoreY.it {N : Nat} {L : List Deferred} {R : YRef} {X O O' : Nat → Prop} (hJ : Stable J) (h : CoreY P fr ro h0 a N L R st X G F O w) (hj : J k F (OwnX G st.mem (withO X O)) w) (I : ItStep O F w O' F' w') :
  CoreY P fr ro h0 a N L R st X G F' O' w' ∧ J k F' (OwnX G st.mem (withO X O')) w' ∧ ∀ b, b < N → w'.heap[b]? = w.heap[b]? := by
 have dis : ∀ b, Owned G st.mem b → ¬ O b := fun b hb ho => h.ok.disj b (.inr ho) hb
 have E : EnvStep (Owned G st.mem) F w F' w' :=
  ⟨I.size, fun b hb => I.out b (h.mem.lt hb) (dis b hb), I.F1, I.F2, fun b o hF hb => by
   rcases I.F3 b o hF with h' | h' | h'
   ·exact h'
   ·have := h.mem.lt hb; omega
   ·exact absurd h' (dis b hb), I.inF, I.kept⟩
 have nd : ∀ b, b < N → w'.heap[b]? = w.heap[b]? := fun b hb => I.out b (Nat.lt_of_lt_of_le hb h.NW) fun hO => by have := h.lo b hO; omega
 have ER : EnvStep R.X F w F' w' :=
  ⟨I.size, fun b hb => nd b (h.rlt b hb).1, I.F1, I.F2, fun b o hF hb => by
   rcases I.F3 b o hF with h' | h' | h'
   ·exact h'
   ·have := (h.rlt b hb).1; have := h.NW; omega
   ·have := h.lo b h'; have := (h.rlt b hb).1; omega, I.inF, I.kept⟩
 refine ⟨⟨h.mem.env E fun _ hb => hb, fun i => (h.slots i).env E, h.fresh, h.marks.keepX h.mlt.1 h.mlt.2 nd I.size, ⟨h.ok.env.trans ER, h.ok.gs.trans (.ofEnv E), ?_, ?_, fun b hb => .inl (h.rlt b hb).2⟩, h.mks, fun b hb => ?_, Nat.le_trans h.NW I.size, h.mlt, h.rlt⟩, ?_, nd⟩
 ·rintro b (hb | hb)
  ·exact Nat.lt_of_lt_of_le (h.ok.low b (.inl hb)) I.size
  ·exact I.low b hb
 ·rintro b (hb | hb) ho
  ·exact h.ok.disj b (.inl hb) ho
  ·rcases I.own b hb with h' | h'
   ·have := h.mem.lt ho; omega
   ·exact dis b ho h'
 ·rcases I.own b hb with h' | h'
  ·exact Nat.le_trans h.NW h'
  ·exact h.lo b h'
 ·refine hJ _ _ _ _ _ _ _ hj ⟨I.size, fun b hb ho => I.out b hb fun h => ho (.inr (.inr h)), I.F1, I.F2, fun b o hF => (I.F3 b o hF).imp_right fun h => h.imp_right fun h => .inr (.inr h), ?_, I.inF, ?_, I.kept⟩
  ·rintro b (hb | hb | hb)
   ·exact .inr (.inl hb)
   ·exact .inr (.inr (.inl hb))
   ·exact (I.own b hb).imp_right fun h => .inr (.inr h)
  ·rintro b (hb | hb | hb)
   ·exact Nat.lt_of_lt_of_le (h.mem.lt hb) I.size
   ·exact Nat.lt_of_lt_of_le (h.ok.low b (.inl hb)) I.size
   ·exact I.low b hb
theorem EvY.range {σ : Type} {g : Operand} {ps : Array Tmp} {assign body : Code} {gf : FuncId} {caps : List AV} {xs : List (List AV)} (hJ : Stable J) (hg : opnd fr st.clr g = .fn gf caps) (hn : AV.norefs caps = true) (hs : SeqIs P gf caps xs)
  (hps : ∀ x ∈ xs, x.length = ps.size) (hpk : ∀ p ∈ ps, p < fr.sz) (hbase : fr.base ≤ st.nx) (sh : Nat → σ → Mem) (kf : σ → Nat) (inv : Nat → σ → Prop) (hst : ∃ s, st.mem = sh 0 s ∧ inv 0 s ∧ k = some (kf s))
  (round : ∀ j s lp, (hk : j < xs.length) → inv j s → EvC P ⟨st.nx, fr.nv, fr.hid, fr.sz⟩ (some lp) ⟨0, some lp, true⟩ assign (bindP ⟨st.nx, fr.nv, fr.hid, fr.sz⟩ ps.toList xs[j] ⟨st.vars, [], sh j s, st.nx⟩) fun e st1 => e = .normal ∧
   EvY P ⟨st.nx, fr.nv, fr.hid, fr.sz⟩ (some lp) 0 J body st1 (some (kf s)) fun e st2 k' => match e with
    | .normal => ∃ K s', gcOk st.nx st.nx K = true ∧ renMem st2.mem K K = sh (j + 1) s' ∧ inv (j + 1) s' ∧ k' = some (kf s')
    | .ret => Q .ret ⟨st.vars, [], st2.mem, st2.nx⟩ k'
    | .exit id => Q (.exit id) ⟨st.vars, [], st2.mem, st2.nx⟩ k'
    | _ => False)
  (done : ∀ s, inv xs.length s → Q .normal ⟨st.vars, [], sh xs.length s, st.nx⟩ (some (kf s))) : EvY P fr ro h0 J (.rangeFunc g ps assign body) st k Q := by
 rintro R a w ⟨X, L0, G, F, hx, hm, s, hj⟩
 refine wpIn_rangeFunc fun fn hfn => ?_
 have hd0 : a.defers = L0 := s.defers.2.2.1 L0 rfl
 obtain ⟨l, mk, W1, D, he, hlw, hl1, hsz1, hold1, hmk, hkp1, hmkn⟩ : ∃ (l : Nat) (mk : List Deferred) (W1 : World) (D : Nat), (Instr.enterLoop fn a.tmps ps assign body (fc ro).round).run P w = .ok (l, mk) W1 ∧ w.heap.size ≤ l ∧
   W1.heap[l]? = some (.loop { state := .ready, pending := none, fn, tmps := a.tmps, params := ps, assign, body, defers := D }) ∧ w.heap.size ≤ W1.heap.size ∧ (∀ b, b < w.heap.size → W1.heap[b]? = w.heap[b]?) ∧ Marks ⟨h0, ro, some (mk ++ L0)⟩ (mk ++ a.defers) W1 ∧ Kept w W1 ∧ (∀ D, dmark D ∈ mk → w.heap.size ≤ D) ∧ ∀ l0, ro = some l0 → mk ++ L0 = [] := by
  cases ro with
  | none =>
    have s' : Marks ⟨h0, none, none⟩ a.defers w := ⟨s.defers.1, s.defers.2.1, fun L h => (by cases h), s.defers.2.2.2⟩
    obtain ⟨l, mk, W1, D, h1, h2, h3, h4, h5, h6, h7, h8⟩ := enter_loop (P := P) (ro := none) rfl (fun _ => rfl) s' fn ps assign body
    exact ⟨l, mk, W1, D, h1, h2, h3, h4, h5, ⟨h6.1, h6.2.1, fun L h => by cases h; rw [hd0], h6.2.2.2⟩, h7, h8, fun l0 h => by cases h⟩
  | some l0 =>
    have hL : L0 = [] := hm.2.2 l0 rfl
    subst hL
    obtain ⟨l, mk, W1, D, h1, h2, h3, h4, h5, h6, h7, h8⟩ := enter_loop (P := P) (ro := some l0) rfl (fun h => by cases h) s.defers fn ps assign body
    have : mk ++ a.defers = [] := h6.2.2.1 [] rfl
    rw [hd0] at this
    exact ⟨l, mk, W1, D, h1, h2, h3, h4, h5, ⟨h6.1, h6.2.1, fun L h => by cases h; rw [hd0], h6.2.2.2⟩, h7, h8, fun _ _ => this⟩
 obtain ⟨L, hL⟩ : ∃ L, L = mk ++ L0 := ⟨_, rfl⟩
 rw [hd0, ← hL] at hmk
 obtain ⟨rec, hrec⟩ : ∃ rec : LoopState → Option Code → Loop, rec = fun st pe => { state := st, pending := pe, fn, tmps := a.tmps, params := ps, assign, body, defers := D } := ⟨_, rfl⟩
 have hl1 : W1.heap[l]? = some (.loop (rec .ready none)) := by rw [hrec]; exact hl1
 have hlN : l < W1.heap.size := (Array.getElem?_eq_some_iff.1 hl1).1
 have hgv := s.clr.eval g
 rw [hg] at hgv
 obtain ⟨vs, hev, hvl, hvs⟩ := hgv.inv_fn
 have hF1 : ∀ b o, F b o → b < W1.heap.size := fun b o h => Nat.lt_of_lt_of_le (s.sim.mem.inF b o h) hsz1
 have hk1 : ∀ (b : Nat) (o : Obj), w.heap[b]? = some o → isData o = true → W1.heap[b]? = some o := fun b o hb _ => by rw [hold1 b (Array.getElem?_eq_some_iff.1 hb).1]; exact hb
 let I : Env := fun j F' O W => match j with
  | some j => ∃ X' G' s, inv j s ∧ CoreY P fr ro h0 a W1.heap.size L R ⟨st.vars, [], sh j s, st.nx⟩ X' G' F' O W ∧ J (some (kf s)) F' (OwnX G' (sh j s) (withO X' O)) W ∧ X' l ∧ W.heap[l]? = some (.loop (rec .ready none))
  | none => ∃ X' G' M' nx' k' c, ((c = Code.ret ∧ Q .ret ⟨st.vars, [], M', nx'⟩ k') ∨ ∃ id, c = Code.exit id ∧ Q (.exit id) ⟨st.vars, [], M', nx'⟩ k') ∧ CoreY P fr ro h0 a W1.heap.size L R ⟨st.vars, [], M', nx'⟩ X' G' F' O W ∧ J k' F' (OwnX G' M' (withO X' O)) W ∧ X' l ∧ W.heap[l]? = some (.loop (rec .done (some c)))
 have hI : Stable I := by
  intro j F O w F' O' w' h S
  cases j with
  | some j =>
    obtain ⟨X', G', s, h1, h2, h3, h4, h5⟩ := h
    obtain ⟨h6, h7, h8⟩ := h2.it hJ h3 S
    exact ⟨X', G', s, h1, h6, h7, h4, (h8 _ hlN).trans h5⟩
  | none =>
    obtain ⟨X', G', M', nx', k', c, h1, h2, h3, h4, h5⟩ := h
    obtain ⟨h6, h7, h8⟩ := h2.it hJ h3 S
    exact ⟨X', G', M', nx', k', c, h1, h6, h7, h4, (h8 _ hlN).trans h5⟩
 have hy : Yields P I l xs := by
  intro j F O W vals hk hF hO hi ⟨X', G', σ', hinv, hc, hjW, hXl, hlW⟩
  have hlt := (Array.getElem?_eq_some_iff.1 hlW).1
  have hvals : vals.length = ps.size := hi.1.trans (hps _ (List.getElem_mem hk))
  have hyield := run_yield (P := P) (args := vals.toArray) hlW (by rw [hrec]; simpa using hvals)
  refine ⟨_, _, _, _, hyield, roundIn_of_wpIn (by rw [hrec]; exact hfn) ?_⟩
  have s1 : SimA P ⟨st.nx, fr.nv, fr.hid, fr.sz⟩ ⟨0, some l, true⟩ G' F ⟨st.vars, [], sh j σ', st.nx⟩ { tmps := a.tmps, defers := [] } W :=
   ⟨⟨hc.mem, hc.slots, s.sim.size⟩, hc.fresh, .round hlW⟩
  have s2 := s1.bind (ps := ps.toList) (by simpa using hvals) hi (fun p hp => hpk p (by simpa using hp))
  have htm : (((rec .ready none).params.zip vals.toArray).foldl (fun tmps (t, a) => tmps.setIfInBounds t a) (rec .ready none).tmps) = (ps.toList.zip vals).foldl (fun t (p, v) => t.setIfInBounds p v) a.tmps := by
   rw [hrec]
   simp only
   rw [← Array.foldl_toList]
   simp
  rw [htm]
  have em : (bindP ⟨st.nx, fr.nv, fr.hid, fr.sz⟩ ps.toList xs[j] ⟨st.vars, [], sh j σ', st.nx⟩).mem = sh j σ' := bindP_mem _ _ _
  have hA := round j σ' l hk hinv G' F _ W G' F _ W (by rw [em]; exact .refl) s2
  have hfe : (Fence.wide.inRound l) = fc (some l) := rfl
  rw [hfe]
  have ea : (rec .ready none).assign = assign := by rw [hrec]
  have eb : (rec .ready none).body = body := by rw [hrec]
  rw [ea, eb]
  refine wpIn_mono hA ?_
  rintro e a1 Wa ⟨Ga, Fa, sta, sa, Sa, rfl, hB⟩
  have hla : Wa.heap[l]? = some (.loop (rec .ready none)) := Sa.keepObj hc.mem hlW rfl
  refine ⟨_, run_beginRound hla (by rw [hrec]), ?_⟩
  have hlta := (Array.getElem?_eq_some_iff.1 hla).1
  obtain ⟨Wb, hWb⟩ : ∃ Wb, Wb = Wa.putObj l (.loop { rec .ready none with state := .busy }) := ⟨_, rfl⟩
  rw [← hWb]
  have hsb : Wb.heap.size = Wa.heap.size := by rw [hWb, World.putObj_size]
  have hlb : Wb.heap[l]? = some (.loop { rec .ready none with state := .busy }) := by rw [hWb]; exact World.putObj_heap_same hlta
  have hda := sa.defers.2.2.1 [] rfl
  have sb : SimA P ⟨st.nx, fr.nv, fr.hid, fr.sz⟩ ⟨0, some l, true⟩ Ga Fa sta a1 Wb := by
   rw [hWb]
   exact sa.keepData (keep_put hla rfl _) (by rw [World.putObj_size]; exact Nat.le_refl _) (by rw [hda]; exact .round (World.putObj_heap_same hlta))
  have oka : OkX (· < fr.base) R (withO X' O) Ga Fa sta.mem Wa := hc.ok.step (fun id (hid : id < fr.base) => Nat.lt_of_lt_of_le hid hbase) Sa sa.sim.mem
  have ja : J (some (kf σ')) Fa (OwnX Ga sta.mem (withO X' O)) Wa := hJ _ _ _ _ _ _ _ hjW (itStep_of hc.ok Sa sa.sim.mem)
  have Ib : ItStep (OwnX Ga sta.mem (withO X' O)) Fa Wa (OwnX Ga sta.mem (withO X' O)) Fa Wb := by
   rw [hWb]
   exact .put hla rfl rfl (.inr (.inl hXl)) sa.sim.mem.inF fun b hb => hb.elim (fun hb => sa.sim.mem.lt hb) (oka.low b)
  have jb := hJ _ _ _ _ _ _ _ ja Ib
  have okb : OkX (· < st.nx) ⟨withO X' O, Ga, Fa, sta.mem, Wb⟩ (withO X' O) Ga Fa sta.mem Wb := ⟨.refl sb.sim.mem.inF, .refl, fun b hb => by rw [hsb]; exact oka.low b hb, oka.disj, fun _ h => h⟩
  have hround := hB ⟨withO X' O, Ga, Fa, sta.mem, Wb⟩ a1 Wb ⟨withO X' O, [], Ga, Fa, okb, ⟨fun _ h => (by cases h), fun l0 h => by cases h; exact .inl hXl, fun _ _ => rfl⟩, sb, jb⟩
  refine wpIn_mono hround ?_
  rintro e a3 W3 ⟨st3, k3, ⟨X3, L3, G3, F3, ok3, mk3, s3, j3⟩, hq⟩
  have hl3 : W3.heap[l]? = some (.loop { rec .ready none with state := .busy }) := (ok3.env.own l (.inl hXl)).trans hlb
  have hlt3 := (Array.getElem?_eq_some_iff.1 hl3).1
  have hrb : ∀ jump : Option Code, (Instr.endRound l jump).run P W3 = .ok (.bool jump.isNone) (W3.putObj l (.loop (rec (if jump.isNone then .ready else .done) jump))) := fun jump => by
   have := run_endRound (P := P) jump hl3
   rw [hrec] at this ⊢; exact this
  have hX3 : ∀ b, withO X' O b → X3 b := ok3.sub
  have fin : ∀ (o4 : Obj), isData o4 = false → ∀ (G4 : Nat → Option Value) (st4 : St), SimM P G4 F3 st4.mem st4.nx W3 → (∀ j, st4.nx ≤ j → G4 j = none) → Step (· < st.nx) G3 F3 st3.mem W3 G4 F3 st4.mem W3 → st4.vars = st.vars → st4.tmps = [] →
    CoreY P fr ro h0 a W1.heap.size L R st4 X3 G4 F3 O (W3.putObj l o4) ∧ J k3 F3 (OwnX G4 st4.mem (withO X3 O)) (W3.putObj l o4) ∧ EnvStep O F W F3 (W3.putObj l o4) := by
   intro o4 h4 G4 st4 hm4 hf4 S4 hv4 ht4
   obtain ⟨W4, hW4⟩ : ∃ W4, W4 = W3.putObj l o4 := ⟨_, rfl⟩
   rw [← hW4]
   have hs4 : W4.heap.size = W3.heap.size := by rw [hW4, World.putObj_size]
   have hsz : W.heap.size ≤ W4.heap.size := by rw [hs4]; exact Nat.le_trans Sa.size (hsb ▸ ok3.env.size)
   have hlO : ¬ O l := fun h => by have := hc.lo l h; omega
   have hoth : ∀ b, b ≠ l → withO X' O b → W4.heap[b]? = W.heap[b]? := fun b hb hO' => by
    rw [hW4, World.putObj_heap_other hb, ok3.env.own b hO', hWb, World.putObj_heap_other hb]
    exact Sa.out b (hc.ok.low b hO') (hc.ok.disj b hO')
   have cb : ∀ b o, Wb.cell? ⟨b, o, none⟩ = Wa.cell? ⟨b, o, none⟩ := fun b o => by rw [hWb]; exact putNd hla rfl rfl b o
   have c4 : ∀ b o, W4.cell? ⟨b, o, none⟩ = W3.cell? ⟨b, o, none⟩ := fun b o => by rw [hW4]; exact putNd hl3 rfl h4 b o
   have F1 : ∀ b o, F b o → F3 b o := fun b o h => ok3.env.F1 b o (Sa.F1 b o h)
   have F2 : ∀ b o, F b o → W4.cell? ⟨b, o, none⟩ = W.cell? ⟨b, o, none⟩ := fun b o h => by
    rw [c4, ok3.env.F2 b o (Sa.F1 b o h), cb]; exact Sa.F2 b o h
   have F3' : ∀ b o, F3 b o → withO X' O b → F b o := fun b o h hb => by
    rcases Sa.F3 b o (ok3.env.F3 b o h hb) with h' | h' | h'
    ·exact h'
    ·have := hc.ok.low b hb; omega
    ·exact absurd h' (hc.ok.disj b hb)
   have kp : Kept W W4 := by
    have k1 : Kept Wa Wb := Ib.kept
    have k4 : Kept W3 W4 := by rw [hW4]; exact (ItStep.put (O := fun b => b < W3.heap.size) (F := F3) hl3 rfl h4 hlt3 s3.sim.mem.inF fun b hb => hb).kept
    exact ((Sa.kept.trans k1).trans ok3.env.kept).trans k4
   have hinF : ∀ b o, F3 b o → b < W4.heap.size := fun b o h => by rw [hs4]; exact s3.sim.mem.inF b o h
   have hm4' : SimM P G4 F3 st4.mem st4.nx W4 := by rw [hW4]; exact hm4.keepData (keep_put hl3 rfl o4) (by rw [World.putObj_size]; exact Nat.le_refl _)
   have g1 : GS (· < st.nx) G' F (sh j σ') W G4 F3 st4.mem W4 := by
    have q1 : GS (· < st.nx) Ga Fa sta.mem Wa Ga Fa sta.mem Wb := { (GS.refl : GS (· < st.nx) Ga Fa sta.mem Wa Ga Fa sta.mem Wa) with F2 := fun b o _ => cb b o }
    have q2 : GS (· < st.nx) G4 F3 st4.mem W3 G4 F3 st4.mem W4 := { (GS.refl : GS (· < st.nx) G4 F3 st4.mem W3 G4 F3 st4.mem W3) with F2 := fun b o _ => c4 b o }
    exact (((Sa.gs.trans q1).trans ok3.gs).trans S4.gs).trans q2
   have sl : ∀ i, RV G4 F3 st4.mem W4 (a.tmps.getD i undef) (st4.get fr i) := fun i => by
    have h1 := hc.slots i
    have e : (⟨st.vars, [], sh j σ', st.nx⟩ : St).get fr i = st4.get fr i := by unfold St.get; rw [hv4, ht4]
    rw [e] at h1
    exact h1.gs g1 fun id hid => Nat.lt_of_not_le fun hle => hid (hc.fresh id hle)
   have ok4 : OkX (· < st.nx) ⟨withO X' O, Ga, Fa, sta.mem, Wb⟩ X3 G4 F3 st4.mem W3 := ok3.step (fun _ h => h) S4 hm4
   have eX : withO X3 O = X3 := funext fun b => propext ⟨fun h => h.elim id fun h => hX3 b (.inr h), .inl⟩
   have j4 : J k3 F3 (OwnX G4 st4.mem X3) W4 := by
    refine hJ _ _ _ _ _ _ _ (hJ _ _ _ _ _ _ _ j3 (itStep_of ok3 S4 hm4)) ?_
    rw [hW4]
    exact .put hl3 rfl h4 (.inr (hX3 l (.inl hXl))) hm4.inF fun b hb => hb.elim (fun hb => hm4.lt hb) (ok4.low b)
   refine ⟨⟨hm4', sl, hf4, ?_, ⟨?_, ?_, ?_, ?_, fun b hb => .inl (hX3 b (.inl (hc.rlt b hb).2))⟩, ?_, hc.lo, ?_, hc.mlt, fun b hb => ⟨(hc.rlt b hb).1, hX3 b (.inl (hc.rlt b hb).2)⟩⟩, by rw [eX]; exact j4, ⟨hsz, fun b hb => ?_, F1, F2, fun b o h hb => F3' b o h (.inr hb), hinF, kp⟩⟩
   ·refine hc.marks.keep' (fun D hD => ?_) (fun l0 hl0 => ?_) hsz
    ·by_cases e : D = l
     ·subst e
      obtain ⟨Ds, e1, _, e3⟩ := hc.marks.1
      have : D ∈ Ds := by
       rw [e1] at hD
       obtain ⟨D', h7, h8⟩ := List.mem_map.1 hD
       have : D' = D := by simpa [dmark] using h8
       exact this ▸ h7
      have := (e3 D this).2
      rw [hlW] at this; cases this
     ·exact hoth D e (.inl (hc.mks.1 D hD))
    ·refine hoth l0 ?_ (.inl (hc.mks.2.1 l0 hl0))
     rintro rfl
     obtain ⟨r, hr⟩ := s.defers.2.1 l0 hl0
     have := (Array.getElem?_eq_some_iff.1 hr).1
     omega
   ·refine hc.ok.env.trans ⟨hsz, fun b hb => ?_, F1, F2, fun b o h hb => F3' b o h (.inl (hc.rlt b hb).2), hinF, kp⟩
    refine hoth b ?_ (.inl (hc.rlt b hb).2)
    rintro rfl
    have := hx.low b (hx.sub b hb)
    omega
   ·exact hc.ok.gs.trans (g1.mono fun id (hid : id < fr.base) => Nat.lt_of_lt_of_le hid hbase)
   ·rw [eX, hs4]; exact ok4.low
   ·rw [eX]; exact ok4.disj
   ·exact ⟨fun D hD => hX3 D (.inl (hc.mks.1 D hD)), fun l0 hl => hX3 l0 (.inl (hc.mks.2.1 l0 hl)), hc.mks.2.2⟩
   ·exact Nat.le_trans hc.NW hsz
   ·exact hoth b (by rintro rfl; exact hlO hb) (.inr hb)
  cases e with
  | normal =>
    obtain ⟨K, σ2, hK, hmem, hinv2, rfl⟩ := hq
    obtain ⟨s4, S4⟩ := s3.gc (L := []) (nx := st.nx) hK
    have em4 : (st3.gc [] K st.nx).mem = sh (j + 1) σ2 := hmem
    obtain ⟨hcore, hj4, hE⟩ := fin (.loop (rec .ready none)) rfl _ ⟨st.vars, [], sh (j + 1) σ2, st.nx⟩ (by rw [← em4]; exact s4.sim.mem) s4.fresh (by rw [← em4]; exact S4) rfl rfl
    exact ⟨_, _, hrb none, F3, hE, .inl ⟨rfl, X3, _, σ2, hinv2, hcore, hj4, hX3 l (.inl hXl), World.putObj_heap_same hlt3⟩⟩
  | ret =>
    obtain ⟨hcore, hj4, hE⟩ := fin (.loop (rec .done (some .ret))) rfl G3 ⟨st.vars, [], st3.mem, st3.nx⟩ s3.sim.mem s3.fresh .refl rfl rfl
    exact ⟨_, _, hrb (some .ret), F3, hE, .inr ⟨rfl, X3, G3, st3.mem, st3.nx, k3, .ret, .inl ⟨rfl, hq⟩, hcore, hj4, hX3 l (.inl hXl), World.putObj_heap_same hlt3⟩⟩
  | exit id =>
    obtain ⟨hcore, hj4, hE⟩ := fin (.loop (rec .done (some (.exit id)))) rfl G3 ⟨st.vars, [], st3.mem, st3.nx⟩ s3.sim.mem s3.fresh .refl rfl rfl
    exact ⟨_, _, hrb (some (.exit id)), F3, hE, .inr ⟨rfl, X3, G3, st3.mem, st3.nx, k3, .exit id, .inr ⟨id, rfl, hq⟩, hcore, hj4, hX3 l (.inl hXl), World.putObj_heap_same hlt3⟩⟩
  | goto t => exact hq.elim
  | panic ch => exact hq.elim
  | outgrown => exact hq.elim
 obtain ⟨X1, hX1⟩ : ∃ X1 : Nat → Prop, X1 = fun b => X b ∨ (w.heap.size ≤ b ∧ b < W1.heap.size) := ⟨_, rfl⟩
 have hX1m : MarksIn ro L X1 := by
  rw [hX1]
  refine ⟨fun D hD => ?_, fun l0 hl => .inl (hm.2.1 l0 hl), fun l0 hl => ?_⟩
  ·have h1 := hmk.lt.1 D hD
   rw [hL] at hD
   rcases List.mem_append.1 hD with h | h
   ·exact .inr ⟨hmkn.1 D h, h1⟩
   ·exact .inl (hm.1 D h)
  ·rw [hL]; exact hmkn.2 l0 hl
 have I1 : ItStep (OwnX G st.mem X) F w (OwnX G st.mem X1) F W1 := by
  refine ⟨hsz1, fun b hb _ => hold1 b hb, fun _ _ h => h, fun b o h => cell?_same (hold1 b (s.sim.mem.inF b o h)) o, fun _ _ h => .inl h, fun b hb => ?_, hF1, fun b hb => ?_, hkp1⟩
  ·rw [hX1] at hb
   rcases hb with h | h | h
   ·exact .inr (.inl h)
   ·exact .inr (.inr h)
   ·exact .inl h.1
  ·rw [hX1] at hb
   rcases hb with h | h | h
   ·exact Nat.lt_of_lt_of_le (s.sim.mem.lt h) hsz1
   ·exact Nat.lt_of_lt_of_le (hx.low b h) hsz1
   ·exact h.2
 have E1 : EnvStep (fun b => b < w.heap.size) F w F W1 := ⟨hsz1, fun b hb => hold1 b hb, fun _ _ h => h, fun b o h => cell?_same (hold1 b (s.sim.mem.inF b o h)) o, fun _ _ h _ => h, hF1, hkp1⟩
 have e10 : withO X1 (fun _ => False) = X1 := funext fun b => propext ⟨fun h => h.elim id False.elim, .inl⟩
 obtain ⟨σ0, hm0, hinv0, rfl⟩ := hst
 have hj0 : I (some 0) F (fun _ => False) W1 := by
  refine ⟨X1, G, σ0, hinv0, ⟨by rw [← hm0]; exact s.sim.mem.keepData hk1 hsz1, fun i => ?_, s.fresh, hmk, ?_, hX1m, fun _ h => h.elim, Nat.le_refl _, ⟨fun D hD => hmk.lt.1 D hD, fun l0 hl => hmk.lt.2 l0 hl⟩, fun b hb => ⟨?_, ?_⟩⟩, ?_, ?_, hl1⟩
  ·have := s.clr.sim.slots i
   simp only [← hm0]
   exact this.keepData hk1
  ·rw [e10]
   simp only [← hm0]
   refine ⟨hx.env.trans (E1.sub fun b hb => hx.low b (hx.sub b hb)), hx.gs.trans (.ofEnv E1), fun b hb => I1.low b (.inr hb), fun b hb ho => ?_, fun b hb => by rw [hX1]; exact .inl (hx.sub b hb)⟩
   rw [hX1] at hb
   rcases hb with h | h
   ·exact hx.disj b h ho
   ·have := s.sim.mem.lt ho; omega
  ·have := hx.low b (hx.sub b hb); omega
  ·rw [hX1]; exact .inl (hx.sub b hb)
  ·rw [e10, ← hm0]; exact hJ _ _ _ _ _ _ _ hj I1
  ·rw [hX1]; exact .inr ⟨hlw, hlN⟩
 refine ⟨l, mk, W1, { target := .fn (.func gf) vs.toArray, args := #[yv l] }, W1, gf, #[yv l] ++ vs.toArray, W1, he, ?_, fun _ _ => trivial, ?_, fun h => by simp [fc, Fence.wide] at h, ?_⟩
 ·simp only [rangeCall, resolve, hev]
  simp [go_sem, yv, Deferred.ofValue]
 ·have := hs.1 (#[yv l] ++ vs.toArray) W1
  simp only [invoke]
  exact this
 ·have hcall := hs.2 l I hI hy F W1 vs ⟨hF1, s.sim.mem.gl.mono (fun _ _ h => h) fun b o h => cell?_same (hold1 b (s.sim.mem.inF b o h)) o⟩ ⟨hvl, fun i h1 h2 => ((hvs i h1 h2).imm_of (norefs_get caps hn i h2)).mono (fun _ _ h => h) fun b o h => cell?_same (hold1 b (s.sim.mem.inF b o h)) o⟩ hj0
  refine CallsIn.mono (F := fc ro) (n := 0 - 1) (callsIn_fc hcall) ?_
  rintro e W2 ⟨v, F2, rfl, hj2⟩
  have close : ∀ {X2 : Nat → Prop} {G2 : Nat → Option Value} {M2 : Mem} {nx2 : Nat} {k2 : Option Nat} {o1 o2 : Obj}, CoreY P fr ro h0 a W1.heap.size L R ⟨st.vars, [], M2, nx2⟩ X2 G2 F2 (fun _ => False) W2 → J k2 F2 (OwnX G2 M2 (withO X2 fun _ => False)) W2 → X2 l → W2.heap[l]? = some o1 → isData o1 = false → isData o2 = false → (∀ D, dmark D ∈ L → D ≠ l) →
    InY P fr ro h0 J R ⟨st.vars, [], M2, nx2⟩ k2 { a with defers := mk ++ a.defers } (W2.putObj l o2) := by
   intro X2 G2 M2 nx2 k2 o1 o2 hc hj3 hXl hl2 h1 h2 hDl
   have e20 : withO X2 (fun _ => False) = X2 := funext fun b => propext ⟨fun h => h.elim id False.elim, .inl⟩
   have ok2 := hc.ok
   rw [e20] at hj3 ok2
   have hk2 : ∀ (b : Nat) (o : Obj), W2.heap[b]? = some o → isData o = true → (W2.putObj l o2).heap[b]? = some o := keep_put hl2 h1 o2
   have hl' : ∀ b, R.X b → b ≠ l := fun b hb => by rintro rfl; have := hx.low b (hx.sub b hb); omega
   refine ⟨X2, L, G2, F2, ⟨ok2.env.trans ⟨by rw [World.putObj_size]; exact Nat.le_refl _, fun b hb => World.putObj_heap_other (hl' b hb), fun _ _ h => h, fun b o _ => putNd hl2 h1 h2 b o, fun _ _ h _ => h, fun b o h => by rw [World.putObj_size]; exact hc.mem.inF b o h, .set hl2 (unfroz_nd h1) (unfroz_nd h2) (fun _ _ h => by subst h; cases h1)⟩, ok2.gs.trans { (GS.refl : GS (· < fr.base) G2 F2 M2 W2 G2 F2 M2 W2) with F2 := fun b o _ => putNd hl2 h1 h2 b o }, fun b hb => by rw [World.putObj_size]; exact ok2.low b hb, ok2.disj, ok2.sub⟩, hc.mks, ?_, ?_⟩
   ·refine ⟨⟨hc.mem.keepData hk2 (by rw [World.putObj_size]; exact Nat.le_refl _), fun i => (hc.slots i).keepData hk2, s.sim.size⟩, hc.fresh, ?_⟩
    simp only
    rw [hd0, ← hL]
    refine hc.marks.keep' (fun D hD => World.putObj_heap_other (hDl D hD)) (fun l0 hl0 => World.putObj_heap_other ?_) (by rw [World.putObj_size]; exact Nat.le_refl _)
    rintro rfl
    obtain ⟨r, hr⟩ := s.defers.2.1 l0 hl0
    have := (Array.getElem?_eq_some_iff.1 hr).1
    omega
   ·exact hJ _ _ _ _ _ _ _ hj3 (.put hl2 h1 h2 (.inr hXl) hc.mem.inF fun b hb => hb.elim (fun hb => hc.mem.lt hb) (ok2.low b))
  have hDl : ∀ D, dmark D ∈ L → D ≠ l := fun D hD => by
   rintro rfl
   obtain ⟨Ds, e1, _, e3⟩ := hmk.1
   have : D ∈ Ds := by
    rw [e1] at hD
    obtain ⟨D', h7, h8⟩ := List.mem_map.1 hD
    have : D' = D := by simpa [dmark] using h8
    exact this ▸ h7
   have := (e3 D this).2
   rw [hl1] at this; cases this
  rcases hj2 with hj2 | hj2
  ·obtain ⟨X2, G2, σ2, hinv2, hc, hj3, hXl, hl2⟩ := hj2
   refine ⟨none, _, by have := run_endLoop (P := P) hl2 (by rw [hrec]; simp); rw [hrec] at this; exact this, ?_⟩
   exact ⟨_, _, close hc hj3 hXl hl2 rfl rfl hDl, done σ2 hinv2⟩
  ·obtain ⟨X2, G2, M2, nx2, k2, c, hcq, hc, hj3, hXl, hl2⟩ := hj2
   refine ⟨some c, _, by have := run_endLoop (P := P) hl2 (by rw [hrec]; simp); rw [hrec] at this; exact this, ?_⟩
   rcases hcq with ⟨rfl, hq⟩ | ⟨id, rfl, hq⟩
   ·exact wpIn_ret (F := fc ro) (n := 0) (P := P) ⟨_, _, close hc hj3 hXl hl2 rfl rfl hDl, hq⟩
   ·exact wpIn_exit (F := fc ro) (n := 0) (P := P) ⟨_, _, close hc hj3 hXl hl2 rfl rfl hDl, hq⟩
end
section
variable {P : Program} {fr : Fr} {ro : Option Nat} {ds : DS} {st st' : St} {G G' : Nat → Option Value} {F F' : Nat → Nat → Prop} {a : Act} {w w' : World} {x y c : Code}
 {M : Mem} {ops : Array Oper} {l l1 l2 rest : List Oper} {o : Oper} {h0 : Nat} {J : Env} {k : Option Nat} {Q Q' : Exit → St → Option Nat → Prop}
theorem oper_monoQ {Fe : Fence} {n : Nat} {K K' : Act → World → Prop} {R R' : Exit → Act → World → Prop} (hK : ∀ a w, K a w → K' a w) (hR : ∀ e a w, e ≠ .normal → R e a w → R' e a w) (h : o.wpIn Fe n P a w K R) : o.wpIn Fe n P a w K' R' := by
 have h1 := Oper.wpIn_mono (o := o) hK h
 unfold Oper.wpIn at *
 refine ⟨h1.1, ?_⟩
 have h1 := h1.2
 clear h
 generalize (o.semAt Fe.round a.eval).run P w = r at *
 have lo : LetsOut R → LetsOut R' := fun ⟨a, w, hl⟩ => ⟨a, w, hR _ a w (by intro h; cases h) hl⟩
 cases r with
 | ok v w2 =>
   cases v with
   | value v => exact h1
   | skip => exact h1
   | defer d => exact h1
   | enter f args =>
     refine ⟨h1.1, CallsIn.mono h1.2 fun e w3 h => ?_⟩
     cases e with
     | returned v => exact h
     | panicked ch => exact hR _ _ _ (by intro h; cases h) h
     | outgrown => exact lo h
   | row row args => exact h1
   | round l f tmps assign body =>
     refine ⟨h1.1, RoundIn.mono h1.2 fun e w3 h => ?_⟩
     cases e with
     | returned v => exact h
     | panicked ch => exact hR _ _ _ (by intro h; cases h) h
     | outgrown => exact lo h
   | _ => exact h1
 | halt v w2 =>
   cases v with
   | panic v => exact hR _ _ _ (by intro h; cases h) h1
   | _ => exact h1
theorem wpListIn_append {Fe : Fence} {n : Nat} {R R' : Exit → Act → World → Prop} (hN : ∀ a w, R .normal a w → wpListIn Fe n P ops R' l2 a w) (hR : ∀ e a w, e ≠ .normal → R e a w → R' e a w) : ∀ {l1 : List Oper} {a : Act} {w : World}, wpListIn Fe n P ops R l1 a w → wpListIn Fe n P ops R' (l1 ++ l2) a w
 | [], a, w, h => hN a w h
 | o :: l1, a, w, h => by
   simp only [wpListIn, List.cons_append] at h ⊢
   split
   ·rename_i hw
    rw [if_pos hw] at h
    exact oper_monoQ (fun a w h => wpListIn_append hN hR h) hR h
   ·rename_i hw
    rw [if_neg hw] at h
    exact ⟨h.1, wpListIn_append hN hR h.2⟩
theorem XRY.pre (n : Nat) (hJ : Stable J) (h : ∀ {L : List Deferred}, XR P fr ro ⟨h0, ro, some L⟩ ops (l.take n) st fun e st' => e = .normal ∧ XRY P fr ro h0 J ops (l.drop n) st' k Q) : XRY P fr ro h0 J ops l st k Q := by
 rintro R a w ⟨X, L, G, F, hx, hm, s, hj⟩
 have h1 := h (L := L) G F st.mem w G F a w .refl s
 have h2 := wpListIn_append (l2 := l.drop n) (R' := PostY P fr ro h0 J R Q) (fun a' w' ⟨G', F', st', s', S', _, hq⟩ => hq R a' w' (.step hJ hx hm hj s' (fun _ h => h) S')) (fun e a' w' he ⟨_, _, _, _, _, h, _⟩ => absurd h he) h1
 rwa [List.take_append_drop] at h2
theorem yield_core {R : YRef} {lp : Nat} {xs : List (List AV)} {n : Nat} {callee : Operand} {args : Array Operand} {tys : Array TypeId} (hn : n < xs.length) (hy : Yields P J lp xs) (hop : o.op = .call ⟨.value callee, args, tys⟩) (hd : dok fr o.dst = true)
  (hcal : od fr st true callee = .sc (yv lp)) (hxs : callArgs fr st args = xs[n]) (hnr : AV.norefs xs[n] = true) {K : Act → World → Prop} {Q0 : Exit → Act → World → Prop}
  (hK : ∀ (b : Bool) a w, InY P fr ro h0 J R ((⟨st.vars, st.tmps, st.mem, st.nx + 1⟩ : St).put fr o.dst (.sc (.bool b))) (if b = true then some (n + 1) else none) a w → K a w) (i : InY P fr ro h0 J R st (some n) a w) : o.wpIn (fc ro) 0 P a w K Q0 := by
 obtain ⟨X, L, G, F, hx, hm, s, hj⟩ := i
 refine ⟨fun _ _ => trivial, ?_⟩
 have hsem : o.semAt (fc ro).round a.eval = execOp a.eval o := Oper.semAt_eq _ _ _ (by rw [hop]; intro c h; cases h)
 rw [hsem]
 have hv := (s.eval callee).unopt
 have hv : RV G F st.mem w (a.eval callee) (.sc (yv lp)) := by unfold od at hcal; rwa [hcal] at hv
 have hev := hv.inv_sc
 have hi : Imms F w (args.toList.map a.eval) xs[n] := by
  rw [← hxs]
  refine .of_rv (G := G) (M := st.mem) (by simp [callArgs]) (fun i h1 h2 => ?_) (by rw [hxs]; exact hnr)
  simp only [callArgs, List.getElem_map]
  exact ((s.eval _).unopt).snap s.sim.mem
 obtain ⟨fn, tmps, assign, body, hrun, hround⟩ := hy n F (OwnX G st.mem X) w _ hn s.sim.mem.fok (fun b hb => hb.elim (fun hb => s.sim.mem.lt hb) (hx.low b)) hi hj
 have hrun' : (execOp a.eval o).run P w = .ok (.round lp fn tmps assign body) w := by
  obtain ⟨dst, op, ty, pos, after, guard⟩ := o
  simp only at hop
  subst hop
  have e : args.map a.eval = (args.toList.map a.eval).toArray := by apply Array.ext'; simp
  rw [← e] at hrun
  simp only [execOp, resolve, hev, yv, Deferred.ofValue, Sem.run_bind, Sem.run_pure, Result.andThen_ok, invoke]
  simpa using hrun
 rw [hrun', Oper.uponIn_round]
 refine ⟨fun h => by simp [fc, Fence.wide] at h, RoundIn.mono (roundIn_fc hround) ?_⟩
 rintro e w' ⟨F', E, h1⟩
 have hdl : a.defers = L := s.defers.2.2.1 L rfl
 have s1 := s.env (fun D hD => .inr (hm.1 D (by rw [← hdl]; exact hD))) (fun l0 hl => .inr (hm.2.1 l0 hl)) E fun _ h => .inl h
 have hput : ∀ b : Bool, SimA P fr ⟨h0, ro, some L⟩ G F' ((⟨st.vars, st.tmps, st.mem, st.nx + 1⟩ : St).put fr o.dst (.sc (.bool b))) (a.put o.dst (.bool b)) w' := fun b =>
  s1.step_put (st1 := ⟨st.vars, st.tmps, st.mem, st.nx + 1⟩) .refl (s1.sim.mem.more (Nat.le_succ _)) rfl rfl (fun j hj => s.fresh j (Nat.le_of_succ_le hj)) (dok_spec hd) (.imm (.sc _))
 have hx' := hx.envs E fun b hb => .inr hb
 have fin : ∀ (b : Bool), J (if b = true then some (n + 1) else none) F' (OwnX G st.mem X) w' → InY P fr ro h0 J R ((⟨st.vars, st.tmps, st.mem, st.nx + 1⟩ : St).put fr o.dst (.sc (.bool b))) (if b = true then some (n + 1) else none) (a.put o.dst (.bool b)) w' := fun b hj' =>
  ⟨X, L, G, F', by rw [St.put_mem]; exact hx', hm, hput b, by rw [St.put_mem]; exact hj'⟩
 rcases h1 with ⟨rfl, hj'⟩ | ⟨rfl, hj'⟩
 ·exact hK true _ _ (fin true hj')
 ·exact hK false _ _ (fin false hj')
theorem XRY.yieldG {lp j g : Nat} {want : Bool} {xs : List (List AV)} {n : Nat} {callee : Operand} {args : Array Operand} {tys : Array TypeId} (hn : n < xs.length) (hy : Yields P J lp xs) (hg : o.guard = some (j, want)) (hj : gslot ops j = some g) (hk : gval want (st.get fr g) = some true) (hop : o.op = .call ⟨.value callee, args, tys⟩) (hd : dok fr o.dst = true)
  (hcal : od fr st true callee = .sc (yv lp)) (hxs : callArgs fr st args = xs[n]) (hnr : AV.norefs xs[n] = true)
  (h : ∀ b : Bool, XRY P fr ro h0 J ops rest ((⟨st.vars, st.tmps, st.mem, st.nx + 1⟩ : St).put fr o.dst (.sc (.bool b))) (if b = true then some (n + 1) else none) Q) : XRY P fr ro h0 J ops (o :: rest) st (some n) Q := by
 intro R a w i
 have hw : Region.wanted o (yielded ops a.tmps) = true := by
  obtain ⟨X, L, G, F, hx, hm, s, hj'⟩ := i
  exact wanted_ok s hg hj hk
 simp only [wpListIn, hw, if_true]
 exact yield_core hn hy hop hd hcal hxs hnr (fun b a w i => h b R a w i) i
end
section
variable {P : Program} {fr : Fr} {ro : Option Nat} {ds : DS} {st st' : St} {Q Q' : Exit → St → Prop} {x y c : Code} {l rest : List Oper} {o : Oper} {ok : Bool} {id : Nat} {ops : Array Oper} {its : List It}
theorem EvC.a (hq : EvC P fr ro ds y st'.clr Q) (h : xrun P fr l st.clr true = .done ok st' := by simp only [go_sem] <;> rfl) (hok : ok = true := by simp) : EvC P fr ro ds (.seq (.region id l.toArray false) y) st Q := .seq (.rg h hok hq)
theorem EvC.b (hq : Q .normal st'.clr) (h : xrun P fr l st.clr true = .done ok st' := by simp only [go_sem] <;> rfl) (hok : ok = true := by simp) : EvC P fr ro ds (.region id l.toArray false) st Q := .rg h hok hq
theorem EvC.s1 (ht : Tr P fr ro ds l.toArray st.nx l st.clr its st') (hq : EvC P fr ro ds y (st'.fin (st.nx + its.length)) Q) : EvC P fr ro ds (.seq (.region id l.toArray false) y) st Q := .seq (.tr ht hq)
theorem EvC.ct {o : Operand} (ht : EvC P fr ro ds x st Q) (ho : opnd fr st o = .sc (.bool true) := by simp only [go_sem] <;> rfl) : EvC P fr ro ds (.cond o x y) st Q := .cond_true ho ht
theorem EvC.cf {o : Operand} (ht : EvC P fr ro ds y st Q) (ho : opnd fr st o = .sc (.bool false) := by simp only [go_sem] <;> rfl) : EvC P fr ro ds (.cond o x y) st Q := .cond_false ho ht
theorem EvC.cs {o : Operand} (h : Q .normal st) (ho : opnd fr st o = .sc (.bool false) := by simp only [go_sem] <;> rfl) : EvC P fr ro ds (.cond o x .skip) st Q := .cond_false ho (.skip h)
theorem EvC.cr {o : Operand} (h : Q .normal st) (ho : opnd fr st o = .sc (.bool true) := by simp only [go_sem] <;> rfl) : EvC P fr ro ds (.cond o .skip y) st Q := .cond_true ho (.skip h)
theorem EvC.z (i : Nat) (hc : EvC P fr ro ds c st' Q) (h : st.frzB i = some st' := by simp only [go_sem] <;> rfl) : EvC P fr ro ds c st Q := .frzB i h hc
theorem EvC.rz {results : List ResultVar} {r : AV} {rs : List AV} (h2 : mkRes rs = r) (hQ : Q .ret st = retP P fr results r .ret st := by rfl) (h1 : resAll P fr st results = some rs := by simp only [go_sem] <;> rfl) (h3 : r.noref = true := by rfl) : EvC P fr ro ds .ret st Q := .ret (by rw [hQ]; exact ⟨.inl rfl, _, h1, h2, h3⟩)
theorem OpIs.ca {f : FuncId} {cs : List AV} {callee : Operand} {args : Array Operand} {tys : Array TypeId} {xs : List AV} {v : AV} {rd : List Nat} (hc : PureIs P f xs v) (hg : o.guard = none := by rfl) (hop : o.op = .call ⟨.value callee, args, tys⟩ := by rfl) (hd : dok fr o.dst = true := by simp only [go_sem] <;> rfl)
 (hcal : od fr st true callee = .fn f cs := by simp only [go_sem] <;> rfl) (hxs : callArgs fr st args ++ cs = xs := by simp only [go_sem] <;> rfl) (hn : AV.norefs xs = true := by simp only [go_sem] <;> rfl) (hrd : rdOf fr st [] o = rd := by simp only [go_sem] <;> rfl) : OpIs P fr ro ds ops id st ⟨o, ⟨v, none⟩, rd⟩ := .call hg hop hd hcal hxs hn hrd hc
theorem OpIs.cg {j k : Nat} {want : Bool} {f : FuncId} {cs : List AV} {callee : Operand} {args : Array Operand} {tys : Array TypeId} {xs : List AV} {v : AV} {rd : List Nat} (hc : PureIs P f xs v) (hg : o.guard = some (j, want) := by rfl) (hj : gslot ops j = some k := by rfl) (hk : gval want (st.get fr k) = some true := by simp only [go_sem] <;> rfl)
 (hop : o.op = .call ⟨.value callee, args, tys⟩ := by rfl) (hd : dok fr o.dst = true := by simp only [go_sem] <;> rfl)
 (hcal : od fr st true callee = .fn f cs := by simp only [go_sem] <;> rfl) (hxs : callArgs fr st args ++ cs = xs := by simp only [go_sem] <;> rfl) (hn : AV.norefs xs = true := by simp only [go_sem] <;> rfl) (hrd : rdOf fr st [2 * k] o = rd := by simp only [go_sem] <;> rfl) : OpIs P fr ro ds ops id st ⟨o, ⟨v, none⟩, rd⟩ := .callG hg hj hk hop hd hcal hxs hn hrd hc
theorem PureIs.of1 (nv : Nat) (hid : List Nat) {f : FuncId} {fn : Func} {args : List AV} {r : AV} {n : Nat} {rs : Array ResultVar} (hf : P.funcs[f]? = some fn) (hn : fn.ntmps = n) (hr : fn.results = rs)
  (h : ∀ h0 : Nat, EvC P ⟨0, nv, hid, n⟩ none ⟨h0, none, false⟩ c (st0 args) (retP P ⟨0, nv, hid, n⟩ rs.toList r)) (hb : fn.body = some c := by rfl) (hnm : (fn.name == "runtime.NumGoroutine") = false := by kernel_rfl) (hsz : args.length ≤ n := by simp) : PureIs P f args r := by
 subst hn hr
 exact .of hf hb hnm hsz h
end
section
variable {P : Program} {fr : Fr} {ro : Option Nat} {ds : DS} {st st1 st2 st3 st4 : St} {Q : Exit → St → Prop} {y : Code} {l r1 r2 r3 : List Oper} {o1 o2 o3 : Oper} {b1 b2 b3 b4 : Bool} {id n1 n2 n3 : Nat} {i1 i2 i3 i4 : List It} {x1 x2 x3 : Rc} {d1 d2 d3 : List Nat}
theorem EvC.g (hq : EvC P fr ro ds y (st1.fin (st.nx + i1.length)) Q) (h : trun P fr l l st.nx st.clr = .done b1 i1 st1 := by simp only [go_sem] <;> rfl) (hok : b1 = true := by simp) : EvC P fr ro ds (.seq (.region id l.toArray false) y) st Q := .seq (.trd h hok hq)
theorem EvC.gL (hq : Q .normal (st1.fin (st.nx + i1.length))) (h : trun P fr l l st.nx st.clr = .done b1 i1 st1 := by simp only [go_sem] <;> rfl) (hok : b1 = true := by simp) : EvC P fr ro ds (.region id l.toArray false) st Q := .trd h hok hq
theorem EvC.d (m : P.follows .mixedOrders = true) (hq : EvC P fr ro ds y (st1.fin (st.nx + i1.length)) Q) (h : trun P fr l l st.nx st.clr = .done b1 i1 st1 := by simp only [go_sem] <;> rfl) (hok : b1 = true := by simp) (hc : confAll i1 0 i1 = true := by kernel_rfl) : EvC P fr ro ds (.seq (.region id l.toArray true) y) st Q := .seq (.drd m h hok hc hq)
theorem EvC.dL (m : P.follows .mixedOrders = true) (hq : Q .normal (st1.fin (st.nx + i1.length))) (h : trun P fr l l st.nx st.clr = .done b1 i1 st1 := by simp only [go_sem] <;> rfl) (hok : b1 = true := by simp) (hc : confAll i1 0 i1 = true := by kernel_rfl) : EvC P fr ro ds (.region id l.toArray true) st Q := .drd m h hok hc hq
theorem EvC.k1 (hq : EvC P fr ro ds y (st2.fin (st.nx + (i1 ++ ⟨o1, x1, d1⟩ :: i2).length)) Q) (h1 : trun P fr l l st.nx st.clr = .stop b1 i1 st1 (o1 :: r1) n1 := by simp only [go_sem] <;> rfl) (k1 : b1 = true := by simp)
 (c1 : OpIs P fr ro ds l.toArray n1 st1 ⟨o1, x1, d1⟩) (h2 : trun P fr l r1 (n1 + 1) (run1 fr o1.dst x1 st1) = .done b2 i2 st2 := by simp only [go_sem] <;> rfl) (k2 : b2 = true := by simp) : EvC P fr ro ds (.seq (.region id l.toArray false) y) st Q := .seq (.tr (.run h1 k1 (.cons c1 (.done h2 k2))) hq)
theorem EvC.k1L (hq : Q .normal (st2.fin (st.nx + (i1 ++ ⟨o1, x1, d1⟩ :: i2).length))) (h1 : trun P fr l l st.nx st.clr = .stop b1 i1 st1 (o1 :: r1) n1 := by simp only [go_sem] <;> rfl) (k1 : b1 = true := by simp)
 (c1 : OpIs P fr ro ds l.toArray n1 st1 ⟨o1, x1, d1⟩) (h2 : trun P fr l r1 (n1 + 1) (run1 fr o1.dst x1 st1) = .done b2 i2 st2 := by simp only [go_sem] <;> rfl) (k2 : b2 = true := by simp) : EvC P fr ro ds (.region id l.toArray false) st Q := .tr (.run h1 k1 (.cons c1 (.done h2 k2))) hq
theorem EvC.k1D (m : P.follows .mixedOrders = true) (hq : EvC P fr ro ds y (st2.fin (st.nx + (i1 ++ ⟨o1, x1, d1⟩ :: i2).length)) Q) (h1 : trun P fr l l st.nx st.clr = .stop b1 i1 st1 (o1 :: r1) n1 := by simp only [go_sem] <;> rfl) (k1 : b1 = true := by simp)
 (c1 : OpIs P fr ro ds l.toArray n1 st1 ⟨o1, x1, d1⟩) (h2 : trun P fr l r1 (n1 + 1) (run1 fr o1.dst x1 st1) = .done b2 i2 st2 := by simp only [go_sem] <;> rfl) (k2 : b2 = true := by simp) (hc : confAll (i1 ++ ⟨o1, x1, d1⟩ :: i2) 0 (i1 ++ ⟨o1, x1, d1⟩ :: i2) = true := by kernel_rfl) : EvC P fr ro ds (.seq (.region id l.toArray true) y) st Q := .seq (.drw m (.run h1 k1 (.cons c1 (.done h2 k2))) hc hq)
theorem EvC.k1LD (m : P.follows .mixedOrders = true) (hq : Q .normal (st2.fin (st.nx + (i1 ++ ⟨o1, x1, d1⟩ :: i2).length))) (h1 : trun P fr l l st.nx st.clr = .stop b1 i1 st1 (o1 :: r1) n1 := by simp only [go_sem] <;> rfl) (k1 : b1 = true := by simp)
 (c1 : OpIs P fr ro ds l.toArray n1 st1 ⟨o1, x1, d1⟩) (h2 : trun P fr l r1 (n1 + 1) (run1 fr o1.dst x1 st1) = .done b2 i2 st2 := by simp only [go_sem] <;> rfl) (k2 : b2 = true := by simp) (hc : confAll (i1 ++ ⟨o1, x1, d1⟩ :: i2) 0 (i1 ++ ⟨o1, x1, d1⟩ :: i2) = true := by kernel_rfl) : EvC P fr ro ds (.region id l.toArray true) st Q := .drw m (.run h1 k1 (.cons c1 (.done h2 k2))) hc hq
theorem EvC.k2 (hq : EvC P fr ro ds y (st3.fin (st.nx + (i1 ++ ⟨o1, x1, d1⟩ :: (i2 ++ ⟨o2, x2, d2⟩ :: i3)).length)) Q) (h1 : trun P fr l l st.nx st.clr = .stop b1 i1 st1 (o1 :: r1) n1 := by simp only [go_sem] <;> rfl) (k1 : b1 = true := by simp)
 (c1 : OpIs P fr ro ds l.toArray n1 st1 ⟨o1, x1, d1⟩) (h2 : trun P fr l r1 (n1 + 1) (run1 fr o1.dst x1 st1) = .stop b2 i2 st2 (o2 :: r2) n2 := by simp only [go_sem] <;> rfl) (k2 : b2 = true := by simp)
 (c2 : OpIs P fr ro ds l.toArray n2 st2 ⟨o2, x2, d2⟩) (h3 : trun P fr l r2 (n2 + 1) (run1 fr o2.dst x2 st2) = .done b3 i3 st3 := by simp only [go_sem] <;> rfl) (k3 : b3 = true := by simp) : EvC P fr ro ds (.seq (.region id l.toArray false) y) st Q := .seq (.tr (.run h1 k1 (.cons c1 (.run h2 k2 (.cons c2 (.done h3 k3))))) hq)
theorem EvC.k2D (m : P.follows .mixedOrders = true) (hq : EvC P fr ro ds y (st3.fin (st.nx + (i1 ++ ⟨o1, x1, d1⟩ :: (i2 ++ ⟨o2, x2, d2⟩ :: i3)).length)) Q) (h1 : trun P fr l l st.nx st.clr = .stop b1 i1 st1 (o1 :: r1) n1 := by simp only [go_sem] <;> rfl) (k1 : b1 = true := by simp)
 (c1 : OpIs P fr ro ds l.toArray n1 st1 ⟨o1, x1, d1⟩) (h2 : trun P fr l r1 (n1 + 1) (run1 fr o1.dst x1 st1) = .stop b2 i2 st2 (o2 :: r2) n2 := by simp only [go_sem] <;> rfl) (k2 : b2 = true := by simp)
 (c2 : OpIs P fr ro ds l.toArray n2 st2 ⟨o2, x2, d2⟩) (h3 : trun P fr l r2 (n2 + 1) (run1 fr o2.dst x2 st2) = .done b3 i3 st3 := by simp only [go_sem] <;> rfl) (k3 : b3 = true := by simp) (hc : confAll (i1 ++ ⟨o1, x1, d1⟩ :: (i2 ++ ⟨o2, x2, d2⟩ :: i3)) 0 (i1 ++ ⟨o1, x1, d1⟩ :: (i2 ++ ⟨o2, x2, d2⟩ :: i3)) = true := by kernel_rfl) : EvC P fr ro ds (.seq (.region id l.toArray true) y) st Q := .seq (.drw m (.run h1 k1 (.cons c1 (.run h2 k2 (.cons c2 (.done h3 k3))))) hc hq)
theorem EvC.k3 (hq : EvC P fr ro ds y (st4.fin (st.nx + (i1 ++ ⟨o1, x1, d1⟩ :: (i2 ++ ⟨o2, x2, d2⟩ :: (i3 ++ ⟨o3, x3, d3⟩ :: i4))).length)) Q) (h1 : trun P fr l l st.nx st.clr = .stop b1 i1 st1 (o1 :: r1) n1 := by simp only [go_sem] <;> rfl) (k1 : b1 = true := by simp)
 (c1 : OpIs P fr ro ds l.toArray n1 st1 ⟨o1, x1, d1⟩) (h2 : trun P fr l r1 (n1 + 1) (run1 fr o1.dst x1 st1) = .stop b2 i2 st2 (o2 :: r2) n2 := by simp only [go_sem] <;> rfl) (k2 : b2 = true := by simp)
 (c2 : OpIs P fr ro ds l.toArray n2 st2 ⟨o2, x2, d2⟩) (h3 : trun P fr l r2 (n2 + 1) (run1 fr o2.dst x2 st2) = .stop b3 i3 st3 (o3 :: r3) n3 := by simp only [go_sem] <;> rfl) (k3 : b3 = true := by simp)
 (c3 : OpIs P fr ro ds l.toArray n3 st3 ⟨o3, x3, d3⟩) (h4 : trun P fr l r3 (n3 + 1) (run1 fr o3.dst x3 st3) = .done b4 i4 st4 := by simp only [go_sem] <;> rfl) (k4 : b4 = true := by simp) : EvC P fr ro ds (.seq (.region id l.toArray false) y) st Q := .seq (.tr (.run h1 k1 (.cons c1 (.run h2 k2 (.cons c2 (.run h3 k3 (.cons c3 (.done h4 k4))))))) hq)
end
open Go Go.Proofs.Tryz
@[go_sem] theorem ty_cellsOf_103 : Program.cellsOf prog 103 = 1 := by kernel_rfl
@[go_sem] theorem ty_cellsOf_119 : Program.cellsOf prog 119 = 4 := by kernel_rfl
@[go_sem] theorem ty_cellsOf_159 : Program.cellsOf prog 159 = 2 := by kernel_rfl
@[go_sem] theorem ty_cellsOf_172 : Program.cellsOf prog 172 = 4 := by kernel_rfl
@[go_sem] theorem ty_cellsOf_22 : Program.cellsOf prog 22 = 1 := by kernel_rfl
@[go_sem] theorem ty_cellsOf_25 : Program.cellsOf prog 25 = 1 := by kernel_rfl
@[go_sem] theorem ty_cellsOf_28 : Program.cellsOf prog 28 = 1 := by kernel_rfl
@[go_sem] theorem ty_cellsOf_3 : Program.cellsOf prog 3 = 1 := by kernel_rfl
@[go_sem] theorem ty_cellsOf_30 : Program.cellsOf prog 30 = 3 := by kernel_rfl
@[go_sem] theorem ty_cellsOf_32 : Program.cellsOf prog 32 = 1 := by kernel_rfl
@[go_sem] theorem ty_cellsOf_35 : Program.cellsOf prog 35 = 1 := by kernel_rfl
@[go_sem] theorem ty_cellsOf_37 : Program.cellsOf prog 37 = 1 := by kernel_rfl
@[go_sem] theorem ty_cellsOf_38 : Program.cellsOf prog 38 = 1 := by kernel_rfl
@[go_sem] theorem ty_cellsOf_4 : Program.cellsOf prog 4 = 1 := by kernel_rfl
@[go_sem] theorem ty_cellsOf_46 : Program.cellsOf prog 46 = 6 := by kernel_rfl
@[go_sem] theorem ty_cellsOf_5 : Program.cellsOf prog 5 = 1 := by kernel_rfl
@[go_sem] theorem ty_cellsOf_50 : Program.cellsOf prog 50 = 1 := by kernel_rfl
@[go_sem] theorem ty_cellsOf_51 : Program.cellsOf prog 51 = 1 := by kernel_rfl
@[go_sem] theorem ty_cellsOf_53 : Program.cellsOf prog 53 = 2 := by kernel_rfl
@[go_sem] theorem ty_cellsOf_61 : Program.cellsOf prog 61 = 1 := by kernel_rfl
@[go_sem] theorem ty_cellsOf_63 : Program.cellsOf prog 63 = 1 := by kernel_rfl
@[go_sem] theorem ty_cellsOf_70 : Program.cellsOf prog 70 = 1 := by kernel_rfl
@[go_sem] theorem ty_cellsOf_75 : Program.cellsOf prog 75 = 12 := by kernel_rfl
@[go_sem] theorem ty_cellsOf_76 : Program.cellsOf prog 76 = 1 := by kernel_rfl
@[go_sem] theorem ty_cellsOf_85 : Program.cellsOf prog 85 = 1 := by kernel_rfl
@[go_sem] theorem ty_eqKinds_157 : eqKinds prog 157 = none := by kernel_rfl
@[go_sem] theorem ty_eqKinds_159 : eqKinds prog 159 = some [Kd.int IntKind.i64, Kd.int IntKind.i64] := by kernel_rfl
@[go_sem] theorem ty_eqKinds_3 : eqKinds prog 3 = none := by kernel_rfl
@[go_sem] theorem ty_eqKinds_38 : eqKinds prog 38 = none := by kernel_rfl
@[go_sem] theorem ty_eqKinds_4 : eqKinds prog 4 = none := by kernel_rfl
@[go_sem] theorem ty_eqKinds_5 : eqKinds prog 5 = none := by kernel_rfl
@[go_sem] theorem ty_eqKinds_50 : eqKinds prog 50 = none := by kernel_rfl
@[go_sem] theorem ty_eqKinds_53 : eqKinds prog 53 = some [Kd.int IntKind.i64, Kd.int IntKind.i64] := by kernel_rfl
@[go_sem] theorem ty_eqKinds_75 : eqKinds prog 75 = some [Kd.int IntKind.i64, Kd.int IntKind.i64, Kd.int IntKind.i64, Kd.int IntKind.i64, Kd.int IntKind.i64, Kd.int IntKind.i64, Kd.int IntKind.i64, Kd.int IntKind.i64, Kd.int IntKind.i64, Kd.int IntKind.i64, Kd.int IntKind.i64, Kd.int IntKind.i64] := by kernel_rfl
@[go_sem] theorem ty_kindsOf_159 : kindsOf prog 8 159 = some [Kd.int IntKind.i64, Kd.int IntKind.i64] := by kernel_rfl
@[go_sem] theorem ty_nilTy_157 : nilTy prog 157 = 0 := by kernel_rfl
@[go_sem] theorem ty_nilTy_159 : nilTy prog 159 = 0 := by kernel_rfl
@[go_sem] theorem ty_nilTy_3 : nilTy prog 3 = 0 := by kernel_rfl
@[go_sem] theorem ty_nilTy_38 : nilTy prog 38 = 0 := by kernel_rfl
@[go_sem] theorem ty_nilTy_4 : nilTy prog 4 = 0 := by kernel_rfl
@[go_sem] theorem ty_nilTy_5 : nilTy prog 5 = 0 := by kernel_rfl
@[go_sem] theorem ty_nilTy_50 : nilTy prog 50 = 1 := by kernel_rfl
@[go_sem] theorem ty_nilTy_53 : nilTy prog 53 = 0 := by kernel_rfl
@[go_sem] theorem ty_nilTy_75 : nilTy prog 75 = 0 := by kernel_rfl
@[go_sem] theorem ty_placeOf_119_0 : placeOf prog 119 0 = some (0, 1) := by kernel_rfl
@[go_sem] theorem ty_placeOf_119_1 : placeOf prog 119 1 = some (1, 1) := by kernel_rfl
@[go_sem] theorem ty_placeOf_119_2 : placeOf prog 119 2 = some (2, 1) := by kernel_rfl
@[go_sem] theorem ty_placeOf_119_3 : placeOf prog 119 3 = some (3, 1) := by kernel_rfl
@[go_sem] theorem ty_placeOf_120_0 : placeOf prog 120 0 = some (0, 4) := by kernel_rfl
@[go_sem] theorem ty_placeOf_120_1 : placeOf prog 120 1 = some (4, 4) := by kernel_rfl
@[go_sem] theorem ty_placeOf_120_2 : placeOf prog 120 2 = some (8, 4) := by kernel_rfl
@[go_sem] theorem ty_placeOf_120_3 : placeOf prog 120 3 = some (12, 4) := by kernel_rfl
@[go_sem] theorem ty_placeOf_120_4 : placeOf prog 120 4 = some (16, 4) := by kernel_rfl
@[go_sem] theorem ty_placeOf_159_0 : placeOf prog 159 0 = some (0, 1) := by kernel_rfl
@[go_sem] theorem ty_placeOf_159_1 : placeOf prog 159 1 = some (1, 1) := by kernel_rfl
@[go_sem] theorem ty_placeOf_164_0 : placeOf prog 164 0 = some (0, 1) := by kernel_rfl
@[go_sem] theorem ty_placeOf_164_1 : placeOf prog 164 1 = some (1, 1) := by kernel_rfl
@[go_sem] theorem ty_placeOf_164_2 : placeOf prog 164 2 = some (2, 2) := by kernel_rfl
@[go_sem] theorem ty_placeOf_164_3 : placeOf prog 164 3 = some (4, 2) := by kernel_rfl
@[go_sem] theorem ty_placeOf_172_0 : placeOf prog 172 0 = some (0, 2) := by kernel_rfl
@[go_sem] theorem ty_placeOf_172_1 : placeOf prog 172 1 = some (2, 1) := by kernel_rfl
@[go_sem] theorem ty_placeOf_172_2 : placeOf prog 172 2 = some (3, 1) := by kernel_rfl
@[go_sem] theorem ty_placeOf_30_0 : placeOf prog 30 0 = some (0, 1) := by kernel_rfl
@[go_sem] theorem ty_placeOf_30_1 : placeOf prog 30 1 = some (1, 1) := by kernel_rfl
@[go_sem] theorem ty_placeOf_30_2 : placeOf prog 30 2 = some (2, 1) := by kernel_rfl
@[go_sem] theorem ty_placeOf_46_0 : placeOf prog 46 0 = some (0, 1) := by kernel_rfl
@[go_sem] theorem ty_placeOf_46_1 : placeOf prog 46 1 = some (1, 1) := by kernel_rfl
@[go_sem] theorem ty_placeOf_46_2 : placeOf prog 46 2 = some (2, 1) := by kernel_rfl
@[go_sem] theorem ty_placeOf_46_3 : placeOf prog 46 3 = some (3, 1) := by kernel_rfl
@[go_sem] theorem ty_placeOf_46_4 : placeOf prog 46 4 = some (4, 1) := by kernel_rfl
@[go_sem] theorem ty_placeOf_46_5 : placeOf prog 46 5 = some (5, 1) := by kernel_rfl
@[go_sem] theorem ty_placeOf_53_0 : placeOf prog 53 0 = some (0, 1) := by kernel_rfl
@[go_sem] theorem ty_placeOf_53_1 : placeOf prog 53 1 = some (1, 1) := by kernel_rfl
@[go_sem] theorem ty_placeOf_57_0 : placeOf prog 57 0 = some (0, 1) := by kernel_rfl
@[go_sem] theorem ty_placeOf_75_0 : placeOf prog 75 0 = some (0, 6) := by kernel_rfl
@[go_sem] theorem ty_placeOf_75_1 : placeOf prog 75 1 = some (6, 6) := by kernel_rfl
@[go_sem] theorem ty_tarr_103 : tarr prog 103 = none := by kernel_rfl
@[go_sem] theorem ty_tarr_120 : tarr prog 120 = some (5, 119) := by kernel_rfl
@[go_sem] theorem ty_tarr_153 : tarr prog 153 = none := by kernel_rfl
@[go_sem] theorem ty_tarr_159 : tarr prog 159 = some (2, 3) := by kernel_rfl
@[go_sem] theorem ty_tarr_165 : tarr prog 165 = none := by kernel_rfl
@[go_sem] theorem ty_tarr_168 : tarr prog 168 = none := by kernel_rfl
@[go_sem] theorem ty_tarr_22 : tarr prog 22 = none := by kernel_rfl
@[go_sem] theorem ty_tarr_25 : tarr prog 25 = none := by kernel_rfl
@[go_sem] theorem ty_tarr_28 : tarr prog 28 = none := by kernel_rfl
@[go_sem] theorem ty_tarr_32 : tarr prog 32 = none := by kernel_rfl
@[go_sem] theorem ty_tarr_35 : tarr prog 35 = none := by kernel_rfl
@[go_sem] theorem ty_tarr_37 : tarr prog 37 = none := by kernel_rfl
@[go_sem] theorem ty_tarr_50 : tarr prog 50 = none := by kernel_rfl
@[go_sem] theorem ty_tarr_61 : tarr prog 61 = none := by kernel_rfl
@[go_sem] theorem ty_tarr_70 : tarr prog 70 = none := by kernel_rfl
@[go_sem] theorem ty_tarr_76 : tarr prog 76 = none := by kernel_rfl
@[go_sem] theorem ty_tarr_85 : tarr prog 85 = none := by kernel_rfl
@[go_sem] theorem ty_tbool_157 : tbool prog 157 = false := by kernel_rfl
@[go_sem] theorem ty_tbool_159 : tbool prog 159 = false := by kernel_rfl
@[go_sem] theorem ty_tbool_3 : tbool prog 3 = false := by kernel_rfl
@[go_sem] theorem ty_tbool_38 : tbool prog 38 = false := by kernel_rfl
@[go_sem] theorem ty_tbool_4 : tbool prog 4 = true := by kernel_rfl
@[go_sem] theorem ty_tbool_5 : tbool prog 5 = false := by kernel_rfl
@[go_sem] theorem ty_tbool_50 : tbool prog 50 = false := by kernel_rfl
@[go_sem] theorem ty_tbool_53 : tbool prog 53 = false := by kernel_rfl
@[go_sem] theorem ty_tbool_75 : tbool prog 75 = false := by kernel_rfl
@[go_sem] theorem ty_tbuild_119 : tbuild prog 119 = true := by kernel_rfl
@[go_sem] theorem ty_tbuild_120 : tbuild prog 120 = true := by kernel_rfl
@[go_sem] theorem ty_tbuild_159 : tbuild prog 159 = true := by kernel_rfl
@[go_sem] theorem ty_tbuild_164 : tbuild prog 164 = true := by kernel_rfl
@[go_sem] theorem ty_tbuild_172 : tbuild prog 172 = true := by kernel_rfl
@[go_sem] theorem ty_tbuild_30 : tbuild prog 30 = true := by kernel_rfl
@[go_sem] theorem ty_tbuild_46 : tbuild prog 46 = true := by kernel_rfl
@[go_sem] theorem ty_tbuild_53 : tbuild prog 53 = true := by kernel_rfl
@[go_sem] theorem ty_tbuild_57 : tbuild prog 57 = true := by kernel_rfl
@[go_sem] theorem ty_tbuild_75 : tbuild prog 75 = true := by kernel_rfl
@[go_sem] theorem ty_telem_103 : telem prog 103 = some 30 := by kernel_rfl
@[go_sem] theorem ty_telem_109 : telem prog 109 = none := by kernel_rfl
@[go_sem] theorem ty_telem_113 : telem prog 113 = none := by kernel_rfl
@[go_sem] theorem ty_telem_120 : telem prog 120 = none := by kernel_rfl
@[go_sem] theorem ty_telem_153 : telem prog 153 = some 159 := by kernel_rfl
@[go_sem] theorem ty_telem_159 : telem prog 159 = none := by kernel_rfl
@[go_sem] theorem ty_telem_164 : telem prog 164 = none := by kernel_rfl
@[go_sem] theorem ty_telem_165 : telem prog 165 = some 172 := by kernel_rfl
@[go_sem] theorem ty_telem_168 : telem prog 168 = some 38 := by kernel_rfl
@[go_sem] theorem ty_telem_22 : telem prog 22 = some 51 := by kernel_rfl
@[go_sem] theorem ty_telem_24 : telem prog 24 = none := by kernel_rfl
@[go_sem] theorem ty_telem_25 : telem prog 25 = some 85 := by kernel_rfl
@[go_sem] theorem ty_telem_27 : telem prog 27 = none := by kernel_rfl
@[go_sem] theorem ty_telem_28 : telem prog 28 = some 50 := by kernel_rfl
@[go_sem] theorem ty_telem_3 : telem prog 3 = none := by kernel_rfl
@[go_sem] theorem ty_telem_30 : telem prog 30 = none := by kernel_rfl
@[go_sem] theorem ty_telem_32 : telem prog 32 = some 37 := by kernel_rfl
@[go_sem] theorem ty_telem_35 : telem prog 35 = some 46 := by kernel_rfl
@[go_sem] theorem ty_telem_37 : telem prog 37 = some 3 := by kernel_rfl
@[go_sem] theorem ty_telem_46 : telem prog 46 = none := by kernel_rfl
@[go_sem] theorem ty_telem_50 : telem prog 50 = some 53 := by kernel_rfl
@[go_sem] theorem ty_telem_53 : telem prog 53 = none := by kernel_rfl
@[go_sem] theorem ty_telem_57 : telem prog 57 = none := by kernel_rfl
@[go_sem] theorem ty_telem_61 : telem prog 61 = some 63 := by kernel_rfl
@[go_sem] theorem ty_telem_63 : telem prog 63 = none := by kernel_rfl
@[go_sem] theorem ty_telem_70 : telem prog 70 = some 4 := by kernel_rfl
@[go_sem] theorem ty_telem_75 : telem prog 75 = none := by kernel_rfl
@[go_sem] theorem ty_telem_76 : telem prog 76 = some 75 := by kernel_rfl
@[go_sem] theorem ty_telem_85 : telem prog 85 = some 5 := by kernel_rfl
@[go_sem] theorem ty_telem_94 : telem prog 94 = none := by kernel_rfl
@[go_sem] theorem ty_telem_98 : telem prog 98 = none := by kernel_rfl
@[go_sem] theorem ty_tfield_119_1 : tfield prog 119 1 = some (1, 4) := by kernel_rfl
@[go_sem] theorem ty_tfield_119_2 : tfield prog 119 2 = some (2, 4) := by kernel_rfl
@[go_sem] theorem ty_tfield_119_3 : tfield prog 119 3 = some (3, 4) := by kernel_rfl
@[go_sem] theorem ty_tfield_164_0 : tfield prog 164 0 = some (0, 3) := by kernel_rfl
@[go_sem] theorem ty_tfield_164_1 : tfield prog 164 1 = some (1, 3) := by kernel_rfl
@[go_sem] theorem ty_tfield_164_2 : tfield prog 164 2 = some (2, 53) := by kernel_rfl
@[go_sem] theorem ty_tfield_164_3 : tfield prog 164 3 = some (4, 53) := by kernel_rfl
@[go_sem] theorem ty_tfield_172_0 : tfield prog 172 0 = some (0, 159) := by kernel_rfl
@[go_sem] theorem ty_tfield_172_1 : tfield prog 172 1 = some (2, 3) := by kernel_rfl
@[go_sem] theorem ty_tfield_172_2 : tfield prog 172 2 = some (3, 3) := by kernel_rfl
@[go_sem] theorem ty_tfield_24_0 : tfield prog 24 0 = some (0, 5) := by kernel_rfl
@[go_sem] theorem ty_tfield_24_1 : tfield prog 24 1 = some (1, 5) := by kernel_rfl
@[go_sem] theorem ty_tfield_24_2 : tfield prog 24 2 = some (2, 5) := by kernel_rfl
@[go_sem] theorem ty_tfield_24_3 : tfield prog 24 3 = some (3, 4) := by kernel_rfl
@[go_sem] theorem ty_tfield_24_4 : tfield prog 24 4 = some (4, 22) := by kernel_rfl
@[go_sem] theorem ty_tfield_27_0 : tfield prog 27 0 = some (0, 5) := by kernel_rfl
@[go_sem] theorem ty_tfield_27_1 : tfield prog 27 1 = some (1, 25) := by kernel_rfl
@[go_sem] theorem ty_tfield_30_0 : tfield prog 30 0 = some (0, 3) := by kernel_rfl
@[go_sem] theorem ty_tfield_30_1 : tfield prog 30 1 = some (1, 3) := by kernel_rfl
@[go_sem] theorem ty_tfield_30_2 : tfield prog 30 2 = some (2, 28) := by kernel_rfl
@[go_sem] theorem ty_tfield_46_0 : tfield prog 46 0 = some (0, 3) := by kernel_rfl
@[go_sem] theorem ty_tfield_46_1 : tfield prog 46 1 = some (1, 3) := by kernel_rfl
@[go_sem] theorem ty_tfield_46_2 : tfield prog 46 2 = some (2, 3) := by kernel_rfl
@[go_sem] theorem ty_tfield_46_3 : tfield prog 46 3 = some (3, 3) := by kernel_rfl
@[go_sem] theorem ty_tfield_46_4 : tfield prog 46 4 = some (4, 3) := by kernel_rfl
@[go_sem] theorem ty_tfield_46_5 : tfield prog 46 5 = some (5, 3) := by kernel_rfl
@[go_sem] theorem ty_tfield_53_0 : tfield prog 53 0 = some (0, 3) := by kernel_rfl
@[go_sem] theorem ty_tfield_53_1 : tfield prog 53 1 = some (1, 3) := by kernel_rfl
@[go_sem] theorem ty_tfield_57_0 : tfield prog 57 0 = some (0, 51) := by kernel_rfl
@[go_sem] theorem ty_tfield_63_0 : tfield prog 63 0 = some (0, 37) := by kernel_rfl
@[go_sem] theorem ty_tfield_75_0 : tfield prog 75 0 = some (0, 46) := by kernel_rfl
@[go_sem] theorem ty_tfield_75_1 : tfield prog 75 1 = some (6, 46) := by kernel_rfl
@[go_sem] theorem ty_tinf_119 : tinf prog 119 = true := by kernel_rfl
@[go_sem] theorem ty_tinf_159 : tinf prog 159 = true := by kernel_rfl
@[go_sem] theorem ty_tinf_172 : tinf prog 172 = true := by kernel_rfl
@[go_sem] theorem ty_tinf_3 : tinf prog 3 = true := by kernel_rfl
@[go_sem] theorem ty_tinf_30 : tinf prog 30 = true := by kernel_rfl
@[go_sem] theorem ty_tinf_37 : tinf prog 37 = true := by kernel_rfl
@[go_sem] theorem ty_tinf_38 : tinf prog 38 = true := by kernel_rfl
@[go_sem] theorem ty_tinf_4 : tinf prog 4 = true := by kernel_rfl
@[go_sem] theorem ty_tinf_46 : tinf prog 46 = true := by kernel_rfl
@[go_sem] theorem ty_tinf_5 : tinf prog 5 = true := by kernel_rfl
@[go_sem] theorem ty_tinf_50 : tinf prog 50 = true := by kernel_rfl
@[go_sem] theorem ty_tinf_51 : tinf prog 51 = true := by kernel_rfl
@[go_sem] theorem ty_tinf_53 : tinf prog 53 = true := by kernel_rfl
@[go_sem] theorem ty_tinf_63 : tinf prog 63 = true := by kernel_rfl
@[go_sem] theorem ty_tinf_75 : tinf prog 75 = true := by kernel_rfl
@[go_sem] theorem ty_tinf_85 : tinf prog 85 = true := by kernel_rfl
@[go_sem] theorem ty_tinfo_116 : tinfo prog 116 = some { size := 1, agg := false, zero := [Value.nilFunc], bytes := 8 } := by kernel_rfl
@[go_sem] theorem ty_tinfo_119 : tinfo prog 119 = some { size := 4, agg := true, zero := [Value.string { data := { toList := [] } }, Value.bool false, Value.bool false, Value.bool false], bytes := 24 } := by kernel_rfl
@[go_sem] theorem ty_tinfo_120 : tinfo prog 120 = some { size := 20, agg := true, zero := [Value.string { data := { toList := [] } }, Value.bool false, Value.bool false, Value.bool false, Value.string { data := { toList := [] } }, Value.bool false, Value.bool false, Value.bool false, Value.string { data := { toList := [] } }, Value.bool false, Value.bool false, Value.bool false, Value.string { data := { toList := [] } }, Value.bool false, Value.bool false, Value.bool false, Value.string { data := { toList := [] } }, Value.bool false, Value.bool false, Value.bool false], bytes := 120 } := by kernel_rfl
@[go_sem] theorem ty_tinfo_153 : tinfo prog 153 = some { size := 1, agg := false, zero := [Value.slice none 0 0], bytes := 24 } := by kernel_rfl
@[go_sem] theorem ty_tinfo_159 : tinfo prog 159 = some { size := 2, agg := true, zero := [Value.int IntKind.i64 0, Value.int IntKind.i64 0], bytes := 16 } := by kernel_rfl
@[go_sem] theorem ty_tinfo_164 : tinfo prog 164 = some { size := 6, agg := true, zero := [Value.int IntKind.i64 0, Value.int IntKind.i64 0, Value.int IntKind.i64 0, Value.int IntKind.i64 0, Value.int IntKind.i64 0, Value.int IntKind.i64 0], bytes := 48 } := by kernel_rfl
@[go_sem] theorem ty_tinfo_172 : tinfo prog 172 = some { size := 4, agg := true, zero := [Value.int IntKind.i64 0, Value.int IntKind.i64 0, Value.int IntKind.i64 0, Value.int IntKind.i64 0], bytes := 32 } := by kernel_rfl
@[go_sem] theorem ty_tinfo_22 : tinfo prog 22 = some { size := 1, agg := false, zero := [Value.slice none 0 0], bytes := 24 } := by kernel_rfl
@[go_sem] theorem ty_tinfo_24 : tinfo prog 24 = some { size := 5, agg := true, zero := [Value.int IntKind.u8 0, Value.int IntKind.u8 0, Value.int IntKind.u8 0, Value.bool false, Value.slice none 0 0], bytes := 32 } := by kernel_rfl
@[go_sem] theorem ty_tinfo_25 : tinfo prog 25 = some { size := 1, agg := false, zero := [Value.slice none 0 0], bytes := 24 } := by kernel_rfl
@[go_sem] theorem ty_tinfo_27 : tinfo prog 27 = some { size := 2, agg := true, zero := [Value.int IntKind.u8 0, Value.slice none 0 0], bytes := 32 } := by kernel_rfl
@[go_sem] theorem ty_tinfo_28 : tinfo prog 28 = some { size := 1, agg := false, zero := [Value.slice none 0 0], bytes := 24 } := by kernel_rfl
@[go_sem] theorem ty_tinfo_3 : tinfo prog 3 = some { size := 1, agg := false, zero := [Value.int IntKind.i64 0], bytes := 8 } := by kernel_rfl
@[go_sem] theorem ty_tinfo_30 : tinfo prog 30 = some { size := 3, agg := true, zero := [Value.int IntKind.i64 0, Value.int IntKind.i64 0, Value.slice none 0 0], bytes := 40 } := by kernel_rfl
@[go_sem] theorem ty_tinfo_35 : tinfo prog 35 = some { size := 1, agg := false, zero := [Value.slice none 0 0], bytes := 24 } := by kernel_rfl
@[go_sem] theorem ty_tinfo_37 : tinfo prog 37 = some { size := 1, agg := false, zero := [Value.slice none 0 0], bytes := 24 } := by kernel_rfl
@[go_sem] theorem ty_tinfo_38 : tinfo prog 38 = some { size := 1, agg := false, zero := [Value.int IntKind.i64 0], bytes := 8 } := by kernel_rfl
@[go_sem] theorem ty_tinfo_4 : tinfo prog 4 = some { size := 1, agg := false, zero := [Value.bool false], bytes := 1 } := by kernel_rfl
@[go_sem] theorem ty_tinfo_46 : tinfo prog 46 = some { size := 6, agg := true, zero := [Value.int IntKind.i64 0, Value.int IntKind.i64 0, Value.int IntKind.i64 0, Value.int IntKind.i64 0, Value.int IntKind.i64 0, Value.int IntKind.i64 0], bytes := 48 } := by kernel_rfl
@[go_sem] theorem ty_tinfo_5 : tinfo prog 5 = some { size := 1, agg := false, zero := [Value.int IntKind.u8 0], bytes := 1 } := by kernel_rfl
@[go_sem] theorem ty_tinfo_50 : tinfo prog 50 = some { size := 1, agg := false, zero := [Value.slice none 0 0], bytes := 24 } := by kernel_rfl
@[go_sem] theorem ty_tinfo_51 : tinfo prog 51 = some { size := 1, agg := false, zero := [Value.int IntKind.u16 0], bytes := 2 } := by kernel_rfl
@[go_sem] theorem ty_tinfo_53 : tinfo prog 53 = some { size := 2, agg := true, zero := [Value.int IntKind.i64 0, Value.int IntKind.i64 0], bytes := 16 } := by kernel_rfl
@[go_sem] theorem ty_tinfo_57 : tinfo prog 57 = some { size := 1, agg := true, zero := [Value.int IntKind.u16 0], bytes := 2 } := by kernel_rfl
@[go_sem] theorem ty_tinfo_63 : tinfo prog 63 = some { size := 1, agg := true, zero := [Value.slice none 0 0], bytes := 24 } := by kernel_rfl
@[go_sem] theorem ty_tinfo_75 : tinfo prog 75 = some { size := 12, agg := true, zero := [Value.int IntKind.i64 0, Value.int IntKind.i64 0, Value.int IntKind.i64 0, Value.int IntKind.i64 0, Value.int IntKind.i64 0, Value.int IntKind.i64 0, Value.int IntKind.i64 0, Value.int IntKind.i64 0, Value.int IntKind.i64 0, Value.int IntKind.i64 0, Value.int IntKind.i64 0, Value.int IntKind.i64 0], bytes := 96 } := by kernel_rfl
@[go_sem] theorem ty_tinfo_85 : tinfo prog 85 = some { size := 1, agg := false, zero := [Value.slice none 0 0], bytes := 24 } := by kernel_rfl
@[go_sem] theorem ty_tint_157 : tint prog 157 = some IntKind.u64 := by kernel_rfl
@[go_sem] theorem ty_tint_3 : tint prog 3 = some IntKind.i64 := by kernel_rfl
@[go_sem] theorem ty_tknown_157 : tknown prog 157 = true := by kernel_rfl
@[go_sem] theorem ty_tknown_3 : tknown prog 3 = true := by kernel_rfl
@[go_sem] theorem ty_tknown_5 : tknown prog 5 = true := by kernel_rfl
@[go_sem] theorem ty_tknown_51 : tknown prog 51 = true := by kernel_rfl
@[go_sem] theorem ty_tmap_103 : tmap prog 103 = none := by kernel_rfl
@[go_sem] theorem ty_tmap_109 : tmap prog 109 = none := by kernel_rfl
@[go_sem] theorem ty_tmap_113 : tmap prog 113 = none := by kernel_rfl
@[go_sem] theorem ty_tmap_153 : tmap prog 153 = none := by kernel_rfl
@[go_sem] theorem ty_tmap_159 : tmap prog 159 = none := by kernel_rfl
@[go_sem] theorem ty_tmap_164 : tmap prog 164 = none := by kernel_rfl
@[go_sem] theorem ty_tmap_165 : tmap prog 165 = none := by kernel_rfl
@[go_sem] theorem ty_tmap_168 : tmap prog 168 = none := by kernel_rfl
@[go_sem] theorem ty_tmap_170 : tmap prog 170 = some (159, 4) := by kernel_rfl
@[go_sem] theorem ty_tmap_22 : tmap prog 22 = none := by kernel_rfl
@[go_sem] theorem ty_tmap_24 : tmap prog 24 = none := by kernel_rfl
@[go_sem] theorem ty_tmap_25 : tmap prog 25 = none := by kernel_rfl
@[go_sem] theorem ty_tmap_27 : tmap prog 27 = none := by kernel_rfl
@[go_sem] theorem ty_tmap_28 : tmap prog 28 = none := by kernel_rfl
@[go_sem] theorem ty_tmap_3 : tmap prog 3 = none := by kernel_rfl
@[go_sem] theorem ty_tmap_30 : tmap prog 30 = none := by kernel_rfl
@[go_sem] theorem ty_tmap_32 : tmap prog 32 = none := by kernel_rfl
@[go_sem] theorem ty_tmap_35 : tmap prog 35 = none := by kernel_rfl
@[go_sem] theorem ty_tmap_37 : tmap prog 37 = none := by kernel_rfl
@[go_sem] theorem ty_tmap_46 : tmap prog 46 = none := by kernel_rfl
@[go_sem] theorem ty_tmap_50 : tmap prog 50 = none := by kernel_rfl
@[go_sem] theorem ty_tmap_53 : tmap prog 53 = none := by kernel_rfl
@[go_sem] theorem ty_tmap_57 : tmap prog 57 = none := by kernel_rfl
@[go_sem] theorem ty_tmap_61 : tmap prog 61 = none := by kernel_rfl
@[go_sem] theorem ty_tmap_63 : tmap prog 63 = none := by kernel_rfl
@[go_sem] theorem ty_tmap_70 : tmap prog 70 = none := by kernel_rfl
@[go_sem] theorem ty_tmap_75 : tmap prog 75 = none := by kernel_rfl
@[go_sem] theorem ty_tmap_76 : tmap prog 76 = none := by kernel_rfl
@[go_sem] theorem ty_tmap_85 : tmap prog 85 = none := by kernel_rfl
@[go_sem] theorem ty_tmap_94 : tmap prog 94 = none := by kernel_rfl
@[go_sem] theorem ty_tmap_98 : tmap prog 98 = none := by kernel_rfl
@[go_sem] theorem ty_tstr_103 : tstr prog 103 = false := by kernel_rfl
@[go_sem] theorem ty_tstr_109 : tstr prog 109 = false := by kernel_rfl
@[go_sem] theorem ty_tstr_113 : tstr prog 113 = false := by kernel_rfl
@[go_sem] theorem ty_tstr_153 : tstr prog 153 = false := by kernel_rfl
@[go_sem] theorem ty_tstr_159 : tstr prog 159 = false := by kernel_rfl
@[go_sem] theorem ty_tstr_164 : tstr prog 164 = false := by kernel_rfl
@[go_sem] theorem ty_tstr_165 : tstr prog 165 = false := by kernel_rfl
@[go_sem] theorem ty_tstr_168 : tstr prog 168 = false := by kernel_rfl
@[go_sem] theorem ty_tstr_22 : tstr prog 22 = false := by kernel_rfl
@[go_sem] theorem ty_tstr_24 : tstr prog 24 = false := by kernel_rfl
@[go_sem] theorem ty_tstr_25 : tstr prog 25 = false := by kernel_rfl
@[go_sem] theorem ty_tstr_27 : tstr prog 27 = false := by kernel_rfl
@[go_sem] theorem ty_tstr_28 : tstr prog 28 = false := by kernel_rfl
@[go_sem] theorem ty_tstr_3 : tstr prog 3 = false := by kernel_rfl
@[go_sem] theorem ty_tstr_30 : tstr prog 30 = false := by kernel_rfl
@[go_sem] theorem ty_tstr_32 : tstr prog 32 = false := by kernel_rfl
@[go_sem] theorem ty_tstr_35 : tstr prog 35 = false := by kernel_rfl
@[go_sem] theorem ty_tstr_37 : tstr prog 37 = false := by kernel_rfl
@[go_sem] theorem ty_tstr_46 : tstr prog 46 = false := by kernel_rfl
@[go_sem] theorem ty_tstr_50 : tstr prog 50 = false := by kernel_rfl
@[go_sem] theorem ty_tstr_53 : tstr prog 53 = false := by kernel_rfl
@[go_sem] theorem ty_tstr_57 : tstr prog 57 = false := by kernel_rfl
@[go_sem] theorem ty_tstr_61 : tstr prog 61 = false := by kernel_rfl
@[go_sem] theorem ty_tstr_63 : tstr prog 63 = false := by kernel_rfl
@[go_sem] theorem ty_tstr_70 : tstr prog 70 = false := by kernel_rfl
@[go_sem] theorem ty_tstr_75 : tstr prog 75 = false := by kernel_rfl
@[go_sem] theorem ty_tstr_76 : tstr prog 76 = false := by kernel_rfl
@[go_sem] theorem ty_tstr_85 : tstr prog 85 = false := by kernel_rfl
@[go_sem] theorem ty_tstr_94 : tstr prog 94 = false := by kernel_rfl
@[go_sem] theorem ty_tstr_98 : tstr prog 98 = false := by kernel_rfl
set_option maxRecDepth 10000
attribute [go_sem] Nat.reduceLT Nat.reduceLeDiff Nat.reduceEqDiff Nat.reduceAdd Nat.reduceSub Nat.reduceMul Nat.reduceBEq Int.reduceToNat Int.reduceEq Int.reduceLT Int.reduceLE Int.reduceAdd reduceCtorEq
attribute [go_sem ↓] reduceIte
theorem mixed : prog.follows .mixedOrders = true := by kernel_rfl
theorem none_is : PureIs prog 82 [] (.ag [.sc (.int .i64 (-1)), .sc (.int .i64 (-1))]) := by
 refine PureIs.of (nv := 1) (hid := []) func82 rfl (by kernel_rfl) (by simp) fun _ => ?_
 rw [ntmps82, results82]
 refine EvC.seq (EvC.rg (by simp only [go_sem]; rfl) rfl ?_)
 refine EvC.seq (EvC.rg (by simp only [go_sem]; rfl) rfl ?_)
 refine EvC.ret ⟨.inl rfl, _, (by simp only [go_sem]; rfl), rfl, rfl⟩
def I (n : Int) : AV := .sc (.int .i64 n)
def B (b : Bool) : AV := .sc (.bool b)
def intC (x : Int) : List AV := [.sc (.int .i64 x)]
@[go_sem] theorem norefs_ints (l : List Int) : (l.map intC).all AV.norefs = true := by simp [List.all_eq_true, intC, AV.norefs, AV.noref]
def fitsR (n o to out : Int) : Bool := decide (to = -1) && decide (out = -1) || (decide (0 ≤ to) && decide (to < n) && decide (0 ≤ out) && decide (out < o))
theorem fits_is (i o : Int) (nl : Bool) (rows : List (List AV)) (c : Cp) (to out : Int) :
  PureIs prog 57 [.ag [.sc (.int .i64 i), .sc (.int .i64 o), .sl nl rows c], .ag [.sc (.int .i64 to), .sc (.int .i64 out)]] (.sc (.bool (fitsR rows.length o to out))) := by
 refine PureIs.of1 5 [] func57 ntmps57 results57 fun _ => ?_
 refine EvC.seq (EvC.rg (by simp only [go_sem]; rfl) rfl ?_)
 apply EvC.seq
 apply EvC.drw mixed
 case ht =>
  apply Tr.run
  ·simp only [go_sem] <;> rfl
  ·rfl
  apply Tr.cons
  ·exact .call rfl rfl (by simp only [go_sem] <;> rfl) (by simp only [go_sem] <;> rfl) (by simp only [go_sem] <;> rfl) (by simp only [go_sem] <;> rfl) (by simp only [go_sem] <;> rfl) none_is
  apply Tr.done
  ·simp only [go_sem] <;> rfl
  ·simp
 case hc => kernel_rfl
 case hq =>
  refine EvC.rz ?_
  simp only [go_sem]
  congr 2
  unfold fitsR
  by_cases h1 : to = -1 <;> by_cases h2 : out = -1 <;> by_cases h3 : 0 ≤ to <;> by_cases h4 : to < rows.length <;> by_cases h5 : 0 ≤ out <;> simp [h1, h2, h3, h4, h5]
def edgeC (e : Int × Int) : List AV := [.sc (.int .i64 e.1), .sc (.int .i64 e.2)]
@[go_sem] theorem norefs_edges (l : List (Int × Int)) : (l.map edgeC).all AV.norefs = true := by simp [List.all_eq_true, edgeC, AV.norefs, AV.noref]
theorem check1_is (i o : Int) (nl : Bool) (rows : List (List AV)) (c : Cp) (to out : Int) :
  PureIs prog 56 [.ag [.sc (.int .i64 to), .sc (.int .i64 out)], .ia [.sc (.int .i64 i), .sc (.int .i64 o), .sl nl rows c]] (.sc (.bool (!fitsR rows.length o to out))) := by
 refine PureIs.of1 4 [] func56 ntmps56 results56 fun _ => ?_
 refine EvC.seq (EvC.rg (by simp only [go_sem] <;> rfl) rfl ?_)
 apply EvC.s1
 ·apply Tr.run
  ·simp only [go_sem] <;> rfl
  ·rfl
  apply Tr.cons
  ·exact .ca (fits_is _ _ _ _ _ _ _)
  apply Tr.done
  ·simp only [go_sem] <;> rfl
  ·rfl
 refine EvC.rz ?_
 simp only [go_sem]
def findIdxR (p : Int × Int → Bool) : List (Int × Int) → Int → Int
 | [], _ => -1
 | e :: es, i => if p e = true then i else findIdxR p es (i + 1)
theorem indexFunc_is (nl : Bool) (xs : List (Int × Int)) (c : Cp) (f : FuncId) (cs : List AV) (hcs : AV.norefs cs = true) (p : Int × Int → Bool) (hp : ∀ e ∈ xs, PureIs prog f (.ag (edgeC e) :: cs) (.sc (.bool (p e)))) (hl : xs.length < 1000000) :
  PureIs prog 81 [.sl nl (xs.map edgeC) c, .fn f cs] (.sc (.int .i64 (findIdxR p xs 0))) := by
 refine PureIs.of1 6 [6, 7, 8, 9, 16] func81 ntmps81 results81 fun _ => ?_
 refine EvC.seq (EvC.rg (by simp only [go_sem] <;> rfl) rfl ?_)
 refine EvC.seq ?_
 refine EvC.seq (EvC.rg (by simp only [go_sem] <;> rfl) rfl ?_)
 refine EvC.block (EvC.loopS (σ := Nat) (fun i => ⟨[(0, .sl nl (xs.map edgeC) c), (1, .fn f cs), (7, .sc (.int .i64 xs.length)), (8, .sc (.int .i64 i))], [], [], 0⟩) (fun i => xs.length - i) (fun i => i ≤ xs.length ∧ findIdxR p xs 0 = findIdxR p (xs.drop i) i) [0, 1, 7, 8] 0 ?_ ?_)
 ·refine ⟨[], 0, rfl, (by simp only [go_sem, hcs] <;> rfl), Nat.zero_le _, by simp⟩
 ·rintro i ⟨h1, h2⟩
  refine EvC.seq (EvC.rg (by simp only [go_sem] <;> rfl) rfl ?_)
  refine EvC.seq (EvC.cond (by simp only [go_sem] <;> rfl) (fun hc => ?_) (fun hc => ?_))
  ·refine EvC.skip ?_
   have hi : i < xs.length := by simpa using hc
   have he : xs[i]? = some xs[i] := List.getElem?_eq_getElem hi
   generalize xs[i] = e at he
   have hm : e ∈ xs := List.mem_of_getElem? he
   have hd : xs.drop i = e :: xs.drop (i + 1) := by
    rw [List.drop_eq_getElem_cons hi]; congr 1; rw [List.getElem?_eq_getElem hi] at he; simpa using he
   refine EvC.seq ?_
   refine EvC.block (EvC.seq (EvC.rg (by simp only [go_sem] <;> rfl) rfl ?_))
   apply EvC.s1
   ·apply Tr.run
    ·simp only [go_sem, he, edgeC] <;> rfl
    ·simp
    apply Tr.cons
    ·exact .call rfl rfl (by simp only [go_sem] <;> rfl) (by simp only [go_sem] <;> rfl) (by simp only [go_sem] <;> rfl) (by simp only [go_sem, hcs] <;> rfl) (by simp only [go_sem] <;> rfl) (hp e hm)
    apply Tr.done
    ·simp only [go_sem] <;> rfl
    ·rfl
   refine EvC.cond (by simp only [go_sem] <;> rfl) (fun hc => ?_) (fun hc => ?_)
   ·refine EvC.seq (EvC.rg (by simp only [go_sem] <;> rfl) rfl ?_)
    refine EvC.rz ?_
    simp only [go_sem]
    rw [h2, hd, findIdxR, if_pos hc]
   ·refine EvC.skip ?_
    refine EvC.rg (by simp only [go_sem] <;> rfl) ?_ ?_
    ·exact inI64_of (by omega) (by omega)
    refine ⟨[], i + 1, rfl, ?_, ⟨by omega, ?_⟩, by omega⟩
    ·simp only [go_sem, hcs] <;> rfl
    ·rw [h2, hd, findIdxR, if_neg (by simp [hc])]; rfl
  ·refine EvC.exit ?_
   have hi : ¬ i < xs.length := by simpa using hc
   refine EvC.seq (EvC.rg (by simp only [go_sem] <;> rfl) rfl ?_)
   refine EvC.rz ?_
   simp only [go_sem]
   rw [h2, List.drop_of_length_le (by omega)]; rfl
theorem findIdxR_any (p : Int × Int → Bool) : ∀ (es : List (Int × Int)) (i : Int), 0 ≤ i → decide (0 ≤ findIdxR p es i) = es.any p
 | [], i, _ => by simp [findIdxR]
 | e :: es, i, h => by
   unfold findIdxR
   split
   ·rename_i hp; simp [hp, h]
   ·rename_i hp
    rw [findIdxR_any p es (i + 1) (by omega)]
    simp [hp]
theorem containsFunc_is (nl : Bool) (xs : List (Int × Int)) (c : Cp) (f : FuncId) (cs : List AV) (hcs : AV.norefs cs = true) (p : Int × Int → Bool) (hp : ∀ e ∈ xs, PureIs prog f (.ag (edgeC e) :: cs) (.sc (.bool (p e)))) (hl : xs.length < 1000000) :
  PureIs prog 55 [.sl nl (xs.map edgeC) c, .fn f cs] (.sc (.bool (xs.any p))) := by
 refine PureIs.of1 5 [] func55 ntmps55 results55 fun _ => ?_
 refine EvC.seq (EvC.rg (by simp only [go_sem] <;> rfl) rfl ?_)
 apply EvC.s1
 ·apply Tr.run
  ·simp only [go_sem] <;> rfl
  ·rfl
  apply Tr.cons
  ·exact .call rfl rfl (by simp only [go_sem] <;> rfl) (by simp only [go_sem] <;> rfl) (by simp only [go_sem] <;> rfl) (by simp only [go_sem, hcs] <;> rfl) (by simp only [go_sem] <;> rfl) (indexFunc_is _ _ _ _ _ hcs _ hp hl)
  apply Tr.done
  ·simp only [go_sem] <;> rfl
  ·rfl
 refine EvC.rz ?_
 simp only [go_sem]
 rw [findIdxR_any _ _ _ (Int.le_refl 0)]
abbrev Row := Bool × List (Int × Int)
def rowC (r : Row) : List AV := [.sl r.1 (r.2.map edgeC) .unk]
structure Mach where
 ins : Int
 outs : Int
 nl : Bool
 rows : List Row
def Mach.cells (m : Mach) : List AV := [.sc (.int .i64 m.ins), .sc (.int .i64 m.outs), .sl m.nl (m.rows.map rowC) .unk]
def rowOk (m : Mach) (r : Row) : Bool := decide ((r.2.length : Int) = m.ins) && !(r.2.any fun e => !fitsR m.rows.length m.outs e.1 e.2)
def checkM (m : Mach) : Int :=
 if 16 < m.ins ∨ 16 < m.outs ∨ 64 < (m.rows.length : Int) then 3
 else if m.ins < 1 ∨ m.outs < 1 ∨ (m.rows.length : Int) < 1 then 1
 else if m.rows.all (rowOk m) = true then 0 else 1
theorem check_is (m : Mach) (hr : ∀ r ∈ m.rows, r.2.length < 1000000) : PureIs prog 33 [.ag m.cells] (.sc (.int .i64 (checkM m))) := by
 refine PureIs.of1 5 [18, 32, 34, 35, 36, 37, 49] func33 ntmps33 results33 fun _ => ?_
 refine EvC.seq (EvC.rg (by simp only [go_sem, Mach.cells] <;> rfl) rfl ?_)
 refine EvC.z 0 ?_
 refine EvC.seq ?_
 apply EvC.seq
 apply EvC.trd
 ·simp only [go_sem] <;> rfl
 ·simp
 refine EvC.cond (by simp only [go_sem] <;> rfl) (fun hc => ?_) (fun hc => ?_)
 ·refine EvC.seq (EvC.rg (by simp only [go_sem] <;> rfl) rfl ?_)
  refine EvC.rz ?_
  simp only [go_sem]
  have h : 16 < m.ins ∨ 16 < m.outs ∨ 64 < (m.rows.length : Int) := by
   by_cases h1 : 16 < m.ins <;> by_cases h2 : 16 < m.outs <;> simp_all
  rw [checkM, if_pos h]
 have hn : ¬ (16 < m.ins ∨ 16 < m.outs ∨ 64 < (m.rows.length : Int)) := by
  by_cases h1 : 16 < m.ins <;> by_cases h2 : 16 < m.outs <;> simp_all
 refine EvC.skip ?_
 refine EvC.seq ?_
 apply EvC.seq
 apply EvC.trd
 ·simp only [go_sem] <;> rfl
 ·simp
 refine EvC.cond (by simp only [go_sem] <;> rfl) (fun hc => ?_) (fun hc => ?_)
 ·refine EvC.seq (EvC.rg (by simp only [go_sem] <;> rfl) rfl ?_)
  refine EvC.rz ?_
  simp only [go_sem]
  have h : m.ins < 1 ∨ m.outs < 1 ∨ (m.rows.length : Int) < 1 := by
   by_cases h1 : m.ins < 1 <;> by_cases h2 : m.outs < 1 <;> simp_all
  rw [checkM, if_neg hn, if_pos h]
 have hn2 : ¬ (m.ins < 1 ∨ m.outs < 1 ∨ (m.rows.length : Int) < 1) := by
  by_cases h1 : m.ins < 1 <;> by_cases h2 : m.outs < 1 <;> simp_all
 refine EvC.skip ?_
 have hlen : (m.rows.length : Int) ≤ 64 := by omega
 refine EvC.seq ?_
 refine EvC.a ?_
 refine EvC.block (EvC.loopS (σ := Nat) (fun i => ⟨[(1, .ia m.cells), (34, .sl m.nl (m.rows.map rowC) .unk), (35, .sc (.int .i64 m.rows.length)), (36, .sc (.int .i64 i))], [], [], 0⟩) (fun i => m.rows.length - i) (fun i => i ≤ m.rows.length ∧ m.rows.all (rowOk m) = (m.rows.drop i).all (rowOk m)) [1, 34, 35, 36] 0 ?_ ?_)
 ·refine ⟨[], 0, rfl, (by simp only [go_sem, Mach.cells] <;> rfl), Nat.zero_le _, by simp⟩
 rintro i ⟨h1, h2⟩
 refine EvC.seq (EvC.rg (by simp only [go_sem] <;> rfl) rfl ?_)
 refine EvC.seq (EvC.cond (by simp only [go_sem] <;> rfl) (fun hc => ?_) (fun hc => ?_))
 ·refine EvC.skip ?_
  have hi : i < m.rows.length := by simpa using hc
  have he : m.rows[i]? = some m.rows[i] := List.getElem?_eq_getElem hi
  generalize m.rows[i] = r at he
  have hm : r ∈ m.rows := List.mem_of_getElem? he
  have hd : m.rows.drop i = r :: m.rows.drop (i + 1) := by
   rw [List.drop_eq_getElem_cons hi]; congr 1; rw [List.getElem?_eq_getElem hi] at he; simpa using he
  refine EvC.seq ?_
  refine EvC.block (EvC.seq (EvC.rg (by simp only [go_sem, he, rowC] <;> rfl) (by simp) ?_))
  by_cases hl : (r.2.length : Int) = m.ins
  ·apply EvC.s1
   ·apply Tr.run
    ·simp only [go_sem, Mach.cells, hl] <;> rfl
    ·simp
    apply Tr.cons
    ·exact .cg (containsFunc_is r.1 r.2 .unk 56 [.ia m.cells] rfl (fun e => !fitsR m.rows.length m.outs e.1 e.2) (fun e _ => by simpa [edgeC, Mach.cells] using check1_is m.ins m.outs m.nl (m.rows.map rowC) .unk e.1 e.2) (hr r hm))
    apply Tr.done
    ·simp only [go_sem] <;> rfl
    ·simp
   refine EvC.cond (by simp only [go_sem] <;> rfl) (fun hc2 => ?_) (fun hc2 => ?_)
   ·refine EvC.seq (EvC.rg (by simp only [go_sem] <;> rfl) rfl ?_)
    refine EvC.rz ?_
    simp only [go_sem]
    rw [checkM, if_neg hn, if_neg hn2, h2, hd, List.all_cons]
    simp [rowOk, hc2]
   ·refine EvC.skip ?_
    refine EvC.rg (by simp only [go_sem] <;> rfl) ?_ ?_
    ·exact inI64_of (by omega) (by omega)
    refine ⟨[], i + 1, rfl, (by simp only [go_sem, Mach.cells] <;> rfl), ⟨by omega, ?_⟩, by omega⟩
    rw [h2, hd, List.all_cons]
    simp [rowOk, hl, hc2]
  ·apply EvC.s1
   ·apply Tr.run
    ·simp only [go_sem, Mach.cells, hl] <;> rfl
    ·simp
    apply Tr.cons
    ·exact .skipv (.sc (.bool false)) rfl rfl (by simp only [go_sem] <;> rfl) (by simp only [go_sem] <;> rfl)
    apply Tr.done
    ·simp only [go_sem] <;> rfl
    ·simp
   refine EvC.ct ?_
   refine EvC.seq (EvC.rg (by simp only [go_sem] <;> rfl) rfl ?_)
   refine EvC.rz ?_
   simp only [go_sem]
   rw [checkM, if_neg hn, if_neg hn2, h2, hd, List.all_cons]
   simp [rowOk, hl]
 ·refine EvC.exit ?_
  have hi : ¬ i < m.rows.length := by simpa using hc
  refine EvC.seq (EvC.rg (by simp only [go_sem] <;> rfl) rfl ?_)
  refine EvC.rz ?_
  simp only [go_sem]
  rw [checkM, if_neg hn, if_neg hn2, h2, List.drop_of_length_le (by omega)]; rfl
def stepM (m : Mach) (s a : Int) : Int × Int := (((m.rows[s.toNat]?).map (·.2)).getD [])[a.toNat]?.getD (-1, -1)
def edgeA (e : Int × Int) : AV := .ag [.sc (.int .i64 e.1), .sc (.int .i64 e.2)]
theorem next04_is (m : Mach) (s a : Int) (r : Row) (e : Int × Int) (hs : 0 ≤ s → m.rows[s.toNat]? = some r) (ha : 0 ≤ s → 0 ≤ a ∧ r.2[a.toNat]? = some e) : PureIs prog 86 [.ag m.cells, .sc (.int .i64 s), .sc (.int .i64 a)] (edgeA (if s < 0 then (-1, -1) else e)) := by
 refine PureIs.of1 7 [8] func86 ntmps86 results86 fun _ => ?_
 refine EvC.seq (EvC.rg (by simp only [go_sem, Mach.cells] <;> rfl) rfl ?_)
 refine EvC.seq (EvC.seq (EvC.rg (by simp only [go_sem] <;> rfl) rfl ?_))
 refine EvC.cond (by simp only [go_sem] <;> rfl) (fun hc => ?_) (fun hc => ?_)
 ·refine EvC.seq (EvC.rg (by simp only [go_sem] <;> rfl) rfl ?_)
  refine EvC.ret ⟨.inl rfl, _, (by simp only [go_sem] <;> rfl), ?_, (by unfold edgeA; simp only [go_sem])⟩
  simp only [go_sem]
  rw [if_pos (by simpa using hc)]; rfl
 ·have h0 : 0 ≤ s := by simpa using hc
  refine EvC.skip ?_
  refine EvC.seq (EvC.rg (by simp only [go_sem, hs h0, rowC, (ha h0).2, edgeC] <;> rfl) ?_ ?_)
  ·simp [h0, (ha h0).1]
  refine EvC.ret ⟨.inl rfl, _, (by simp only [go_sem] <;> rfl), ?_, (by unfold edgeA; simp only [go_sem])⟩
  simp only [go_sem]
  rw [if_neg (by simpa using hc)]; rfl
structure Valid (m : Mach) : Prop where
 ins : 1 ≤ m.ins ∧ m.ins ≤ 16
 outs : 1 ≤ m.outs ∧ m.outs ≤ 16
 rows : 1 ≤ m.rows.length ∧ m.rows.length ≤ 64
 row : ∀ r ∈ m.rows, (r.2.length : Int) = m.ins ∧ ∀ e ∈ r.2, fitsR m.rows.length m.outs e.1 e.2 = true
theorem Valid.of {m : Mach} (h : checkM m = 0) : Valid m := by
 unfold checkM at h
 split at h
 ·cases h
 ·split at h
  ·cases h
  ·split at h
   ·rename_i h1 h2 h3
    rw [List.all_eq_true] at h3
    refine ⟨by omega, by omega, by omega, fun r hr => ?_⟩
    have := h3 r hr
    simp only [rowOk, Bool.and_eq_true, decide_eq_true_eq, Bool.not_eq_true', List.any_eq_false] at this
    exact ⟨this.1, fun e he => by simpa using this.2 e he⟩
   ·cases h
def stepR (m : Mach) (s a : Int) : Int × Int := if s < 0 then (-1, -1) else (((m.rows[s.toNat]?).map (·.2)).getD [])[a.toNat]?.getD (-1, -1)
theorem stepR_get {m : Mach} (hv : Valid m) {s a : Int} (h0 : 0 ≤ s) (hs : s < m.rows.length) (ha : 0 ≤ a ∧ a < m.ins) :
  ∃ r e, m.rows[s.toNat]? = some r ∧ r.2[a.toNat]? = some e ∧ stepR m s a = e ∧ fitsR m.rows.length m.outs e.1 e.2 = true := by
 have h1 : m.rows[s.toNat]? = some m.rows[s.toNat] := List.getElem?_eq_getElem (by omega)
 obtain ⟨h2, h3⟩ := hv.row _ (List.getElem_mem (show s.toNat < m.rows.length by omega))
 have h4 : (m.rows[s.toNat]).2[a.toNat]? = some ((m.rows[s.toNat]).2[a.toNat]'(by omega)) := List.getElem?_eq_getElem _
 exact ⟨_, _, h1, h4, by rw [stepR, if_neg (by omega), h1]; simp only [Option.map_some, Option.getD_some, h4], h3 _ (List.getElem_mem _)⟩
theorem stepR_is {m : Mach} (hv : Valid m) {s a : Int} (hs : s < m.rows.length) (ha : 0 ≤ a ∧ a < m.ins) : PureIs prog 86 [.ag m.cells, .sc (.int .i64 s), .sc (.int .i64 a)] (edgeA (stepR m s a)) := by
 by_cases h0 : 0 ≤ s
 ·obtain ⟨r, e, h1, h2, h3, _⟩ := stepR_get hv h0 hs ha
  have := next04_is m s a r e (fun _ => h1) (fun _ => ⟨ha.1, h2⟩)
  rw [if_neg (by omega)] at this
  rw [h3]; exact this
 ·have := next04_is m s a (false, []) (0, 0) (fun h => absurd h h0) (fun h => absurd h h0)
  rw [if_pos (by omega)] at this
  rw [stepR, if_pos (by omega)]; exact this
def runR (m : Mach) : Int → List Int → List Int
 | _, [] => []
 | s, a :: w => (stepR m s a).2 :: runR m (stepR m s a).1 w
theorem stepR_lt {m : Mach} (hv : Valid m) {s a : Int} (hs : s < m.rows.length) (ha : 0 ≤ a ∧ a < m.ins) : (stepR m s a).1 < m.rows.length := by
 by_cases h0 : 0 ≤ s
 ·obtain ⟨r, e, _, _, h3, h4⟩ := stepR_get hv h0 hs ha
  rw [h3]
  have := hv.rows
  unfold fitsR at h4
  simp at h4; omega
 ·rw [stepR, if_pos (by omega)]; have := hv.rows; simp only; omega
theorem run04_is {m : Mach} (hv : Valid m) (s : Int) (hs : s < m.rows.length) (nl : Bool) (w : List Int) (c : Cp) (hw : ∀ a ∈ w, 0 ≤ a ∧ a < m.ins) (hl : w.length < 1000000) :
  PureIs prog 72 [.ag m.cells, .sc (.int .i64 s), .sl nl (w.map intC) c] (.sl (runR m s w).isEmpty ((runR m s w).map intC) .unk) := by
 refine PureIs.of1 10 [13] func72 ntmps72 results72 fun _ => ?_
 refine EvC.seq (EvC.rg (by simp only [go_sem, Mach.cells] <;> rfl) rfl ?_)
 refine EvC.z 0 ?_
 refine EvC.seq (EvC.rg (by simp only [go_sem] <;> rfl) rfl ?_)
 refine EvC.seq ?_
 refine EvC.seq (EvC.rg (by simp only [go_sem] <;> rfl) rfl ?_)
 refine EvC.block (EvC.loopS (σ := Nat × Int × List Int) (fun g => ⟨[(1, .sc (.int .i64 g.2.1)), (2, .sl nl (w.map intC) c), (3, .ia m.cells), (7, .tl 0 g.2.2.length g.2.2.isEmpty), (8, .sc (.int .i64 g.1))], [], [(0, .arr 1 (g.2.2.map intC) true)], 1⟩) (fun g => w.length - g.1)
  (fun g => g.1 ≤ w.length ∧ g.2.1 < m.rows.length ∧ runR m s w = g.2.2 ++ runR m g.2.1 (w.drop g.1) ∧ g.2.2.length = g.1) [1, 2, 3, 7, 8] 1 ?_ ?_)
 ·refine ⟨[(2, 0)], (0, s, []), rfl, (by simp only [go_sem, Mach.cells] <;> rfl), Nat.zero_le _, hs, by simp, rfl⟩
 rintro ⟨i, t, os⟩ ⟨h1, h2, h3, h4⟩
 simp only at h1 h2 h3 h4
 refine EvC.seq (EvC.seq (EvC.rg (by simp only [go_sem] <;> rfl) rfl ?_))
 refine EvC.cond (by simp only [go_sem] <;> rfl) (fun hc => ?_) (fun hc => ?_)
 ·refine EvC.skip ?_
  have hi : i < w.length := by simpa using hc
  have he : w[i]? = some w[i] := List.getElem?_eq_getElem hi
  generalize w[i] = a at he
  have ha := hw a (List.mem_of_getElem? he)
  have hd : w.drop i = a :: w.drop (i + 1) := by
   rw [List.drop_eq_getElem_cons hi]; congr 1; rw [List.getElem?_eq_getElem hi] at he; simpa using he
  have hstep := stepR_is hv h2 ha
  refine EvC.seq ?_
  apply EvC.block
  apply EvC.seq
  apply EvC.drw mixed
  ·apply Tr.run
   ·simp only [go_sem, Mach.cells, he, intC] <;> rfl
   ·simp
   apply Tr.cons
   ·exact .call rfl rfl (by simp only [go_sem] <;> rfl) (by simp only [go_sem] <;> rfl) (by simp only [go_sem] <;> rfl) (by simp only [go_sem] <;> rfl) (by simp only [go_sem] <;> rfl) hstep
   apply Tr.done
   ·simp only [go_sem, edgeA] <;> rfl
   ·simp
  ·kernel_rfl
  refine EvC.seq (EvC.rg (by simp only [go_sem, List.set_cons_zero] <;> rfl) ?_ ?_)
  ·simp [room_eq]; omega
  refine EvC.b ?_
  refine EvC.rg (by simp only [go_sem] <;> rfl) ?_ ?_
  ·exact inI64_of (by omega) (by omega)
  refine ⟨[(0, 0)], (i + 1, (stepR m t a).1, os ++ [(stepR m t a).2]), rfl, ?_, ⟨by omega, stepR_lt hv h2 ha, ?_, by simp [h4]⟩, by simp; omega⟩
  ·simp only [go_sem, Mach.cells, intC, List.length_append] <;> rfl
  ·rw [h3, hd, runR]; simp
 ·refine EvC.exit ?_
  have hi : ¬ i < w.length := by simpa using hc
  have hr : runR m s w = os := by rw [h3, List.drop_of_length_le (by omega), runR, List.append_nil]
  refine EvC.frz 0 (by simp only [go_sem] <;> rfl) ?_
  refine EvC.seq (EvC.rg (by simp only [go_sem] <;> rfl) rfl ?_)
  refine EvC.rz ?_
  simp only [go_sem]
  rw [hr]
end Go.Avl
