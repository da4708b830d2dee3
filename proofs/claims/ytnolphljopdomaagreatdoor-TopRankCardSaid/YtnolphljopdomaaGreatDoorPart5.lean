/-
  An empty object, to be grown by rows that are still written.
  Many objects at once: those with the numbers below n (n at most 1000000; the others have greater ones). Renaming, freezing.
  Another test of a drawn region's order: by the slots that its operations name, where the numbers of objects are not known.
  Tables whose rows are slices of their own, still written: the rows are the objects below n.
  Functions that work on objects that are there: what comes of them from given arguments and memory.
  Lists with room behind them.
  Regions that draw their order, the last operation behind all others.
  A box that keeps the front of an object that nobody else keeps: the object cut to it.
  Boxes that keep a whole object: as a view of it from its front.
  Functions whose result is a new slice that nobody else has: it may go on being written.
  A call that cuts the room behind a slice of an object of the caller's.
  Regions that draw their order: operations that wait for each other through others.
  A call whose result is an empty slice without room, as an object.
  Nil slices, read as such; calls whose result is a view of a new object.
  One row of an array of rows, read otherwise.
  Nothing appended to a slice without room: that slice.
  Ranging over a map that the loop does not write: in whatever order the entries come.
  A slot, read with nothing known of capacities.
  Calls of functions that follow and change a list of numbers in an object: what they leave, in whatever memory they are called.
  Calls by body in a part of the memory: the other objects stay as they are.
  Slices in boxes, their capacity forgotten; whole ones as views.
  Many objects at once: those with the numbers from 2000000 on (less than 1000000 of them). Tables whose rows are such objects.
  The test by slots, where operations wait through others.
  The rules once more, with what is shown the same way each time as defaults.
  Regions with calls, with what is shown the same way each time as defaults.
-/
import Derived.Laws.IdiomRangeMap
import Derived.KernelRfl
import Derived.Test.YtnolphljopdomaaGreatDoorPart4
set_option linter.unusedSimpArgs false
set_option linter.unusedVariables false
set_option linter.unnecessarySimpa false
set_option linter.deprecated false
namespace Go.Avl
open Go
def St.thaw (i : Nat) (st : St) : Option St :=
 match mlook st.mem i with
 | some (.arr esz [] _) => some ⟨st.vars, st.tmps, mset st.mem i (.arr esz [] false), st.nx⟩
 | _ => none
def St.snapE (j k : Nat) (st : St) : Option St :=
 match mlook st.mem j with
 | some (.arr esz es false) => match es[k]? with
   | some c => some ⟨st.vars, st.tmps, mset st.mem j (.arr esz (es.set k (c.map (AV.deep (snap st.mem)))) false), st.nx⟩
   | none => none
 | _ => none
section
variable {P : Program} {fr : Fr} {ro : Option Nat} {ds : DS} {st st' : St} {Q Q' : Exit → St → Prop} {G G' : Nat → Option Value} {F F' : Nat → Nat → Prop} {a : Act} {w w' : World} {x y c : Code} {M : Mem}
theorem simM_thaw {nx i esz : Nat} {fz : Bool} (hm : SimM P G F M nx w) (ho : mlook M i = some (.arr esz [] fz)) :
  SimM P G F (mset M i (.arr esz [] false)) nx w ∧ Step All G F M w G F (mset M i (.arr esz [] false)) w := by
 have hold := (hm.obj i _ ho).2
 have S : Step All G F M w G F (mset M i (.arr esz [] false)) w :=
  { kept := .refl
    size := Nat.le_refl _
    out := fun _ _ _ => rfl
    F1 := fun _ _ h => h
    F2 := fun _ _ _ => rfl
    F3 := fun b o h => .inl h
    own := fun b ⟨id, o, v, h3, h4, h5⟩ => by
     rw [mlook_mset] at h3
     by_cases hi : id = i
     ·subst hi; exact .inr ⟨id, _, v, ho, h4, h5⟩
     ·rw [if_neg hi] at h3; exact .inr ⟨id, o, v, h3, h4, h5⟩
    some' := fun _ _ h => h
    same := fun _ _ _ h _ => h
    keep := fun id o' _ hG h3 => by
     obtain ⟨v, hv⟩ := Option.ne_none_iff_exists'.1 hG
     rw [mlook_mset] at h3
     by_cases hi : id = i
     ·subst hi
      rw [if_pos rfl] at h3; cases h3
      exact ⟨_, v, v, ho, hv, hv, ⟨rfl, .inl ⟨rfl, rfl⟩⟩⟩
     ·rw [if_neg hi] at h3
      exact ⟨o', v, v, h3, hv, hv, objKeep.refl v o'⟩ }
 have hinj : ∀ id id' v v' b, mlook (mset M i (.arr esz [] false)) id ≠ none → mlook (mset M i (.arr esz [] false)) id' ≠ none → G id = some v → G id' = some v' → blkOf v = some b → blkOf v' = some b → id = id' := by
  intro id id' v v' b h1 h2
  refine hm.inj id id' v v' b ?_ ?_
  ·rw [mlook_mset] at h1; by_cases hi : id = i
   ·subst hi; rw [ho]; simp
   ·rwa [if_neg hi] at h1
  ·rw [mlook_mset] at h2; by_cases hi : id' = i
   ·subst hi; rw [ho]; simp
   ·rwa [if_neg hi] at h2
 refine ⟨simM_gen hm S (fun id o' h => ?_) hinj hm.inF, S⟩
 rw [mlook_mset] at h
 by_cases hi : id = i
 ·subst hi; rw [if_pos rfl] at h; cases h
  refine ⟨(hm.obj id _ ho).1, .inl ?_⟩
  rcases hold with h | ⟨b, ko, c, cc, e, h1, h2, h3, h4, h5, h6, h7, h8, h9⟩
  ·exact .inl h
  ·exact .inr ⟨b, ko, c, cc, e, h1, h2, h3, h4, h5, h6, fun k j hk => absurd hk (Nat.not_lt_zero _), fun o h => absurd (h8 o h).2 (by simp), fun h => (by cases h)⟩
 ·rw [if_neg hi] at h
  exact ⟨(hm.obj id _ h).1, .inr ⟨h, rfl, fun b v hG hb => ⟨rfl, fun _ h => h⟩⟩⟩
theorem SimA.thaw {i : Nat} (s : SimA P fr ds G F st a w) (h : st.thaw i = some st') : SimA P fr ds G F st' a w ∧ Step (· < fr.base) G F st.mem w G F st'.mem w := by
 unfold St.thaw at h
 split at h
 ·rename_i esz fz ho
  cases h
  obtain ⟨hm', S'⟩ := simM_thaw s.sim.mem ho
  exact ⟨⟨⟨hm', fun k => (s.sim.slots k).step S' (fun _ _ => trivial), s.sim.size⟩, s.fresh, s.defers⟩, S'.mono fun _ _ => trivial⟩
 ·cases h
theorem EvC.thaw (i : Nat) (h : st.thaw i = some st') (hc : EvC P fr ro ds c st' Q) : EvC P fr ro ds c st Q :=
 EvC.conv (fun _ _ _ _ s => let ⟨s', S'⟩ := s.thaw h; ⟨_, _, s', S'⟩) hc
theorem simM_snapE {nx j esz k : Nat} {es : List (List AV)} {c0 : List AV} (hm : SimM P G F M nx w) (ho : mlook M j = some (.arr esz es false)) (hk : es[k]? = some c0) :
  SimM P G F (mset M j (.arr esz (es.set k (c0.map (AV.deep (snap M)))) false)) nx w ∧ Step All G F M w G F (mset M j (.arr esz (es.set k (c0.map (AV.deep (snap M)))) false)) w := by
 obtain ⟨es', hes⟩ : ∃ es', es' = es.set k (c0.map (AV.deep (snap M))) := ⟨_, rfl⟩
 rw [← hes]
 have hle : es'.length = es.length := by rw [hes, List.length_set]
 have hold := (hm.obj j _ ho).2
 have S : Step All G F M w G F (mset M j (.arr esz es' false)) w :=
  { kept := .refl
    size := Nat.le_refl _
    out := fun _ _ _ => rfl
    F1 := fun _ _ h => h
    F2 := fun _ _ _ => rfl
    F3 := fun b o h => .inl h
    own := fun b ⟨id, o, v, h3, h4, h5⟩ => by
     rw [mlook_mset] at h3
     by_cases hi : id = j
     ·subst hi; exact .inr ⟨id, _, v, ho, h4, h5⟩
     ·rw [if_neg hi] at h3; exact .inr ⟨id, o, v, h3, h4, h5⟩
    some' := fun _ _ h => h
    same := fun _ _ _ h _ => h
    keep := fun id o' _ hG h3 => by
     obtain ⟨v, hv⟩ := Option.ne_none_iff_exists'.1 hG
     rw [mlook_mset] at h3
     by_cases hi : id = j
     ·subst hi
      rw [if_pos rfl] at h3; cases h3
      exact ⟨_, v, v, ho, hv, hv, ⟨rfl, .inl ⟨hle, rfl⟩⟩⟩
     ·rw [if_neg hi] at h3
      exact ⟨o', v, v, h3, hv, hv, objKeep.refl v o'⟩ }
 have hinj : ∀ id id' v v' b, mlook (mset M j (.arr esz es' false)) id ≠ none → mlook (mset M j (.arr esz es' false)) id' ≠ none → G id = some v → G id' = some v' → blkOf v = some b → blkOf v' = some b → id = id' := by
  intro id id' v v' b h1 h2
  refine hm.inj id id' v v' b ?_ ?_
  ·rw [mlook_mset] at h1; by_cases hi : id = j
   ·subst hi; rw [ho]; simp
   ·rwa [if_neg hi] at h1
  ·rw [mlook_mset] at h2; by_cases hi : id' = j
   ·subst hi; rw [ho]; simp
   ·rwa [if_neg hi] at h2
 refine ⟨simM_gen hm S (fun id o' h => ?_) hinj hm.inF, S⟩
 rw [mlook_mset] at h
 by_cases hi : id = j
 ·subst hi; rw [if_pos rfl] at h; cases h
  refine ⟨(hm.obj id _ ho).1, .inl ?_⟩
  have hkl : k < es.length := (List.getElem?_eq_some_iff.1 hk).1
  have hke : es[k] = c0 := by rw [List.getElem?_eq_getElem hkl] at hk; exact Option.some.inj hk
  rcases hold with ⟨h0, _⟩ | ⟨b, ko, c, cc, e, h1, h2, h3, h4, h5, h6, h7, h8, h9⟩
  ·rw [h0] at hkl; exact absurd hkl (Nat.not_lt_zero _)
  ·refine .inr ⟨b, ko, c, cc, e, by rw [hle]; exact h1, h2, h3, by rw [hle]; exact h4, h5, fun i hi' => ?_, fun i l hi' hl' => ?_, fun o h => absurd (h8 o h).1 (by simp), fun h => (by cases h)⟩
   ·have hi2 : i < es.length := by rw [← hle]; exact hi'
    simp only [hes, List.getElem_set]
    split
    ·rename_i e1; subst e1; rw [List.length_map, ← hke]; exact h6 _ hi2
    ·exact h6 _ hi2
   ·have hi2 : i < es.length := by rw [← hle]; exact hi'
    by_cases e1 : k = i
    ·subst e1
     have e2 : es'[k] = es[k].map (AV.deep (snap M)) := by simp [hes, hke]
     have hl2 : l < es[k].length := by rw [e2, List.length_map] at hl'; exact hl'
     obtain ⟨v, k1, k2, k3⟩ := h7 k l hi2 hl2
     refine ⟨v, k1, k2, ?_⟩
     have e3 : es'[k][l] = AV.deep (snap M) es[k][l] := by simp [e2]
     rw [e3]
     exact (k3.deep fun v y h => h.snap hm).step S fun _ _ => trivial
    ·have e2 : es'[i] = es[i] := by simp [hes, e1]
     have hl2 : l < es[i].length := by rw [e2] at hl'; exact hl'
     obtain ⟨v, k1, k2, k3⟩ := h7 i l hi2 hl2
     have e3 : es'[i][l] = es[i][l] := by simp [e2]
     exact ⟨v, k1, k2, by rw [e3]; exact k3.step S fun _ _ => trivial⟩
 ·rw [if_neg hi] at h
  exact ⟨(hm.obj id _ h).1, .inr ⟨h, rfl, fun b v hG hb => ⟨rfl, fun _ h => h⟩⟩⟩
theorem SimA.snapE {j k : Nat} (s : SimA P fr ds G F st a w) (h : st.snapE j k = some st') : SimA P fr ds G F st' a w ∧ Step (· < fr.base) G F st.mem w G F st'.mem w := by
 unfold St.snapE at h
 split at h
 ·rename_i esz es ho
  split at h
  ·rename_i c0 hk
   cases h
   obtain ⟨hm', S'⟩ := simM_snapE s.sim.mem ho hk
   exact ⟨⟨⟨hm', fun k => (s.sim.slots k).step S' (fun _ _ => trivial), s.sim.size⟩, s.fresh, s.defers⟩, S'.mono fun _ _ => trivial⟩
  ·cases h
 ·cases h
theorem EvC.snapE (j k : Nat) (h : st.snapE j k = some st') (hc : EvC P fr ro ds c st' Q) : EvC P fr ro ds c st Q :=
 EvC.conv (fun _ _ _ _ s => let ⟨s', S'⟩ := s.snapE h; ⟨_, _, s', S'⟩) hc
end
attribute [go_sem] St.snapE
attribute [go_sem] St.thaw
def msegA : Nat → List RObj → Mem
 | _, [] => []
 | b, o :: r => (b, o) :: msegA (b + 1) r
def mseg (l : List RObj) : Mem := msegA 0 l
theorem mlook_msegA : ∀ (l : List RObj) (b i : Nat), mlook (msegA b l) i = if b ≤ i then l[i - b]? else none
 | [], b, i => by simp [msegA, mlook]
 | o :: r, b, i => by
   simp only [msegA, mlook]
   by_cases h : i = b
   ·subst h; simp
   ·rw [if_neg h, mlook_msegA r (b + 1) i]
    by_cases h2 : b ≤ i
    ·rw [if_pos (by omega), if_pos h2, show i - b = (i - (b + 1)) + 1 by omega]; rfl
    ·rw [if_neg (by omega), if_neg h2]
theorem mlook_mseg (l : List RObj) (i : Nat) : mlook (mseg l) i = l[i]? := by rw [mseg, mlook_msegA, if_pos (Nat.zero_le _), Nat.sub_zero]
theorem mset_msegA : ∀ (l : List RObj) (b i : Nat) (o : RObj), b ≤ i → i < b + l.length → mset (msegA b l) i o = msegA b (l.set (i - b) o)
 | [], b, i, o, h1, h2 => by simp at h2; omega
 | x :: r, b, i, o, h1, h2 => by
   simp only [msegA, mset]
   by_cases h : i = b
   ·subst h; simp [msegA]
   ·rw [if_neg h, mset_msegA r (b + 1) i o (by omega) (by simp at h2; omega), show i - b = (i - (b + 1)) + 1 by omega]; rfl
theorem msegA_append : ∀ (l r : List RObj) (b : Nat), msegA b (l ++ r) = msegA b l ++ msegA (b + l.length) r
 | [], r, b => by simp [msegA]
 | x :: l, r, b => by simp only [List.cons_append, msegA, msegA_append l r (b + 1), List.length_cons]; rw [show b + 1 + l.length = b + (l.length + 1) by omega]
def idK (n : Nat) : List (Nat × Nat) := (List.range n).map fun i => (i, i)
def segK (A : List (Nat × Nat)) (n : Nat) (B : List (Nat × Nat)) : List (Nat × Nat) := A ++ (idK n ++ B)
theorem rlook_append (A B : List (Nat × Nat)) (k : Nat) : rlook (A ++ B) k = (rlook A k).or (rlook B k) := by
 induction A with
 | nil => simp [rlook]
 | cons p A ih =>
   obtain ⟨i, j⟩ := p
   simp only [List.cons_append, rlook]
   split
   ·rfl
   ·exact ih
theorem blook_append (A B : List (Nat × Nat)) (k : Nat) : blook (A ++ B) k = (blook A k).or (blook B k) := by
 induction A with
 | nil => simp [blook]
 | cons p A ih =>
   obtain ⟨i, j⟩ := p
   simp only [List.cons_append, blook]
   split
   ·rfl
   ·exact ih
theorem renMem_append (M : Mem) (K : List (Nat × Nat)) : ∀ (A B : List (Nat × Nat)), renMem M K (A ++ B) = renMem M K A ++ renMem M K B
 | [], B => rfl
 | (i, j) :: A, B => by
   simp only [List.cons_append, renMem, renMem_append M K A B]
   split <;> simp
theorem renMem_segK (M : Mem) (A B : List (Nat × Nat)) (n : Nat) : renMem M (segK A n B) (segK A n B) = renMem M (segK A n B) A ++ (renMem M (segK A n B) (idK n) ++ renMem M (segK A n B) B) := by
 conv => lhs; arg 3; rw [segK]
 rw [renMem_append, renMem_append]
theorem renMem_congr {M M' : Mem} (K : List (Nat × Nat)) : ∀ {K' : List (Nat × Nat)}, (∀ p ∈ K', mlook M p.1 = mlook M' p.1) → renMem M K K' = renMem M' K K'
 | [], _ => rfl
 | (i, j) :: K', h => by
   simp only [renMem]
   rw [h (i, j) List.mem_cons_self, renMem_congr K fun p hp => h p (List.mem_cons_of_mem _ hp)]
theorem mset_mset_same (M : Mem) (i : Nat) (o o' : RObj) : mset (mset M i o) i o' = mset M i o' := by
 induction M with
 | nil => simp [mset]
 | cons p M ih =>
   obtain ⟨k, u⟩ := p
   simp only [mset]
   split
   ·rename_i h; subst h; simp [mset]
   ·rename_i h; simp only [mset, if_neg h, ih]
theorem gcOk_append {base nx : Nat} : ∀ {A B : List (Nat × Nat)}, gcOk base nx A = true → gcOk base nx B = true → (∀ p ∈ A, blook B p.2 = none ∧ rlook B p.1 = none) → gcOk base nx (A ++ B) = true
 | [], B, _, h, _ => h
 | (i, j) :: A, B, h1, h2, h3 => by
   simp only [gcOk, Bool.and_eq_true, beq_iff_eq] at h1
   have h4 := h3 (i, j) List.mem_cons_self
   simp only [List.cons_append, gcOk, Bool.and_eq_true, beq_iff_eq]
   refine ⟨⟨⟨h1.1.1.1, ?_⟩, ?_⟩, gcOk_append h1.2 h2 fun p hp => h3 p (List.mem_cons_of_mem _ hp)⟩
   ·rw [blook_append, h1.1.1.2, h4.1]; rfl
   ·rw [rlook_append, h1.1.2, h4.2]; rfl
def RObj.fzn : RObj → RObj
 | .arr esz es _ => .arr esz es true
 | o => o
def St.snapA (j : Nat) (st : St) : Option St :=
 match mlook st.mem j with
 | some (.arr esz es false) => some ⟨st.vars, st.tmps, mset st.mem j (.arr esz (es.map fun c => c.map (AV.deep (snap st.mem))) false), st.nx⟩
 | _ => none
section
variable {P : Program} {fr : Fr} {ro : Option Nat} {ds : DS} {st st' : St} {Q Q' : Exit → St → Prop} {G G' : Nat → Option Value} {F F' : Nat → Nat → Prop} {a : Act} {w w' : World} {x y c : Code} {M : Mem}
theorem simM_snapA {nx j esz : Nat} {es : List (List AV)} (hm : SimM P G F M nx w) (ho : mlook M j = some (.arr esz es false)) :
  SimM P G F (mset M j (.arr esz (es.map fun c => c.map (AV.deep (snap M))) false)) nx w ∧ Step All G F M w G F (mset M j (.arr esz (es.map fun c => c.map (AV.deep (snap M))) false)) w := by
 obtain ⟨es', hes⟩ : ∃ es', es' = es.map fun c => c.map (AV.deep (snap M)) := ⟨_, rfl⟩
 rw [← hes]
 have hle : es'.length = es.length := by rw [hes, List.length_map]
 have hold := (hm.obj j _ ho).2
 have S : Step All G F M w G F (mset M j (.arr esz es' false)) w :=
  { kept := .refl
    size := Nat.le_refl _
    out := fun _ _ _ => rfl
    F1 := fun _ _ h => h
    F2 := fun _ _ _ => rfl
    F3 := fun b o h => .inl h
    own := fun b ⟨id, o, v, h3, h4, h5⟩ => by
     rw [mlook_mset] at h3
     by_cases hi : id = j
     ·subst hi; exact .inr ⟨id, _, v, ho, h4, h5⟩
     ·rw [if_neg hi] at h3; exact .inr ⟨id, o, v, h3, h4, h5⟩
    some' := fun _ _ h => h
    same := fun _ _ _ h _ => h
    keep := fun id o' _ hG h3 => by
     obtain ⟨v, hv⟩ := Option.ne_none_iff_exists'.1 hG
     rw [mlook_mset] at h3
     by_cases hi : id = j
     ·subst hi
      rw [if_pos rfl] at h3; cases h3
      exact ⟨_, v, v, ho, hv, hv, ⟨rfl, .inl ⟨hle, rfl⟩⟩⟩
     ·rw [if_neg hi] at h3
      exact ⟨o', v, v, h3, hv, hv, objKeep.refl v o'⟩ }
 have hinj : ∀ id id' v v' b, mlook (mset M j (.arr esz es' false)) id ≠ none → mlook (mset M j (.arr esz es' false)) id' ≠ none → G id = some v → G id' = some v' → blkOf v = some b → blkOf v' = some b → id = id' := by
  intro id id' v v' b h1 h2
  refine hm.inj id id' v v' b ?_ ?_
  ·rw [mlook_mset] at h1; by_cases hi : id = j
   ·subst hi; rw [ho]; simp
   ·rwa [if_neg hi] at h1
  ·rw [mlook_mset] at h2; by_cases hi : id' = j
   ·subst hi; rw [ho]; simp
   ·rwa [if_neg hi] at h2
 refine ⟨simM_gen hm S (fun id o' h => ?_) hinj hm.inF, S⟩
 rw [mlook_mset] at h
 by_cases hi : id = j
 ·subst hi; rw [if_pos rfl] at h; cases h
  refine ⟨(hm.obj id _ ho).1, .inl ?_⟩
  rcases hold with ⟨h0, h0'⟩ | ⟨b, ko, c, cc, e, h1, h2, h3, h4, h5, h6, h7, h8, h9⟩
  ·exact .inl ⟨by rw [hes, h0]; rfl, h0'⟩
  ·refine .inr ⟨b, ko, c, cc, e, by rw [hle]; exact h1, h2, h3, by rw [hle]; exact h4, h5, fun i hi' => ?_, fun i l hi' hl' => ?_, fun o h => absurd (h8 o h).1 (by simp), fun h => (by cases h)⟩
   ·have hi2 : i < es.length := by rw [← hle]; exact hi'
    simp only [hes, List.getElem_map, List.length_map]
    exact h6 _ hi2
   ·have hi2 : i < es.length := by rw [← hle]; exact hi'
    have e2 : es'[i] = es[i].map (AV.deep (snap M)) := by simp [hes]
    have hl2 : l < es[i].length := by rw [e2, List.length_map] at hl'; exact hl'
    obtain ⟨v, k1, k2, k3⟩ := h7 i l hi2 hl2
    refine ⟨v, k1, k2, ?_⟩
    have e3 : es'[i][l] = AV.deep (snap M) es[i][l] := by simp [e2]
    rw [e3]
    exact (k3.deep fun v y h => h.snap hm).step S fun _ _ => trivial
 ·rw [if_neg hi] at h
  exact ⟨(hm.obj id _ h).1, .inr ⟨h, rfl, fun b v hG hb => ⟨rfl, fun _ h => h⟩⟩⟩
theorem SimA.snapA {j : Nat} (s : SimA P fr ds G F st a w) (h : st.snapA j = some st') : SimA P fr ds G F st' a w ∧ Step (· < fr.base) G F st.mem w G F st'.mem w := by
 unfold St.snapA at h
 split at h
 ·rename_i esz es ho
  cases h
  obtain ⟨hm', S'⟩ := simM_snapA s.sim.mem ho
  exact ⟨⟨⟨hm', fun k => (s.sim.slots k).step S' (fun _ _ => trivial), s.sim.size⟩, s.fresh, s.defers⟩, S'.mono fun _ _ => trivial⟩
 ·cases h
theorem EvC.snapA (j : Nat) (h : st.snapA j = some st') (hc : EvC P fr ro ds c st' Q) : EvC P fr ro ds c st Q :=
 EvC.conv (fun _ _ _ _ s => let ⟨s', S'⟩ := s.snapA h; ⟨_, _, s', S'⟩) hc
end
attribute [go_sem] St.snapA mlook_mseg renMem_segK
def slotsOf (ops : List It) (o : Oper) : List Nat := opSlots o.op.operands.toList ++ match o.guard with
 | some (j, _) => match ops[j]? with
   | some u => match u.o.dst with
     | some k => [2 * k]
     | none => []
   | none => []
 | none => []
def dstC (o : Oper) : List Nat := match o.dst with
 | some k => [2 * k]
 | none => []
def rdOk (ops : List It) (t : It) : Bool := t.rd.all fun x => (x % 2 == 1 && !memless t.o.op) || (slotsOf ops t.o).contains x
theorem wl_split {d : Option Nat} {r : Rc} {x : Nat} (h : x ∈ wl d r) : (d.isSome = true ∧ x ∈ (match d with | some k => [2 * k] | none => [])) ∨ (x % 2 = 1 ∧ r.fx ≠ none) := by
 unfold wl at h
 rcases List.mem_append.1 h with h | h
 ·cases d with
  | none => cases h
  | some k => exact .inl ⟨rfl, h⟩
 ·right
  cases hf : r.fx with
  | none => rw [hf] at h; cases h
  | some p => rw [hf] at h; simp at h; exact ⟨by omega, by simp⟩
section
variable {α : Type}
def upd1 (f : Nat → α) (t : Nat) (x : α) : Nat → α := fun k => if k = t then x else f k
def upd2 (W : Nat → Nat → α) (s t : Nat) (x : α) : Nat → Nat → α := fun a b => if a = s ∧ b = t then x else W a b
def gcells (C : α → List AV) (f : Nat → α) (m : Nat) : List (List AV) := (List.range m).map fun t => C (f t)
theorem gcells_len (C : α → List AV) (f : Nat → α) (m : Nat) : (gcells C f m).length = m := by simp [gcells]
theorem gcells_get (C : α → List AV) (f : Nat → α) {m t : Nat} (h : t < m) : (gcells C f m)[t]? = some (C (f t)) := by rw [gcells, List.getElem?_map, List.getElem?_range h]; rfl
theorem gcells_norefs {C : α → List AV} (hC : ∀ x, AV.norefs (C x) = true) (f : Nat → α) (m : Nat) : (gcells C f m).all AV.norefs = true := by simp [List.all_eq_true, gcells, hC]
theorem gcells_all {C : α → List AV} {e : Nat} (hC : ∀ x, (C x).length = e) (f : Nat → α) (m : Nat) : ((gcells C f m).all fun y => decide (y.length = e)) = true := by simp [List.all_eq_true, gcells, hC]
theorem gcells_congr (C : α → List AV) {f g : Nat → α} {m : Nat} (h : ∀ t, t < m → f t = g t) : gcells C f m = gcells C g m :=
 List.map_congr_left fun t ht => by rw [h t (List.mem_range.1 ht)]
theorem range_set {β : Type} (f : Nat → β) {n s : Nat} (x : β) (h : s < n) : ((List.range n).map f).set s x = (List.range n).map fun i => if i = s then x else f i := by
 refine List.ext_getElem (by simp) fun i h1 h2 => ?_
 simp only [List.getElem_set, List.getElem_map, List.getElem_range]
 by_cases e : s = i
 ·subst e; simp
 ·rw [if_neg e, if_neg (Ne.symm e)]
theorem gcells_set (C : α → List AV) (f : Nat → α) {m t : Nat} (x : α) (h : t < m) : (gcells C f m).set t (C x) = gcells C (upd1 f t x) m := by
 rw [gcells, range_set _ _ h, gcells]
 refine List.map_congr_left fun k _ => ?_
 by_cases e : k = t
 ·subst e; simp [upd1]
 ·simp [upd1, e]
def grow (e : Nat) (C : α → List AV) (W : Nat → Nat → α) (m s : Nat) : RObj := .arr e (gcells C (W s) m) false
end
def retB (P : Program) (fr : Fr) (results : List ResultVar) (R : AV → Mem → Nat → Prop) : Exit → St → Prop :=
 fun e st => (e = .ret ∨ e = .normal) ∧ ∃ rs, resAllR P fr st results = some rs ∧ R (mkRes rs) st.mem st.nx
def BodyIs (P : Program) (f : FuncId) (args : List AV) (M : Mem) (nx : Nat) (R : AV → Mem → Nat → Prop) : Prop :=
 ∃ fn c nv hid, P.funcs[f]? = some fn ∧ fn.body = some c ∧ (fn.name == "runtime.NumGoroutine") = false ∧ args.length ≤ fn.ntmps ∧
   ∀ h0 : Nat, EvC P ⟨nx, nv, hid, fn.ntmps⟩ none ⟨h0, none, false⟩ c ⟨vars0 0 args, [], M, nx⟩ (retB P ⟨nx, nv, hid, fn.ntmps⟩ fn.results.toList R)
section
variable {P : Program} {fr : Fr} {ro : Option Nat} {ds : DS} {st st' : St} {Q Q' : Exit → St → Prop} {c : Code} {M : Mem} {ops : Array Oper} {l rest : List Oper} {o : Oper}
theorem BodyIs.of {f : FuncId} {fn : Func} {args : List AV} {nx nv : Nat} {hid : List Nat} {R : AV → Mem → Nat → Prop} (hf : P.funcs[f]? = some fn) (hb : fn.body = some c) (hnm : (fn.name == "runtime.NumGoroutine") = false) (hsz : args.length ≤ fn.ntmps)
  (h : ∀ h0 : Nat, EvC P ⟨nx, nv, hid, fn.ntmps⟩ none ⟨h0, none, false⟩ c ⟨vars0 0 args, [], M, nx⟩ (retB P ⟨nx, nv, hid, fn.ntmps⟩ fn.results.toList R)) : BodyIs P f args M nx R :=
 ⟨fn, c, nv, hid, hf, hb, hnm, hsz, h⟩
theorem BodyIs.mono {f : FuncId} {args : List AV} {nx : Nat} {R R' : AV → Mem → Nat → Prop} (h : BodyIs P f args M nx R) (hr : ∀ r M nx, R r M nx → R' r M nx) : BodyIs P f args M nx R' := by
 obtain ⟨fn, c, nv, hid, h1, h2, h3, h4, h5⟩ := h
 exact ⟨fn, c, nv, hid, h1, h2, h3, h4, fun h0 => (h5 h0).mono fun e st ⟨k1, rs, k2, k3⟩ => ⟨k1, rs, k2, hr _ _ _ k3⟩⟩
end
attribute [go_sem] resAllR resOneR bodyArgs
section
variable {P : Program} {fr : Fr} {ro : Option Nat} {ds : DS} {st st' : St} {Q : Exit → St → Prop} {G G' : Nat → Option Value} {F F' : Nat → Nat → Prop} {a : Act} {w w' : World}
 {M M' : Mem} {ops : Array Oper} {o : Oper} {id N : Nat} {S S' : Nat → Bool} {d : Option Nat} {r : Rc} {x y : Nat} {l : List It}
theorem trun_pre {all : List Oper} : ∀ {l : List Oper} {id : Nat} {st : St} {ok : Bool} {its : List It} {st' : St} {rest : List Oper} {id' : Nat}, trun P fr all l id st = .stop ok its st' rest id' → ok = true →
  ∃ pre, l = pre ++ rest ∧ id' = id + its.length ∧ Tr P fr ro ds all.toArray id pre st its st'
 | [], id, st, ok, its, st', rest, id', h, _ => by simp only [trun] at h; cases h
 | o :: l, id, st, ok, its, st', rest, id', h, hok => by
   have stopCase : trun P fr all (o :: l) id st = .stop true [] st (o :: l) id → ∃ pre, o :: l = pre ++ rest ∧ id' = id + its.length ∧ Tr P fr ro ds all.toArray id pre st its st' := fun h1 => by
    rw [h1] at h; cases h
    exact ⟨[], rfl, rfl, .nil _ _⟩
   have goCase : ∀ {b : Bool} {r : Rc} {rd : List Nat}, trun P fr all (o :: l) id st = (trun P fr all l (id + 1) (run1 fr o.dst r st)).cons b ⟨o, r, rd⟩ →
     (b = true → OpIs P fr ro ds all.toArray id st ⟨o, r, rd⟩) → ∃ pre, o :: l = pre ++ rest ∧ id' = id + its.length ∧ Tr P fr ro ds all.toArray id pre st its st' := by
    intro b r rd h1 h2
    rw [h1] at h
    cases hres : trun P fr all l (id + 1) (run1 fr o.dst r st) with
    | done ok its st1 => rw [hres] at h; simp only [TRes.cons] at h; cases h
    | stop ok1 its1 st1 rest1 id1 =>
      rw [hres] at h
      simp only [TRes.cons] at h
      cases h
      simp only [Bool.and_eq_true] at hok
      obtain ⟨pre, e1, e2, t⟩ := trun_pre hres hok.2
      exact ⟨o :: pre, by rw [e1]; rfl, by rw [e2]; simp; omega, .cons (h2 hok.1) t⟩
   cases hd : dok fr o.dst with
   | false => exact stopCase (by simp only [trun, hd])
   | true =>
     cases hg : o.guard with
     | none =>
       cases he : efRc id (xop P fr st true id o) with
       | none => exact stopCase (by simp only [trun, hd, hg, he])
       | some p =>
         obtain ⟨b, r⟩ := p
         exact goCase (by simp only [trun, hd, hg, he]) fun hb => .op hg hd he hb rfl
     | some p =>
       obtain ⟨j, want⟩ := p
       cases hj : gslot all.toArray j with
       | none => exact stopCase (by simp only [trun, hd, hg, hj])
       | some k =>
         cases hk : gval want (st.get fr k) with
         | none => exact stopCase (by simp only [trun, hd, hg, hj, hk])
         | some g =>
           cases he : efRcG g (xop P fr st g id o) with
           | none => exact stopCase (by simp only [trun, hd, hg, hj, hk, he])
           | some p =>
             obtain ⟨b, r⟩ := p
             exact goCase (by simp only [trun, hd, hg, hj, hk, he]) fun hb => .guard hg hj hk hd he hb rfl
def TrTo (P : Program) (fr : Fr) (ro : Option Nat) (ds : DS) (ops : Array Oper) (id : Nat) (l : List Oper) (st : St) (its : List It) (st' : St) (rest : List Oper) : Prop :=
 ∃ pre, l = pre ++ rest ∧ Tr P fr ro ds ops id pre st its st'
theorem TrTo.cons {l rest : List Oper} {rd : List Nat} {its : List It} (h : OpIs P fr ro ds ops id st ⟨o, r, rd⟩) (t : TrTo P fr ro ds ops (id + 1) l (run1 fr o.dst r st) its st' rest) : TrTo P fr ro ds ops id (o :: l) st (⟨o, r, rd⟩ :: its) st' rest := by
 obtain ⟨pre, rfl, t⟩ := t
 exact ⟨o :: pre, rfl, .cons h t⟩
theorem TrTo.run {all l rest rest' : List Oper} {ok : Bool} {its its2 : List It} {id' : Nat} {st2 : St} (h : trun P fr all l id st = .stop ok its st' rest id') (hok : ok = true) (t : TrTo P fr ro ds all.toArray id' rest st' its2 st2 rest') : TrTo P fr ro ds all.toArray id l st (its ++ its2) st2 rest' := by
 obtain ⟨pre, e1, e2, t1⟩ := trun_pre (ro := ro) (ds := ds) h hok
 obtain ⟨pre2, e3, t2⟩ := t
 subst e3
 subst e1
 exact ⟨pre ++ pre2, by rw [List.append_assoc], t1.append e2 t2⟩
end
def St.shrinkC (k j : Nat) (st : St) : Option St :=
 match mlook st.mem k with
 | some (.cells cs) => match cs[j]? with
   | some (.tv i n 0 len .rest) => match mlook st.mem i with
     | some (.arr esz es false) => if n = es.length then some ⟨st.vars, st.tmps, mset ((st.nx, .arr esz (es.take len) false) :: mdel st.mem i) k (.cells (cs.set j (.tl st.nx len false))), st.nx + 1⟩ else none
     | _ => none
   | _ => none
 | _ => none
section
variable {P : Program} {fr : Fr} {ro : Option Nat} {ds : DS} {st st' : St} {Q Q' : Exit → St → Prop} {G G' : Nat → Option Value} {F F' : Nat → Nat → Prop} {a : Act} {w w' : World} {x y c : Code} {M : Mem}
 {ops : Array Oper} {l rest : List Oper}
theorem simM_shrink {nx i esz n len b ko c' : Nat} {es : List (List AV)} (hm : SimM P G F M nx w) (hf : ∀ j, nx ≤ j → G j = none) (ho : mlook M i = some (.arr esz es false)) (hG : G i = some (.slice (some ⟨b, ko, none⟩) n c')) (hc0 : c' ≠ 0) (hn : n = es.length) (hlen : len ≤ n) :
  SimM P (upG G nx (.slice (some ⟨b, ko, none⟩) len c')) F ((nx, .arr esz (es.take len) false) :: mdel M i) (nx + 1) w ∧ Step All G F M w (upG G nx (.slice (some ⟨b, ko, none⟩) len c')) F ((nx, .arr esz (es.take len) false) :: mdel M i) w := by
 have htl : (es.take len).length = len := by rw [List.length_take]; omega
 have hob := (hm.obj i _ ho)
 have hne : i ≠ nx := Nat.ne_of_lt hob.1
 obtain ⟨G1, hG1⟩ : ∃ G1, G1 = upG G nx (.slice (some ⟨b, ko, none⟩) len c') := ⟨_, rfl⟩
 obtain ⟨M1, hM1⟩ : ∃ M1 : Mem, M1 = (nx, .arr esz (es.take len) false) :: mdel M i := ⟨_, rfl⟩
 rw [← hG1, ← hM1]
 have hlk : ∀ j, mlook M1 j = if j = nx then some (.arr esz (es.take len) false) else if j = i then none else mlook M j := fun j => by
  rw [hM1]; simp only [mlook]
  by_cases hj : j = nx
  ·rw [if_pos hj, if_pos hj]
  ·rw [if_neg hj, if_neg hj, mlook_mdel']
 have hgo : ∀ j, j ≠ nx → G1 j = G j := fun j hj => by rw [hG1, upG_other G _ hj]
 have hgs : G1 nx = some (.slice (some ⟨b, ko, none⟩) len c') := by rw [hG1, upG_self]
 have hbk : blkOf (.slice (some ⟨b, ko, none⟩) n c') = some b := by simp [blkOf, hc0]
 have hbk0 : blkOf (.slice (some ⟨b, ko, none⟩) len c') = some b := by simp [blkOf, hc0]
 have S : Step All G F M w G1 F M1 w :=
  { kept := .refl
    size := Nat.le_refl _
    out := fun _ _ _ => rfl
    F1 := fun _ _ h => h
    F2 := fun _ _ _ => rfl
    F3 := fun _ _ h => .inl h
    own := fun b' ⟨id, o, v, h1, h2, h3⟩ => by
     rw [hlk] at h1
     by_cases hj : id = nx
     ·subst hj
      rw [hgs] at h2; cases h2
      rw [hbk0] at h3; cases h3
      exact .inr ⟨i, _, _, ho, hG, hbk⟩
     ·rw [if_neg hj] at h1
      rw [hgo id hj] at h2
      split at h1
      ·cases h1
      ·exact .inr ⟨id, o, v, h1, h2, h3⟩
    some' := fun id _ hid => by
     by_cases hj : id = nx
     ·subst hj; rw [hgs]; simp
     ·rw [hgo id hj]; exact hid
    same := fun id v _ hid _ => by
     have hj : id ≠ nx := fun e => by rw [e, hf _ (Nat.le_refl _)] at hid; cases hid
     rw [hgo id hj]; exact hid
    keep := fun id o' _ hid h1 => by
     have hj : id ≠ nx := fun e => hid (by rw [e]; exact hf _ (Nat.le_refl _))
     rw [hlk, if_neg hj] at h1
     obtain ⟨v, hv⟩ := Option.ne_none_iff_exists'.1 hid
     split at h1
     ·cases h1
     ·exact ⟨o', v, v, h1, hv, (hgo id hj).trans hv, objKeep.refl v o'⟩ }
 have hm' : SimM P G1 F M1 (nx + 1) w := by
  refine simM_gen hm S (fun id o' h1 => ?_) (fun id id' v v' b' h1 h2 h3 h4 h5 h6 => ?_) hm.inF
  ·rw [hlk] at h1
   by_cases hj : id = nx
   ·subst hj
    rw [if_pos rfl] at h1; cases h1
    refine ⟨Nat.lt_succ_self _, .inl ?_⟩
    rcases hob.2 with ⟨_, base, h1, _⟩ | ⟨b2, ko2, c2, cc, e, k1, k2, k3, k4, k5, k6, k7, k8, k9⟩
    ·rw [hG] at h1; cases h1; exact absurd rfl hc0
    ·rw [hG] at k1; cases k1
     refine .inr ⟨b, ko, c', cc, e, by rw [hgs, htl], hc0, k3, by rw [htl]; omega, k5, fun i h => by rw [List.getElem_take]; exact k6 _ _, fun i j h hj => ?_, fun o h => ?_, fun h => by cases h⟩
     ·simp only [List.getElem_take] at hj ⊢
      obtain ⟨v, q1, q2, q3⟩ := k7 i j (by rw [htl] at h; omega) hj
      exact ⟨v, q1, q2, q3.step S fun _ _ => trivial⟩
     ·have := (k8 o h).1
      cases this
   ·rw [if_neg hj] at h1
    split at h1
    ·cases h1
    ·exact ⟨Nat.lt_succ_of_lt (hm.obj id o' h1).1, .inr ⟨h1, hgo id hj, fun b v _ _ => ⟨rfl, fun _ h => h⟩⟩⟩
  ·have back : ∀ {id : Nat} {v : Value}, mlook M1 id ≠ none → G1 id = some v → blkOf v = some b' → (id = nx ∧ b' = b) ∨ (id ≠ nx ∧ id ≠ i ∧ mlook M id ≠ none ∧ G id = some v) := fun {id v} q1 q2 q3 => by
     by_cases hj : id = nx
     ·subst hj
      rw [hgs] at q2; cases q2
      rw [hbk0] at q3; cases q3
      exact .inl ⟨rfl, rfl⟩
     ·rw [hlk, if_neg hj] at q1
      rw [hgo id hj] at q2
      by_cases hi : id = i
      ·rw [if_pos hi] at q1; exact absurd rfl q1
      ·rw [if_neg hi] at q1; exact .inr ⟨hj, hi, q1, q2⟩
   have hio : mlook M i ≠ none := by rw [ho]; simp
   rcases back h1 h3 h5 with ⟨e1, e2⟩ | ⟨q1, q2, q3, q4⟩ <;> rcases back h2 h4 h6 with ⟨e3, e4⟩ | ⟨p1, p2, p3, p4⟩
   ·rw [e1, e3]
   ·subst e2
    exact absurd (hm.inj id' i _ _ _ p3 hio p4 hG h6 hbk) p2
   ·subst e4
    exact absurd (hm.inj id i _ _ _ q3 hio q4 hG h5 hbk) q2
   ·exact hm.inj id id' _ _ _ q3 p3 q4 p4 h5 h6
 exact ⟨hm', S⟩
theorem SimA.shrinkC {k j : Nat} (s : SimA P fr ds G F st a w) (h : st.shrinkC k j = some st') : ∃ G', SimA P fr ds G' F st' a w ∧ Step (· < fr.base) G F st.mem w G' F st'.mem w := by
 unfold St.shrinkC at h
 split at h
 ·rename_i cs hok
  split at h
  ·rename_i i n len hj
   split at h
   ·rename_i esz es ho
    split at h
    rotate_left
    ·cases h
    rename_i hn
    cases h
    obtain ⟨hin, b, cc, el, k1, k2, k3, k4, k5⟩ := s.sim.mem.obj k _ hok
    obtain ⟨hjl, hjv⟩ := List.getElem?_eq_some_iff.1 hj
    have hv := k4 j (by omega) hjl
    rw [hjv] at hv
    obtain ⟨hG0, hh⟩ := hv.inv_tv
    obtain ⟨hol, b', ko, c, hG, hc0, c', hval, _, hcp⟩ := (hh _ _ _ ho).2 hn
    replace hc0 : c ≠ 0 := hc0.resolve_right fun h => by cases h.2.1
    have hcc : c' = c := by
     rcases hcp with h | h | ⟨_, h⟩
     ·cases h
     ·cases h
     ·omega
    subst hcc
    rw [Nat.zero_mul, Nat.add_zero] at hval
    have hki : k ≠ i := fun e => by rw [e, ho] at hok; cases hok
    obtain ⟨hm', S'⟩ := simM_shrink (len := len) s.sim.mem s.fresh ho hG hc0 hn (by omega)
    have hne : k ≠ st.nx := Nat.ne_of_lt hin
    obtain ⟨M1, hM1⟩ : ∃ M1 : Mem, M1 = ((st.nx, RObj.arr esz (es.take len) false) :: mdel st.mem i) := ⟨_, rfl⟩
    obtain ⟨G1, hG1⟩ : ∃ G1, G1 = upG G st.nx (.slice (some ⟨b', ko, none⟩) len c') := ⟨_, rfl⟩
    rw [← hM1, ← hG1] at hm' S'
    have ho1 : mlook M1 k = some (.cells cs) := by rw [hM1, mlook_cons, if_neg hne, mlook_mdel', if_neg hki]; exact hok
    have hgi : G1 k = some (.pointer (some ⟨b, 0, none⟩)) := by rw [hG1, upG_other G _ hne]; exact k1
    have harr : ∀ {id esz' es fz}, mlook (mset M1 k (.cells (cs.set j (.tl st.nx len false)))) id = some (.arr esz' es fz) → mlook M1 id = some (.arr esz' es fz) := fun {id esz' es fz} h => by
     rw [mlook_mset] at h
     split at h
     ·cases h
     ·exact h
    have hrv : ∀ {v : Value} {x : AV}, RV G1 F M1 w v x → RV G1 F (mset M1 k (.cells (cs.set j (.tl st.nx len false)))) w v x := fun h => by
     induction h with
     | imm h => exact .imm h
     | ag vs cs hl _ ih => exact .ag vs cs hl ih
     | tu vs cs hl _ ih => exact .tu vs cs hl ih
     | ifc t v x _ ih => exact .ifc t v x ih
     | fn f vs cs hl _ ih => exact .fn f vs cs hl ih
     | opt b v x _ h' ih => exact .opt b v x ih h'
     | rf id off b h => exact .rf id off b h
     | tl id len nl v hG h => exact .tl id len nl v hG fun esz es fz ho => h esz es fz (harr ho)
     | tv id n off len cap v hG h => exact .tv id n off len cap v hG fun esz es fz ho => h esz es fz (harr ho)
     | ea id n i off v hG h => exact .ea id n i off v hG fun esz es fz ho => h esz es fz (harr ho)
     | mp id b h => exact .mp id b h
    have hsome : ∀ id, mlook (mset M1 k (.cells (cs.set j (.tl st.nx len false)))) id ≠ none → mlook M1 id ≠ none := fun id h he => by
     rw [mlook_mset] at h
     split at h
     ·rename_i e; subst e; rw [ho1] at he; cases he
     ·exact h he
    have hobj : ∀ {id o}, ObjOk P G1 F M1 w id o → ObjOk P G1 F (mset M1 k (.cells (cs.set j (.tl st.nx len false)))) w id o := fun {id o} h => by
     cases o with
     | cells cs => obtain ⟨b, c, e, k1, k2, k3, k4, k5⟩ := h; exact ⟨b, c, e, k1, k2, k3, fun i a b => hrv (k4 i a b), k5⟩
     | arr esz es fz =>
       rcases h with h | ⟨b, ko, c, cc, e, k1, k2, k3, k4, k5, k6, k7, k8⟩
       ·exact .inl h
       ·exact .inr ⟨b, ko, c, cc, e, k1, k2, k3, k4, k5, k6, fun i j a b => let ⟨v, x, y, z⟩ := k7 i j a b; ⟨v, x, y, hrv z⟩, k8⟩
     | map kt es => obtain ⟨b, ents, clock, k1, k2, k3, k4, k5⟩ := h; exact ⟨b, ents, clock, k1, k2, k3, fun i a b => let ⟨x, y, z⟩ := k4 i a b; ⟨x, hrv y, z⟩, k5⟩
    have S2 : Step All G1 F M1 w G1 F (mset M1 k (.cells (cs.set j (.tl st.nx len false)))) w :=
     { kept := .refl, size := Nat.le_refl _
       out := fun _ _ _ => rfl
       F1 := fun _ _ h => h
       F2 := fun _ _ _ => rfl
       F3 := fun _ _ h => .inl h
       own := fun b ⟨id, o, v, h1, h2, h3⟩ => .inr (by
        obtain ⟨o', ho'⟩ := Option.ne_none_iff_exists'.1 (hsome id (by rw [h1]; simp))
        exact ⟨id, o', v, ho', h2, h3⟩)
       some' := fun _ _ h => h
       same := fun _ _ _ h _ => h
       keep := fun id o _ hG h1 => by
        obtain ⟨v, hvG⟩ := Option.ne_none_iff_exists'.1 hG
        rw [mlook_mset] at h1
        by_cases e : id = k
        ·rw [if_pos e] at h1
         cases h1
         subst e
         exact ⟨_, v, v, ho1, hvG, hvG, rfl⟩
        ·rw [if_neg e] at h1
         exact ⟨o, v, v, h1, hvG, hvG, objKeep.refl v o⟩ }
    have htl : (es.take len).length = len := by rw [List.length_take]; omega
    rw [← hM1]
    refine ⟨G1, ⟨⟨⟨fun id o h => ?_, fun id id' v v' b h1 h2 => hm'.inj id id' v v' b (hsome _ h1) (hsome _ h2), hm'.inF, hm'.gl⟩, fun k => hrv ((s.sim.slots k).step S' fun _ _ => trivial), s.sim.size⟩, fun k hk => ?_, s.defers⟩, (S'.trans S2).mono fun _ _ => trivial⟩
    ·rw [mlook_mset] at h
     by_cases e : id = k
     ·rw [if_pos e] at h
      cases h
      subst e
      refine ⟨Nat.lt_succ_of_lt hin, b, cc, el, hgi, k2, by rw [List.length_set]; exact k3, fun q q1 q2 => ?_, k5⟩
      by_cases hq : q = j
      ·subst hq
       rw [List.getElem_set_self, hval]
       refine .tl st.nx len false _ (by rw [hG1, upG_self]; simp) fun esz' es' fz hx => ?_
       rw [mlook_mset, if_neg (Ne.symm hne), hM1, mlook_cons, if_pos rfl] at hx; cases hx
       exact ⟨by rw [htl]; exact Nat.le_refl _, fun _ => ⟨by rw [hG1]; exact upG_self _ _ _, rfl⟩⟩
      ·rw [List.getElem_set_ne (Ne.symm hq)]
       exact hrv ((k4 q q1 (by simpa using q2)).step S' fun _ _ => trivial)
     ·rw [if_neg e] at h
      exact ⟨(hm'.obj id o h).1, hobj (hm'.obj id o h).2⟩
    ·have hk : st.nx + 1 ≤ k := hk
     rw [hG1, upG_other G _ (by omega)]; exact s.fresh k (by omega)
   ·cases h
  ·cases h
 ·cases h
theorem EvC.shrinkC (k j : Nat) {st' : St} (h : st.shrinkC k j = some st') (hc : EvC P fr ro ds c st' Q) : EvC P fr ro ds c st Q :=
 EvC.conv (fun _ F _ _ s => let ⟨G', s', S'⟩ := s.shrinkC h; ⟨G', F, s', S'⟩) hc
attribute [go_sem] St.shrinkC
end
def tvOf (M : Mem) (i : Nat) : AV → AV
 | .tl j n b => if j = i ∧ n ≠ 0 then match mlook M i with
   | some (.arr _ es _) => if n = es.length then .tv i n 0 n .rest else .tl j n b
   | _ => .tl j n b else .tl j n b
 | v => v
def St.toTv (i : Nat) (st : St) : St := ⟨st.vars, st.tmps, memMap (tvOf st.mem i) st.mem, st.nx⟩
section
variable {P : Program} {fr : Fr} {ro : Option Nat} {ds : DS} {st st' : St} {Q Q' : Exit → St → Prop} {G G' : Nat → Option Value} {F F' : Nat → Nat → Prop} {a : Act} {w w' : World} {c : Code}
theorem tvOf_rv {M : Mem} {nx i : Nat} (hm : SimM P G F M nx w) {v : Value} {y : AV} (h : RV G F M w v y) : RV G F M w v (tvOf M i y) := by
 unfold tvOf
 split
 ·rename_i j n b
  split
  ·rename_i hj
   obtain ⟨rfl, h0⟩ := hj
   split
   ·rename_i esz es fz ho
    split
    ·rename_i hn
     exact h.tl_tv hm ho hn h0
    ·exact h
   ·exact h
  ·exact h
 ·exact h
theorem EvC.toTv (i : Nat) (hc : EvC P fr ro ds c (st.toTv i) Q) : EvC P fr ro ds c st Q :=
 EvC.conv (fun _ F _ _ s => let ⟨s', S'⟩ := s.memMap (f := tvOf st.mem i) fun _ _ h => tvOf_rv s.sim.mem h; ⟨_, F, s', S'⟩) hc
theorem EvC.gcE {c : Code} {Q : Exit → St → Prop} (L : List Nat) (K : List (Nat × Nat)) (nx : Nat) {st2 : St} (hk : gcOk fr.base nx K = true) (he : st.gc L K nx = st2) (h : EvC P fr ro ds c st2 Q) : EvC P fr ro ds c st Q := .gc L K nx hk (by rw [he]; exact h)
end
attribute [go_sem] St.toTv tvOf
def newRes (F : Nat → Nat → Prop) (w : World) (esz : Nat) (es : List (List AV)) (e : Ending) (w' : World) : Prop :=
 ∃ (b ko c : Nat) (cc : Array Value) (elem : TypeId) (F' : Nat → Nat → Prop), e = .returned (.slice (some ⟨b, ko, none⟩) es.length c) ∧ c ≠ 0 ∧ w.heap.size ≤ b ∧ w'.heap[b]? = some (.cells cc elem (0, 0)) ∧ es.length ≤ c ∧ cc.size = ko + c * esz ∧
   (∀ i (h : i < es.length), es[i].length = esz) ∧ (∀ i j (h : i < es.length) (h' : j < es[i].length), ∃ v, cc[ko + (i * esz + j)]? = some v ∧ v.oneCell' = true ∧ Imm F' w' v es[i][j]) ∧ (∀ o, ¬ F' b o) ∧ Grown F w F' w'
def PureNew (P : Program) (f : FuncId) (args : List AV) (esz : Nat) (es : List (List AV)) : Prop :=
 callable P f ∧ ∀ F w vals, FOk F w → Imms F w vals args → CallsIn Fence.wide 0 P f vals.toArray w fun e w' => newRes F w esz es e w'
def retN (P : Program) (fr : Fr) (results : List ResultVar) (esz : Nat) (es : List (List AV)) (e : Exit) (st : St) : Prop :=
 (e = .ret ∨ e = .normal) ∧ ∃ (r0 : AV) (i : Nat), resAllR P fr st results = some [r0] ∧ (r0 = .tl i es.length false ∨ r0 = .tv i es.length 0 es.length .rest) ∧ mlook st.mem i = some (.arr esz es false) ∧ es.length ≠ 0 ∧ es.all AV.norefs = true
section
variable {P : Program} {fr : Fr} {ro : Option Nat} {ds : DS} {st st' : St} {Q Q' : Exit → St → Prop} {G G' : Nat → Option Value} {F F' : Nat → Nat → Prop} {a : Act} {w w' : World} {M M' : Mem}
 {ops : Array Oper} {l rest : List Oper} {o : Oper} {N id : Nat} {rd gs : List Nat}
theorem PureNew.of {c : Code} {f : FuncId} {fn : Func} {args : List AV} {esz : Nat} {es : List (List AV)} {nv : Nat} {hid : List Nat} (hf : P.funcs[f]? = some fn) (hb : fn.body = some c) (hnm : (fn.name == "runtime.NumGoroutine") = false) (hsz : args.length ≤ fn.ntmps)
  (h : ∀ h0 : Nat, EvC P ⟨0, nv, hid, fn.ntmps⟩ none ⟨h0, none, false⟩ c (st0 args) (retN P ⟨0, nv, hid, fn.ntmps⟩ fn.results.toList esz es)) (hlt : f < 1000000 := by first | assumption | decide) : PureNew P f args esz es := by
 refine ⟨callable_of hf hnm (by rw [hb]; rfl), fun F w vals hF hi => ?_⟩
 obtain ⟨hl, hi⟩ := hi
 have s0 : SimA P ⟨0, nv, hid, fn.ntmps⟩ ⟨w.heap.size, none, false⟩ (fun _ => none) F (st0 args) { tmps := vals.toArray ++ Array.replicate (fn.ntmps - vals.toArray.size) undef, defers := [] } w := by
  refine ⟨⟨⟨fun id o h => (by cases h), fun id id' v v' b h => absurd rfl h, hF.1, hF.2⟩, fun k => ?_, by simp; omega⟩, fun _ _ => rfl, Marks.none _ _ _ (Nat.le_refl _)⟩
  have key : ∀ x, (x = .junk ∨ ∃ h : k < args.length, x = args[k]) → RV (fun _ => none) F (st0 args).mem w ((vals.toArray ++ Array.replicate (fn.ntmps - vals.toArray.size) undef).getD k undef) x := by
   rintro x (rfl | ⟨hk, rfl⟩)
   ·exact .imm (.junk _)
   ·have : (vals.toArray ++ Array.replicate (fn.ntmps - vals.toArray.size) undef).getD k undef = vals[k]'(by omega) := by
      rw [Array.getD_eq_getD_getElem?, Array.getElem?_append_left (by simp; omega)]
      simp [List.getElem?_eq_getElem (show k < vals.length by omega)]
    rw [this]
    exact .imm (hi k (by omega) hk)
  refine key _ ?_
  unfold St.get
  split
  ·rcases alook_vars0 args 0 k with h | ⟨h1, h2, h3⟩
   ·exact .inl h
   ·exact .inr ⟨by simpa using h1, by simpa [st0] using h3⟩
  ·exact .inl rfl
 refine callsIn_of_wp_marks (F := Fence.wide) hf hb trivial (wpIn_mono (h _ _ _ _ _ _ _ _ _ .refl s0) ?_)
 rintro e a' w' ⟨G', F', st', s', S', he, r0, i, hrs, hr0, ho, hne, hnr⟩
 have hown : ∀ b, Owned G' st'.mem b → w.heap.size ≤ b := fun b hb => (S'.own b hb).elim id fun ⟨_, _, _, h, _⟩ => by cases h
 have g : ∀ w2 : World, w.heap.size ≤ w2.heap.size → (∀ b, b < w.heap.size → w2.heap[b]? = w.heap[b]?) → Kept w w2 → (∀ b o, F' b o → b < w2.heap.size) → Grown F w F' w2 := fun w2 h1 h2 h3 h4 =>
  ⟨h1, h2, S'.F1, fun b o h => by
   rcases S'.F3 b o h with h | h | ⟨_, _, _, h, _⟩
   ·exact .inl h
   ·exact .inr h
   ·exact (by cases h), h4, h3⟩
 have hfin : ∀ (Ds : List Nat) (w2 : World), Ds.Nodup → (∀ D ∈ Ds, w.heap.size ≤ D ∧ w2.heap[D]? = some (.deferred (some []))) → w.heap.size ≤ w2.heap.size → (∀ b, b < w.heap.size → w2.heap[b]? = w.heap[b]?) → Kept w w2 →
   SimA P ⟨0, nv, hid, fn.ntmps⟩ ⟨w.heap.size, none, false⟩ G' F' st' { a' with defers := [] } w2 →
   LeavesInM Fence.wide 0 P fn a'.tmps (fun e w' => newRes F w esz es e w') (Ds.map dmark) .returning w2 := by
  intro Ds
  induction Ds with
  | nil =>
    intro w2 _ _ h1 h2 h3 s2
    obtain ⟨u, k1, k2⟩ := resultsR_ok s2 hrs
    have hu : u = u := rfl
    refine ⟨u, k1, ?_⟩
    have k2 : RV G' F' st'.mem w2 u r0 := k2
    have hv : G' i = some u ∧ isNilSlice u = false := by
     rcases hr0 with rfl | rfl
     ·obtain ⟨_, hh⟩ := k2.inv_tl
      obtain ⟨q1, q2⟩ := (hh _ _ _ ho).2 rfl
      exact ⟨q1, q2.symm⟩
     ·obtain ⟨_, hh⟩ := k2.inv_tv
      obtain ⟨_, b, ko, c, hG, hc0, c', hval, _, hcp⟩ := (hh _ _ _ ho).2 rfl
      subst hval
      have hc0 : c ≠ 0 := hc0.resolve_right fun h => hne h.1
      rcases hcp with h | h | ⟨h, _⟩
      ·cases h
      ·cases h
      ·have : c' = c := by omega
       subst this
       exact ⟨by rw [hG]; simp, rfl⟩
    obtain ⟨hGi, _⟩ := hv
    rcases (s2.sim.mem.obj i _ ho).2 with ⟨h0, _⟩ | ⟨b, ko, c, cc, el, q1, q2, q3, q4, q5, q6, q7, q8, _⟩
    ·subst h0; exact absurd rfl hne
    ·rw [hGi] at q1
     cases q1
     refine ⟨b, ko, c, cc, el, F', rfl, q2, hown b ⟨i, _, _, ho, hGi, by simp [blkOf, q2]⟩, q3, q4, q5, q6, fun k j hk hj => ?_, fun o hF => (by cases (q8 o hF).1), g w2 h1 h2 h3 s2.sim.mem.inF⟩
     obtain ⟨v, hv, h1c, hr⟩ := q7 k j hk hj
     exact ⟨v, hv, h1c, hr.imm_of (all_norefs hnr k j hk hj)⟩
  | cons D Ds ih =>
    intro w2 hnd hD h1 h2 h3 s2
    obtain ⟨d1, d2⟩ := hD D List.mem_cons_self
    have hnd := List.nodup_cons.1 hnd
    have hk : ∀ (b : Nat) (o : Obj), w2.heap[b]? = some o → isData o = true → (w2.putObj D (.deferred none)).heap[b]? = some o := fun b o hb ho => by
     rw [World.putObj_heap_other (by rintro rfl; rw [d2] at hb; cases hb; cases ho)]; exact hb
    refine ⟨(by intro h; cases h), .inl ⟨D, _, rfl, run_takeDeferred d2, ih _ hnd.2 (fun D' hD' => ?_) (by rw [World.putObj_size]; exact h1) (fun b hb => ?_) (h3.trans (.set d2 rfl rfl)) ?_⟩⟩
    ·refine ⟨(hD D' (List.mem_cons_of_mem _ hD')).1, ?_⟩
     rw [World.putObj_heap_other (by rintro rfl; exact hnd.1 hD')]; exact (hD D' (List.mem_cons_of_mem _ hD')).2
    ·rw [World.putObj_heap_other (by omega)]; exact h2 b hb
    ·exact ⟨⟨s2.sim.mem.keepData hk (by rw [World.putObj_size]; exact Nat.le_refl _), fun k => (s2.sim.slots k).keepData hk, s2.sim.size⟩, s2.fresh, Marks.none _ _ _ (by rw [World.putObj_size]; exact h1)⟩
 obtain ⟨⟨Ds, hDs, hnd, hD⟩, _⟩ := s'.defers
 have hDs : a'.defers = Ds.map dmark := hDs
 have := hfin Ds w' hnd hD S'.size (fun b hb => S'.out b hb (fun ⟨_, _, _, h, _⟩ => by cases h)) S'.kept ⟨⟨s'.sim.mem, s'.sim.slots, s'.sim.size⟩, s'.fresh, Marks.none _ _ _ S'.size⟩
 rw [← hDs] at this
 rcases he with rfl | rfl
 ·exact this
 ·exact this
theorem simM_grownNew {nx b : Nat} (hm : SimM P G F M nx w) (g : Grown F w F' w') (hid : G id = none) (hn : id < nx) (h : Value) (ob : RObj) (hb : blkOf h = some b) (hb1 : w.heap.size ≤ b)
  (S' : Step All G F M w (upG G id h) F' ((id, ob) :: M) w' → ObjOk P (upG G id h) F' ((id, ob) :: M) w' id ob) :
  SimM P (upG G id h) F' ((id, ob) :: M) nx w' ∧ Step All G F M w (upG G id h) F' ((id, ob) :: M) w' := by
 have hne : ∀ j, G j ≠ none → j ≠ id := fun j hj e => hj (e ▸ hid)
 have S : Step All G F M w (upG G id h) F' ((id, ob) :: M) w' :=
  { kept := g.kept
    size := g.size
    out := fun b hb _ => g.old b hb
    F1 := g.F1
    F2 := fun b o' hF => cell?_same (g.old b (hm.inF b o' hF)) o'
    F3 := fun b o h => (g.F3 b o h).imp (fun h => h) fun h => .inl h
    own := fun b1 ⟨j, o', v, ho, hv, hbv⟩ => by
     by_cases e : j = id
     ·subst e
      rw [upG_self] at hv; cases hv
      rw [hb] at hbv; cases hbv
      exact .inl hb1
     ·rw [mlook_cons, if_neg e] at ho
      rw [upG_other G h e] at hv
      exact .inr ⟨j, o', v, ho, hv, hbv⟩
    some' := fun j _ hj => by rw [upG_other G h (hne j hj)]; exact hj
    same := fun j v _ hj _ => by rw [upG_other G h (hne j (by simp [hj]))]; exact hj
    keep := fun j o' _ hj ho => by
     have e := hne j hj
     rw [mlook_cons, if_neg e] at ho
     cases hv : G j with
     | none => exact absurd hv hj
     | some v => exact ⟨o', v, v, ho, rfl, by rw [upG_other G h e]; exact hv, objKeep.refl v o'⟩ }
 refine ⟨simM_gen hm S (fun j o' ho => ?_) (fun i j v v' b1 hi hj hv hv' hbv hbv' => ?_) g.inF, S⟩
 ·by_cases e : j = id
  ·subst e
   rw [mlook_cons, if_pos rfl] at ho; cases ho
   exact ⟨hn, .inl (S' S)⟩
  ·rw [mlook_cons, if_neg e] at ho
   refine ⟨(hm.obj j o' ho).1, .inr ⟨ho, upG_other G h e, fun b1 v hv hbv => ?_⟩⟩
   have hlt : b1 < w.heap.size := hm.lt ⟨j, o', v, ho, hv, hbv⟩
   exact ⟨g.old b1 hlt, fun o h => by rcases g.F3 b1 o h with h | h; exact h; omega⟩
 ·have old : ∀ j v, j ≠ id → mlook ((id, ob) :: M) j ≠ none → upG G id h j = some v → mlook M j ≠ none ∧ G j = some v := fun j v e h1 h2 =>
    ⟨by rwa [mlook_cons, if_neg e] at h1, by rwa [upG_other G h e] at h2⟩
  have lt : ∀ j v, mlook M j ≠ none → G j = some v → blkOf v = some b1 → b1 < w.heap.size := fun j v h1 h2 h3 => by
   cases ho : mlook M j with
   | none => exact absurd ho h1
   | some o' => exact hm.lt ⟨j, o', v, ho, h2, h3⟩
  by_cases ei : i = id
  ·by_cases ej : j = id
   ·rw [ei, ej]
   ·subst ei
    rw [upG_self] at hv; cases hv
    obtain ⟨h1, h2⟩ := old j v' ej hj hv'
    have := lt j v' h1 h2 hbv'
    rw [hb] at hbv; cases hbv
    omega
  ·by_cases ej : j = id
   ·subst ej
    rw [upG_self] at hv'; cases hv'
    obtain ⟨h1, h2⟩ := old i v ei hi hv
    have := lt i v h1 h2 hbv
    rw [hb] at hbv'; cases hbv'
    omega
   ·obtain ⟨h1, h2⟩ := old i v ei hi hv
    obtain ⟨h3, h4⟩ := old j v' ej hj hv'
    exact hm.inj i j v v' b1 h1 h3 h2 h4 hbv hbv'
end
section
variable {P : Program} {fr : Fr} {ro : Option Nat} {ds : DS} {st st' : St} {Q Q' : Exit → St → Prop} {G G' : Nat → Option Value} {F F' : Nat → Nat → Prop} {a : Act} {w w' : World} {M M' : Mem}
 {ops : Array Oper} {l rest : List Oper} {o : Oper} {N id : Nat} {rd gs : List Nat}
end
inductive Anc (l : List It) : Nat → Nat → Prop
 | base {i m : Nat} {t : It} (h : l[i]? = some t) (hm : m ∈ depsOf t.o) : Anc l i m
 | step {i e m : Nat} {t : It} (h : l[i]? = some t) (he : e ∈ depsOf t.o) (h2 : Anc l e m) : Anc l i m
def ancB (l : List It) : Nat → Nat → Nat → Bool
 | 0, _, _ => false
 | k + 1, i, m => match l[i]? with
   | none => false
   | some t => (depsOf t.o).contains m || (depsOf t.o).any fun e => ancB l k e m
theorem ancB_spec {l : List It} : ∀ {k i m : Nat}, ancB l k i m = true → Anc l i m
 | 0, _, _, h => by cases h
 | k + 1, i, m, h => by
   simp only [ancB] at h
   split at h
   ·cases h
   ·rename_i t ht
    rw [Bool.or_eq_true] at h
    rcases h with h | h
    ·exact .base ht (by simpa using h)
    ·rw [List.any_eq_true] at h
     obtain ⟨e, he, h⟩ := h
     exact .step ht he (ancB_spec h)
structure ConfA (l : List It) : Prop where
 back : ∀ i t, l[i]? = some t → ∀ e ∈ depsOf t.o, e < i
 edge : ∀ i m t u, l[i]? = some t → l[m]? = some u → i ≠ m → ∀ x, (x ∈ t.rd ∨ x ∈ wl t.o.dst t.r) → x ∈ wl u.o.dst u.r → Anc l i m ∨ Anc l m i
theorem ConfA.lt {l : List It} (hc : ConfA l) {i m : Nat} (h : Anc l i m) : m < i := by
 induction h with
 | base h hm => exact hc.back _ _ h _ hm
 | step h he _ ih => have := hc.back _ _ h _ he; omega
theorem Anc.closed {l : List It} {p : Nat → Bool} (hcl : ∀ i t, l[i]? = some t → p i = true → ∀ e ∈ depsOf t.o, p e = true) {i m : Nat} (h : Anc l i m) (hi : p i = true) : p m = true := by
 induction h with
 | base h hm => exact hcl _ _ h hi _ hm
 | step h he _ ih => exact ih (hcl _ _ h hi _ he)
theorem Anc.ready {l : List It} {p : Nat → Bool} (hcl : ∀ i t, l[i]? = some t → p i = true → ∀ e ∈ depsOf t.o, p e = true) {i m : Nat} {t : It} (h : Anc l i m) (ht : l[i]? = some t) (hd : ∀ e ∈ depsOf t.o, p e = true) : p m = true := by
 cases h with
 | base h hm => rw [ht] at h; cases h; exact hd _ hm
 | step h he h2 => rw [ht] at h; cases h; exact h2.closed hcl (hd _ he)
def confOneA (all : List It) (i : Nat) (t : It) : Nat → List It → Bool
 | _, [] => true
 | m, u :: l => (i == m || !((t.rd ++ wl t.o.dst t.r).any fun x => (wl u.o.dst u.r).contains x) || ancB all 4 i m || ancB all 4 m i) && confOneA all i t (m + 1) l
def confAllA (all : List It) : Nat → List It → Bool
 | _, [] => true
 | i, t :: l => (depsOf t.o).all (fun e => decide (e < i)) && confOneA all i t 0 all && confAllA all (i + 1) l
section
variable {P : Program} {fr : Fr} {ro : Option Nat} {ds : DS} {st st' : St} {Q : Exit → St → Prop} {G G' : Nat → Option Value} {F F' : Nat → Nat → Prop} {a : Act} {w w' : World}
 {M M' : Mem} {ops : Array Oper} {o : Oper} {id N : Nat} {S S' : Nat → Bool} {d : Option Nat} {r : Rc} {x y : Nat} {l : List It}
theorem confOneA_spec {all : List It} {i : Nat} {t : It} : ∀ (l : List It) (m0 : Nat), confOneA all i t m0 l = true → ∀ m u, l[m]? = some u → i ≠ m0 + m → ∀ x, (x ∈ t.rd ∨ x ∈ wl t.o.dst t.r) → x ∈ wl u.o.dst u.r → Anc all i (m0 + m) ∨ Anc all (m0 + m) i := by
 intro l
 induction l with
 | nil => intro m0 _ m u hm; simp at hm
 | cons u0 l ih =>
   intro m0 h m u hm hne x hx hu
   simp only [confOneA, Bool.and_eq_true] at h
   cases m with
   | zero =>
     have e : u0 = u := by simpa using hm
     subst e
     have h1 := h.1
     simp only [Bool.or_eq_true, beq_iff_eq, Bool.not_eq_true'] at h1
     rcases h1 with ((h1 | h1) | h1) | h1
     ·exact absurd h1 (by simpa using hne)
     ·rw [List.any_eq_false] at h1
      exact absurd (by simpa using hu) (h1 x (List.mem_append.2 hx))
     ·exact .inl (ancB_spec h1)
     ·exact .inr (ancB_spec h1)
   | succ m =>
     have := ih (m0 + 1) h.2 m u (by simpa using hm) (by omega) x hx hu
     rwa [show m0 + 1 + m = m0 + (m + 1) by omega] at this
theorem confAllA_spec {all : List It} : ∀ (l : List It) (i0 : Nat), confAllA all i0 l = true → ∀ i t, l[i]? = some t → (∀ e ∈ depsOf t.o, e < i0 + i) ∧ confOneA all (i0 + i) t 0 all = true := by
 intro l
 induction l with
 | nil => intro i0 _ i t ht; simp at ht
 | cons t0 l ih =>
   intro i0 h i t ht
   simp only [confAllA, Bool.and_eq_true, List.all_eq_true, decide_eq_true_eq] at h
   cases i with
   | zero =>
     have e : t0 = t := by simpa using ht
     subst e
     exact ⟨h.1.1, h.1.2⟩
   | succ i =>
     have := ih (i0 + 1) h.2 i t (by simpa using ht)
     rwa [show i0 + 1 + i = i0 + (i + 1) by omega] at this
theorem ConfA.of (h : confAllA l 0 l = true) : ConfA l where
 back := fun i t ht => by simpa using (confAllA_spec l 0 h i t ht).1
 edge := fun i m t u ht hu hne x hx hxu => by
  have := confOneA_spec l 0 (by simpa using (confAllA_spec l 0 h i t ht).2) m u hu (by simpa using hne) x hx hxu
  simpa using this
theorem drawAnyA {nx : Nat} {l : List It} {st : St} {G0 : Nat → Option Value} {F0 : Nat → Nat → Prop} {M0 : Mem} {w0 : World} (hops : ∀ i : Nat, (ops[i]? : Option Oper) = (l[i]?).map fun t => t.o) (hn : ops.size = l.length) (hc : ConfA l)
  (his : ∀ i t, l[i]? = some t → OpIs P fr ro ds ops (nx + i) (foldS fr (fun j => decide (j < i)) 0 l st) t)
  (hQ : ∀ G F a w, SimD P fr ds G F (foldS fr (fun _ => true) 0 l st) (nx + l.length) a w → (∀ j, nx + l.length ≤ j → G j = none) → Step (· < fr.base) G0 F0 M0 w0 G F (foldS fr (fun _ => true) 0 l st).mem w → Post P fr ds G0 F0 M0 w0 Q .normal a w) :
  ∀ (fuel : Nat) (listed : Array Bool) (G : Nat → Option Value) (F : Nat → Nat → Prop) (a : Act) (w : World), listed.size = l.length →
    SimD P fr ds G F (foldS fr (inS listed) 0 l st) (nx + l.length) a w → Step (· < fr.base) G0 F0 M0 w0 G F (foldS fr (inS listed) 0 l st).mem w →
    (∀ j, nx ≤ j → (∀ i, i < l.length → inS listed i = true → j ≠ nx + i) → G j = none) →
    (∀ i t, l[i]? = some t → inS listed i = true → ∀ e ∈ depsOf t.o, inS listed e = true) →
    (List.range l.length).countP (fun i => !inS listed i) ≤ fuel →
    wpAnyIn (fc ro) 0 P .any ops (Post P fr ds G0 F0 M0 w0 Q) fuel listed a w := by
 have allDone : ∀ (listed : Array Bool) (G : Nat → Option Value) (F : Nat → Nat → Prop) (a : Act) (w : World), SimD P fr ds G F (foldS fr (inS listed) 0 l st) (nx + l.length) a w → Step (· < fr.base) G0 F0 M0 w0 G F (foldS fr (inS listed) 0 l st).mem w →
   (∀ j, nx ≤ j → (∀ i, i < l.length → inS listed i = true → j ≠ nx + i) → G j = none) → (∀ i, i < l.length → inS listed i = true) → Post P fr ds G0 F0 M0 w0 Q .normal a w := by
  intro listed G F a w s S hfr hall
  have e : foldS fr (inS listed) 0 l st = foldS fr (fun _ => true) 0 l st := foldS_congr fun m hm => by rw [Nat.zero_add]; exact hall m hm
  rw [e] at s S
  exact hQ G F a w s (fun j hj => hfr j (by omega) fun i hi _ => by omega) S
 have readyOf : ∀ (listed : Array Bool), listed.size = l.length → ∀ i, i ∈ Region.ready .any ops listed ↔ inS listed i = false ∧ ∃ t, l[i]? = some t ∧ ∀ e ∈ depsOf t.o, inS listed e = true := by
  intro listed hsz i
  rw [mem_ready]
  constructor
  ·rintro ⟨h1, o, ho, h2⟩
   rw [hops] at ho
   obtain ⟨t, ht, rfl⟩ := Option.map_eq_some_iff.1 ho
   have hi : i < l.length := (List.getElem?_eq_some_iff.1 ht).1
   refine ⟨?_, t, ht, fun e he => ?_⟩
   ·unfold inS
    rw [Array.getD_eq_getD_getElem?] at h1 ⊢
    rw [Array.getElem?_eq_getElem (by omega)] at h1 ⊢
    exact h1
   ·simp only [depsOf, List.mem_map, List.mem_filter] at he
    obtain ⟨e', ⟨he1, he2⟩, rfl⟩ := he
    exact h2 e' (by simpa using he1) he2
  ·rintro ⟨h1, t, ht, h2⟩
   have hi : i < l.length := (List.getElem?_eq_some_iff.1 ht).1
   refine ⟨?_, t.o, by rw [hops, ht]; rfl, fun e he hb => h2 e.on ?_⟩
   ·unfold inS at h1
    rw [Array.getD_eq_getD_getElem?] at h1 ⊢
    rw [Array.getElem?_eq_getElem (by omega)] at h1 ⊢
    exact h1
   ·simp only [depsOf, List.mem_map, List.mem_filter]
    exact ⟨e, ⟨by simpa using he, hb⟩, rfl⟩
 have noneReady : ∀ (listed : Array Bool), listed.size = l.length → Region.ready .any ops listed = [] → ∀ i, i < l.length → inS listed i = true := by
  intro listed hsz hr i
  induction i using Nat.strongRecOn with
  | _ i ih =>
    intro hi
    cases hs : inS listed i with
    | true => rfl
    | false =>
      have : i ∈ Region.ready .any ops listed := (readyOf listed hsz i).2 ⟨hs, l[i], List.getElem?_eq_getElem hi, fun e he => by
       have := hc.back i l[i] (List.getElem?_eq_getElem hi) e he
       exact ih e this (by omega)⟩
      rw [hr] at this; cases this
 intro fuel
 induction fuel with
 | zero =>
   intro listed G F a w hsz s S hfr hcl hcount
   have hall : ∀ i, i < l.length → inS listed i = true := by
    intro i hi
    have h0 : (List.range l.length).countP (fun i => !inS listed i) = 0 := by omega
    rw [List.countP_eq_zero] at h0
    have := h0 i (by simpa using hi)
    simpa using this
   refine ⟨?_, allDone listed G F a w s S hfr hall⟩
   cases hr : Region.ready .any ops listed with
   | nil => rfl
   | cons i rs =>
     have := (readyOf listed hsz i).1 (by rw [hr]; exact List.mem_cons_self)
     obtain ⟨h1, t, ht, _⟩ := this
     rw [hall i (List.getElem?_eq_some_iff.1 ht).1] at h1; cases h1
 | succ fuel ih =>
   intro listed G F a w hsz s S hfr hcl hcount
   refine ⟨fun hr => allDone listed G F a w s S hfr (noneReady listed hsz hr), fun i hi => ?_⟩
   obtain ⟨hSi, t, ht, hdep⟩ := (readyOf listed hsz i).1 hi
   have hil : i < l.length := (List.getElem?_eq_some_iff.1 ht).1
   unfold wpOpIn
   rw [hops, ht]
   simp only [Option.map_some]
   have hadd : ∀ j, inS (listed.setIfInBounds i true) j = addS (inS listed) i j := by
    intro j
    unfold inS addS
    simp only [Array.getD_eq_getD_getElem?, Array.getElem?_setIfInBounds]
    by_cases h : i = j
    ·subst h
     simp [show i < listed.size by omega]
    ·simp [h, Ne.symm h]
   have hfold : foldS fr (inS (listed.setIfInBounds i true)) 0 l st = foldS fr (addS (inS listed) i) 0 l st := foldS_congr fun m _ => hadd _
   have hlook : ∀ x, look fr (foldS fr (inS (listed.setIfInBounds i true)) 0 l st) x = look fr (run1 fr t.o.dst t.r (foldS fr (inS listed) 0 l st)) x := by
    intro x
    rw [hfold]
    refine foldS_add ht hSi (fun m u hu hlt hSm x hx => ?_) x
    cases hw : wrt u.o.dst u.r x with
    | none => rfl
    | some v =>
      exfalso
      rcases hc.edge i m t u ht hu (by omega) x (.inr (wrt_wl hx)) (wrt_wl (by rw [hw]; rfl)) with h | h
      ·have := hc.lt h; omega
      ·have := h.closed hcl hSm
       rw [hSi] at this; cases this
   refine his i t ht _ G F a w (nx + l.length) _ _ s (by omega) (hfr _ (by omega) fun i' _ hS' he => ?_) (fun x hx => ?_) (fun G' F' a' w' s' S' hfr' => ?_)
   ·have : i = i' := by omega
    subst this
    rw [hSi] at hS'; cases hS'
   ·rw [look_foldS, look_foldS]
    refine lastW_agree l 0 _ fun m u hu hw => ?_
    rw [Nat.zero_add]
    by_cases hmi : m = i
    ·subst hmi; rw [hSi]; simp
    ·rcases hc.edge i m t u ht hu (fun h => hmi h.symm) x (.inl hx) (wrt_wl hw) with h | h
     ·have := hc.lt h
      rw [h.ready hcl ht hdep]; simp [this]
     ·have h1 := hc.lt h
      cases hSm : inS listed m with
      | false => simp; omega
      | true =>
        have := h.closed hcl hSm
        rw [hSi] at this; cases this
   ·refine ih _ G' F' a' w' (by simpa using hsz) (s'.ext hlook) ((S.trans (S'.mono fun _ _ => trivial)).ext (look_mem hlook)) (fun j hj hne => ?_) (fun i' t' ht' hS' e he => ?_) ?_
    ·refine hfr' j (hne i hil (by rw [hadd]; simp [addS])) (hfr j hj fun i' hi' hS' => hne i' hi' (by rw [hadd]; simp [addS, hS']))
    ·rw [hadd] at hS' ⊢
     simp only [addS, Bool.or_eq_true, decide_eq_true_eq] at hS' ⊢
     rcases hS' with hS' | rfl
     ·exact .inl (hcl i' t' ht' hS' e he)
     ·rw [ht] at ht'; cases ht'
      exact .inl (hdep e he)
    ·have := countP_less (p := fun i => !inS listed i) (q := fun j => !inS (listed.setIfInBounds i true) j) hil (by simp [hSi]) (by simp only [hadd]; simp [addS]) (fun j hj => by
       rw [hadd] at hj
       simp only [addS, Bool.not_or, Bool.and_eq_true] at hj
       exact hj.1)
     omega
theorem EvC.drawA {idr : Nat} {l : List Oper} {its : List It} (hm : P.follows .mixedOrders = true) (ht : Tr P fr ro ds l.toArray st.nx l st.clr its st') (hc : confAllA its 0 its = true)
  (hq : Q .normal ⟨st'.vars, st'.tmps, st'.mem, st.nx + its.length⟩) : EvC P fr ro ds (.region idr l.toArray true) st Q := by
 intro G0 F0 M0 w0 G F a w S s
 obtain ⟨h1, h2, h3⟩ := ht.spec
 obtain ⟨hm', S'⟩ := simM_drew (w' := { w with drawn := w.drawn + 1 }) (s.clr.sim.mem.more (Nat.le_add_right _ its.length)) rfl ⟨rfl, rfl, rfl, .refl⟩
 have hlen : l.length = its.length := by rw [← h1]; simp
 refine wpIn_region_any hm ?_
 have hnone : ∀ i, inS (Array.replicate l.toArray.size false) i = false := fun i => by
  unfold inS
  simp only [Array.getD_eq_getD_getElem?, Array.getElem?_replicate]
  split <;> rfl
 have e : foldS fr (inS (Array.replicate l.toArray.size false)) 0 its st.clr = st.clr := by
  have : ∀ (l' : List It) (m : Nat) (st : St), foldS fr (inS (Array.replicate l.toArray.size false)) m l' st = st := by
   intro l'
   induction l' with
   | nil => intro m st; rfl
   | cons u l' ih => intro m st; simp only [foldS]; rw [hnone]; exact ih _ _
  exact this _ _ _
 refine drawAnyA (l := its) (nx := st.nx) (st := st.clr) (fun i => by rw [← h1]; simp) (by simp [hlen]) (ConfA.of hc) h2 (fun G F a w s hfr S => ?_) _ _ G F a _ (by simp [hlen]) ?_ ?_ (fun j hj _ => s.fresh j hj) (fun i t _ h => by rw [hnone] at h; cases h) ?_
 ·refine ⟨G, F, _, ⟨⟨?_, fun k => ?_, s.size⟩, hfr, s.defers⟩, ?_, hq⟩
  ·rw [h3]; exact s.mem
  ·have := s.slots k
   rw [← h3] at this
   exact this
  ·rw [← h3] at S; exact S
 ·rw [e]
  exact ⟨hm', fun k => (s.clr.sim.slots k).step S' (fun _ _ => trivial), s.clr.sim.size, s.clr.defers⟩
 ·rw [e]; exact S.trans (S'.mono fun _ _ => trivial)
 ·refine Nat.le_trans List.countP_le_length (by simp [hlen])
theorem EvC.drwA {id : Nat} {l : List Oper} {its : List It} (hm : P.follows .mixedOrders = true) (ht : Tr P fr ro ds l.toArray st.nx l st.clr its st') (hc : confAllA its 0 its = true) (hq : Q .normal (st'.fin (st.nx + its.length))) : EvC P fr ro ds (.region id l.toArray true) st Q :=
 .clrQ (.drawA hm ht hc hq)
end
section
variable {P : Program} {fr : Fr} {ro : Option Nat} {ds : DS} {st st' : St} {Q Q' : Exit → St → Prop} {G G' : Nat → Option Value} {F F' : Nat → Nat → Prop} {a : Act} {w w' : World} {M M' : Mem}
 {ops : Array Oper} {l rest : List Oper} {o : Oper} {N id : Nat} {rd gs : List Nat}
end
theorem Imm.nil_zer {F : Nat → Nat → Prop} {w : World} {v : Value} {c : Cp} (h : Imm F w v (.sl true [] c)) : Imm F w v (.sl true [] .zer) := by
 cases h with
 | nil _ _ => exact .nil _ (.inr (.inl rfl))
def nilA (M : Mem) : AV → AV
 | .sl true [] _ => .sl true [] .zer
 | .tl j 0 true => match mlook M j with
   | some (.arr _ [] _) => .sl true [] .zer
   | _ => .tl j 0 true
 | v => v
def St.zerN (st : St) : St := ⟨st.vars, st.tmps, memMap (nilA st.mem) st.mem, st.nx⟩
attribute [go_sem] nilA St.zerN
section
variable {P : Program} {fr : Fr} {ro : Option Nat} {ds : DS} {st st' : St} {Q Q' : Exit → St → Prop} {G G' : Nat → Option Value} {F F' : Nat → Nat → Prop} {a : Act} {w w' : World} {M M' : Mem}
 {ops : Array Oper} {c : Code} {l rest : List Oper} {o : Oper} {N id : Nat} {rd gs : List Nat}
theorem nilA_rv {M : Mem} {nx : Nat} (hm : SimM P G F M nx w) {v : Value} {y : AV} (h : RV G F M w v y) : RV G F M w v (nilA M y) := by
 unfold nilA
 split
 ·exact .imm h.inv_sl.nil_zer
 ·rename_i j
  split
  ·rename_i esz fz ho
   obtain ⟨_, hh⟩ := h.inv_tl
   obtain ⟨hG, hb⟩ := (hh _ _ _ ho).2 rfl
   rcases (hm.obj j _ ho).2 with ⟨h0, base, h1, _⟩ | ⟨b, ko, c, cc, e, h1, _⟩
   ·rw [hG] at h1; cases h1
    cases base with
    | none => exact .imm (.nil _ (.inr (.inl rfl)))
    | some a => simp [isNilSlice] at hb
   ·rw [hG] at h1; cases h1
    simp [isNilSlice] at hb
  ·exact h
 ·exact h
theorem EvC.zerN (hc : EvC P fr ro ds c st.zerN Q) : EvC P fr ro ds c st Q :=
 EvC.conv (fun _ F _ _ s => let ⟨s', S'⟩ := s.memMap (f := nilA st.mem) fun _ _ h => nilA_rv s.sim.mem h; ⟨_, F, s', S'⟩) hc
theorem SimD.callT {f : FuncId} {cs : List AV} {callee : Operand} {args : Array Operand} {tys : Array TypeId} {xs : List AV} {esz : Nat} {es : List (List AV)} {K : Act → World → Prop} {Q1 : Exit → Act → World → Prop}
  (s : SimD P fr ds G F st N a w) (hN : id < N) (hid : G id = none) (hop : o.op = .call ⟨.value callee, args, tys⟩) (hd : dok fr o.dst = true) (hcal : od fr st true callee = .fn f cs)
  (hxs : callArgs fr st args ++ cs = xs) (hn : AV.norefs xs = true) (hc : PureNew P f xs esz es)
  (h : ∀ G' F' a' w', SimD P fr ds G' F' (run1 fr o.dst ⟨.tv id es.length 0 es.length .rest, some (id, .arr esz es false)⟩ st) N a' w' → Step All G F st.mem w G' F' (run1 fr o.dst ⟨.tv id es.length 0 es.length .rest, some (id, .arr esz es false)⟩ st).mem w' → (∀ j, j ≠ id → G j = none → G' j = none) → K a' w') : o.wpIn (fc ro) 0 P a w K Q1 := by
 refine ⟨fun _ _ => trivial, ?_⟩
 rw [Oper.semAt_eq _ _ _ (by rw [hop]; intro c h; cases h)]
 have hv := (s.eval callee).unopt
 have hv : RV G F st.mem w (a.eval callee) (.fn f cs) := by unfold od at hcal; rwa [hcal] at hv
 obtain ⟨vs, hev, hl, hcs⟩ := hv.inv_fn0 hc.1.1
 have hrun : (execOp a.eval o).run P w = .ok (.enter f ((args.toList.map a.eval ++ vs).toArray)) w := by
  obtain ⟨dst, op, ty, pos, after, guard⟩ := o
  simp only at hop
  subst hop
  simp only [execOp, resolve, hev, Deferred.ofValue, Sem.run_bind, Sem.run_pure, Result.andThen_ok, invoke]
  rw [hc.1.2]
  congr 2
  apply Array.ext'
  simp
 rw [hrun]
 have hi : Imms F w (args.toList.map a.eval ++ vs) xs := by
  subst hxs
  refine .of_rv (G := G) (M := st.mem) (by simp [callArgs, hl]) (fun i h1 h2 => ?_) hn
  by_cases hlt : i < args.toList.length
  ·rw [List.getElem_append_left (by simpa using hlt), List.getElem_append_left (by simpa [callArgs] using hlt)]
   simp only [callArgs, List.getElem_map]
   exact ((s.eval _).unopt).snap s.mem
  ·rw [List.getElem_append_right (by simpa using hlt), List.getElem_append_right (by simpa [callArgs] using hlt)]
   simp only [List.length_map, callArgs]
   exact hcs _ _ _
 refine ⟨fun h => by simp [fc, Fence.wide] at h, callsIn_fc ((hc.2 F w _ s.mem.fok hi).mono ?_)⟩
 rintro e w' ⟨b, ko, c, cc, el, F', rfl, q2, qb, q3, q4, q5, q6, q7, q8, g⟩
 obtain ⟨hm', S'⟩ := simM_grownNew (id := id) s.mem g hid hN (.slice (some ⟨b, ko, none⟩) es.length c) (.arr esz es false) (by simp [blkOf, q2]) qb fun S =>
  .inr ⟨b, ko, c, cc, el, upG_self _ _ _, q2, q3, q4, q5, q6, fun i j hi hj => by
   obtain ⟨v, k1, k2, k3⟩ := q7 i j hi hj
   exact ⟨v, k1, k2, .imm k3⟩, fun o hF => absurd hF (q8 o), fun hz => by cases hz⟩
 have hmid : mlook st.mem id = none := s.mem.noM hid
 obtain ⟨s1, S1⟩ := s.put (d := o.dst) (r := ⟨.tv id es.length 0 es.length .rest, some (id, .arr esz es false)⟩) (u := .slice (some ⟨b, ko, none⟩) es.length c) hm' (fun i => by
  simp only [Rc.mem]
  rw [mlook_mset, mlook_cons]) S' hd (.tv id es.length 0 es.length .rest _ (by rw [upG_self]; simp) fun esz' es' fz' ho => by
   rw [mlook_cons, if_pos rfl] at ho; cases ho
   exact ⟨Nat.le_refl _, fun _ => ⟨by omega, b, ko, c, upG_self _ _ _, .inl q2, c, by simp, q4, .inr (.inr ⟨rfl, by omega⟩)⟩⟩)
 exact h _ _ _ w' s1 S1 fun j hj hG => by rw [upG_other G _ hj]; exact hG
theorem OpIs.callT {f : FuncId} {cs : List AV} {callee : Operand} {args : Array Operand} {tys : Array TypeId} {xs : List AV} {esz : Nat} {es : List (List AV)} (hg : o.guard = none) (hop : o.op = .call ⟨.value callee, args, tys⟩) (hd : dok fr o.dst = true)
  (hcal : od fr st true callee = .fn f cs) (hxs : callArgs fr st args ++ cs = xs) (hn : AV.norefs xs = true) (hrd : rdOf fr st [] o = rd) (hc : PureNew P f xs esz es) : OpIs P fr ro ds ops id st ⟨o, ⟨.tv id es.length 0 es.length .rest, some (id, .arr esz es false)⟩, rd⟩ := by
 intro st' G F a w N K Q1 s hN hG hl h
 simp only [Region.wanted, hg, if_true]
 obtain ⟨e1, e2⟩ := callArgs_look (gs := []) (by rw [hrd]; exact hl) hop
 exact s.callT hN hG hop hd (by rw [e1]; exact hcal) (by rw [e2]; exact hxs) hn hc h
end
def St.mapE (f : AV → AV) (j k : Nat) (st : St) : Option St :=
 match mlook st.mem j with
 | some (.arr esz es false) => match es[k]? with
   | some c => some ⟨st.vars, st.tmps, mset st.mem j (.arr esz (es.set k (c.map f)) false), st.nx⟩
   | none => none
 | _ => none
attribute [go_sem] St.mapE
section
variable {P : Program} {fr : Fr} {ro : Option Nat} {ds : DS} {st st' : St} {Q Q' : Exit → St → Prop} {G G' : Nat → Option Value} {F F' : Nat → Nat → Prop} {a : Act} {w w' : World} {x y c : Code} {M : Mem}
theorem simM_mapE {nx j esz k : Nat} {es : List (List AV)} {c0 : List AV} {f : AV → AV} (hm : SimM P G F M nx w) (ho : mlook M j = some (.arr esz es false)) (hk : es[k]? = some c0) (hf : ∀ v y, RV G F M w v y → RV G F M w v (f y)) :
  SimM P G F (mset M j (.arr esz (es.set k (c0.map (f))) false)) nx w ∧ Step All G F M w G F (mset M j (.arr esz (es.set k (c0.map (f))) false)) w := by
 obtain ⟨es', hes⟩ : ∃ es', es' = es.set k (c0.map (f)) := ⟨_, rfl⟩
 rw [← hes]
 have hle : es'.length = es.length := by rw [hes, List.length_set]
 have hold := (hm.obj j _ ho).2
 have S : Step All G F M w G F (mset M j (.arr esz es' false)) w :=
  { kept := .refl
    size := Nat.le_refl _
    out := fun _ _ _ => rfl
    F1 := fun _ _ h => h
    F2 := fun _ _ _ => rfl
    F3 := fun b o h => .inl h
    own := fun b ⟨id, o, v, h3, h4, h5⟩ => by
     rw [mlook_mset] at h3
     by_cases hi : id = j
     ·subst hi; exact .inr ⟨id, _, v, ho, h4, h5⟩
     ·rw [if_neg hi] at h3; exact .inr ⟨id, o, v, h3, h4, h5⟩
    some' := fun _ _ h => h
    same := fun _ _ _ h _ => h
    keep := fun id o' _ hG h3 => by
     obtain ⟨v, hv⟩ := Option.ne_none_iff_exists'.1 hG
     rw [mlook_mset] at h3
     by_cases hi : id = j
     ·subst hi
      rw [if_pos rfl] at h3; cases h3
      exact ⟨_, v, v, ho, hv, hv, ⟨rfl, .inl ⟨hle, rfl⟩⟩⟩
     ·rw [if_neg hi] at h3
      exact ⟨o', v, v, h3, hv, hv, objKeep.refl v o'⟩ }
 have hinj : ∀ id id' v v' b, mlook (mset M j (.arr esz es' false)) id ≠ none → mlook (mset M j (.arr esz es' false)) id' ≠ none → G id = some v → G id' = some v' → blkOf v = some b → blkOf v' = some b → id = id' := by
  intro id id' v v' b h1 h2
  refine hm.inj id id' v v' b ?_ ?_
  ·rw [mlook_mset] at h1; by_cases hi : id = j
   ·subst hi; rw [ho]; simp
   ·rwa [if_neg hi] at h1
  ·rw [mlook_mset] at h2; by_cases hi : id' = j
   ·subst hi; rw [ho]; simp
   ·rwa [if_neg hi] at h2
 refine ⟨simM_gen hm S (fun id o' h => ?_) hinj hm.inF, S⟩
 rw [mlook_mset] at h
 by_cases hi : id = j
 ·subst hi; rw [if_pos rfl] at h; cases h
  refine ⟨(hm.obj id _ ho).1, .inl ?_⟩
  have hkl : k < es.length := (List.getElem?_eq_some_iff.1 hk).1
  have hke : es[k] = c0 := by rw [List.getElem?_eq_getElem hkl] at hk; exact Option.some.inj hk
  rcases hold with ⟨h0, _⟩ | ⟨b, ko, c, cc, e, h1, h2, h3, h4, h5, h6, h7, h8, h9⟩
  ·rw [h0] at hkl; exact absurd hkl (Nat.not_lt_zero _)
  ·refine .inr ⟨b, ko, c, cc, e, by rw [hle]; exact h1, h2, h3, by rw [hle]; exact h4, h5, fun i hi' => ?_, fun i l hi' hl' => ?_, fun o h => absurd (h8 o h).1 (by simp), fun h => (by cases h)⟩
   ·have hi2 : i < es.length := by rw [← hle]; exact hi'
    simp only [hes, List.getElem_set]
    split
    ·rename_i e1; subst e1; rw [List.length_map, ← hke]; exact h6 _ hi2
    ·exact h6 _ hi2
   ·have hi2 : i < es.length := by rw [← hle]; exact hi'
    by_cases e1 : k = i
    ·subst e1
     have e2 : es'[k] = es[k].map (f) := by simp [hes, hke]
     have hl2 : l < es[k].length := by rw [e2, List.length_map] at hl'; exact hl'
     obtain ⟨v, k1, k2, k3⟩ := h7 k l hi2 hl2
     refine ⟨v, k1, k2, ?_⟩
     have e3 : es'[k][l] = f es[k][l] := by simp [e2]
     rw [e3]
     exact (hf _ _ k3).step S fun _ _ => trivial
    ·have e2 : es'[i] = es[i] := by simp [hes, e1]
     have hl2 : l < es[i].length := by rw [e2] at hl'; exact hl'
     obtain ⟨v, k1, k2, k3⟩ := h7 i l hi2 hl2
     have e3 : es'[i][l] = es[i][l] := by simp [e2]
     exact ⟨v, k1, k2, by rw [e3]; exact k3.step S fun _ _ => trivial⟩
 ·rw [if_neg hi] at h
  exact ⟨(hm.obj id _ h).1, .inr ⟨h, rfl, fun b v hG hb => ⟨rfl, fun _ h => h⟩⟩⟩
theorem SimA.mapE {j k : Nat} {f : AV → AV} (s : SimA P fr ds G F st a w) (h : st.mapE f j k = some st') (hf : ∀ v y, RV G F st.mem w v y → RV G F st.mem w v (f y)) : SimA P fr ds G F st' a w ∧ Step (· < fr.base) G F st.mem w G F st'.mem w := by
 unfold St.mapE at h
 split at h
 ·rename_i esz es ho
  split at h
  ·rename_i c0 hk
   cases h
   obtain ⟨hm', S'⟩ := simM_mapE s.sim.mem ho hk hf
   exact ⟨⟨⟨hm', fun k => (s.sim.slots k).step S' (fun _ _ => trivial), s.sim.size⟩, s.fresh, s.defers⟩, S'.mono fun _ _ => trivial⟩
  ·cases h
 ·cases h
end
section
variable {P : Program} {fr : Fr} {ro : Option Nat} {ds : DS} {st st' : St} {G G' : Nat → Option Value} {F F' : Nat → Nat → Prop} {a : Act} {w w' : World} {M M' : Mem}
 {ops : Array Oper} {o : Oper} {N id : Nat} {rd gs : List Nat}
end
section
variable {P : Program}
end
section
variable {P : Program} {fr : Fr} {ro : Option Nat} {ds : DS} {st st1 : St} {Q : Exit → St → Prop} {G : Nat → Option Value} {F : Nat → Nat → Prop} {a : Act} {w w' : World}
theorem SimA.putJ {d : Nat} (s : SimA P fr ds G F st a w) (hj : st.get fr d = .junk) (u : Value) : SimA P fr ds G F st (a.put (some d) u) w :=
 ⟨⟨s.sim.mem, fun k => by
   rw [getD_put]
   split
   ·rename_i h; rw [h.1, hj]; exact .imm (.junk _)
   ·exact s.sim.slots k, by simp only [Act.put, Array.size_setIfInBounds]; exact s.sim.size⟩, s.fresh, s.defers⟩
theorem Marks.drew {l : List Deferred} (h : Marks ds l w) : Marks ds l (drew1 w) := h
theorem Step.drew {B : Nat → Prop} {G0 : Nat → Option Value} {F0 : Nat → Nat → Prop} {M0 M : Mem} {w0 : World} (S : Step B G0 F0 M0 w0 G F M w) (hF : ∀ b o, F b o → b < w.heap.size) : Step B G0 F0 M0 w0 G F M (drew1 w) :=
 S.allocs (Nat.le_refl _) (fun _ _ => rfl) hF ⟨rfl, rfl, rfl, .refl⟩
end
def St.unkV (fr : Fr) (k : Nat) (st : St) : Option St :=
 match (st.get fr k).noref with
 | true => some (st.put fr (some k) (st.get fr k).unk)
 | false => none
attribute [go_sem] St.unkV
section
variable {P : Program} {fr : Fr} {ro : Option Nat} {ds : DS} {st st' : St} {Q : Exit → St → Prop} {G : Nat → Option Value} {F : Nat → Nat → Prop} {a : Act} {w : World} {c : Code}
theorem SimA.unkV {k : Nat} (s : SimA P fr ds G F st a w) (h : st.unkV fr k = some st') : SimA P fr ds G F st' a w ∧ st'.mem = st.mem := by
 unfold St.unkV at h
 split at h
 ·rename_i hn
  cases h
  refine ⟨⟨⟨by rw [St.put_mem, St.put_nx]; exact s.sim.mem, fun j => ?_, s.sim.size⟩, fun j hj => s.fresh j (by rw [St.put_nx] at hj; exact hj), s.defers⟩, St.put_mem ..⟩
  rw [St.put_mem, St.get_put]
  split
  ·rename_i hj; subst hj
   exact .imm ((s.sim.slots j).imm_of hn).unk
  ·exact s.sim.slots j
 ·cases h
theorem EvC.unkV (k : Nat) (h : st.unkV fr k = some st') (hc : EvC P fr ro ds c st' Q) : EvC P fr ro ds c st Q :=
 EvC.conv (fun G F _ _ s => ⟨G, F, (s.unkV h).1, by rw [(s.unkV h).2]; exact .refl⟩) hc
end
section
variable {P : Program} {fr : Fr} {ro : Option Nat} {ds : DS} {st st' : St} {Q Q' : Exit → St → Prop} {G G' : Nat → Option Value} {F F' : Nat → Nat → Prop} {a : Act} {w w' : World} {c : Code}
 {M : Mem} {ops : Array Oper} {l rest : List Oper} {o : Oper} {id N : Nat} {rd : List Nat}
theorem BodyIs.calls {f : FuncId} {xs : List AV} {nx : Nat} {R : AV → Mem → Nat → Prop} (hb : BodyIs P f xs M nx R) (hlt : f < 1000000 := by first | assumption | decide) :
  callable P f ∧ ∀ G F w (vals : List Value), SimM P G F M nx w → (∀ j, nx ≤ j → G j = none) → (vals.length = xs.length ∧ ∀ i (h1 : i < vals.length) (h2 : i < xs.length), RV G F M w vals[i] xs[i]) →
   CallsIn Fence.wide 0 P f vals.toArray w fun e w2 => ∃ u G' F' r M' nx', e = .returned u ∧ R r M' nx' ∧ RV G' F' M' w2 u r ∧ SimM P G' F' M' nx' w2 ∧ (∀ j, nx' ≤ j → G' j = none) ∧ Step All G F M w G' F' M' w2 := by
 obtain ⟨fn, c, nv, hid, hf, hb, hnm, hsz, hbody⟩ := hb
 refine ⟨callable_of hf hnm (by rw [hb]; rfl), fun G F w vals hm hfr hi => ?_⟩
 have s0 : SimA P ⟨nx, nv, hid, fn.ntmps⟩ ⟨w.heap.size, none, false⟩ G F ⟨vars0 0 xs, [], M, nx⟩ { tmps := vals.toArray ++ Array.replicate (fn.ntmps - vals.toArray.size) undef, defers := [] } w := by
  refine ⟨⟨hm, fun k => ?_, by simp; omega⟩, hfr, Marks.none _ _ _ (Nat.le_refl _)⟩
  have key : ∀ x, (x = .junk ∨ ∃ h : k < xs.length, x = xs[k]) → RV G F M w ((vals.toArray ++ Array.replicate (fn.ntmps - vals.toArray.size) undef).getD k undef) x := by
   rintro x (rfl | ⟨hk, rfl⟩)
   ·exact .imm (.junk _)
   ·have : (vals.toArray ++ Array.replicate (fn.ntmps - vals.toArray.size) undef).getD k undef = vals[k]'(by omega) := by
      rw [Array.getD_eq_getD_getElem?, Array.getElem?_append_left (by simp; omega)]
      simp [List.getElem?_eq_getElem (show k < vals.length by omega)]
    rw [this]
    exact hi.2 k (by omega) hk
  refine key _ ?_
  unfold St.get
  split
  ·rcases alook_vars0 xs 0 k with h | ⟨h1, h2, h3⟩
   ·exact .inl h
   ·exact .inr ⟨by simpa using h1, by simpa using h3⟩
  ·exact .inl rfl
 refine callsIn_of_wp_marks (F := Fence.wide) hf hb trivial (wpIn_mono (hbody _ _ _ _ _ _ _ _ _ .refl s0) ?_)
 rintro e a' w' ⟨G', F', st', s', S', he, rs, hrs, hR⟩
 have SA := S'.all hfr
 have hfin : ∀ (Ds : List Nat) (w2 : World), Ds.Nodup → (∀ D ∈ Ds, w.heap.size ≤ D ∧ w2.heap[D]? = some (.deferred (some []))) → SimA P ⟨nx, nv, hid, fn.ntmps⟩ ⟨w.heap.size, none, false⟩ G' F' st' { a' with defers := [] } w2 → Step All G F M w G' F' st'.mem w2 →
   LeavesInM Fence.wide 0 P fn a'.tmps (fun e w2 => ∃ u G' F' r M' nx', e = .returned u ∧ R r M' nx' ∧ RV G' F' M' w2 u r ∧ SimM P G' F' M' nx' w2 ∧ (∀ j, nx' ≤ j → G' j = none) ∧ Step All G F M w G' F' M' w2) (Ds.map dmark) .returning w2 := by
  intro Ds
  induction Ds with
  | nil =>
    intro w2 _ _ s2 S2
    obtain ⟨u, hu, hru⟩ := resultsR_ok s2 hrs
    exact ⟨u, hu, u, G', F', mkRes rs, st'.mem, st'.nx, rfl, hR, hru, s2.sim.mem, s'.fresh, S2⟩
  | cons D Ds ih =>
    intro w2 hnd hD s2 S2
    obtain ⟨h1, h2⟩ := hD D List.mem_cons_self
    have hnd := List.nodup_cons.1 hnd
    have hk : ∀ (b : Nat) (o : Obj), w2.heap[b]? = some o → isData o = true → (w2.putObj D (.deferred none)).heap[b]? = some o := fun b o hb ho => by
     rw [World.putObj_heap_other (by rintro rfl; rw [h2] at hb; cases hb; cases ho)]; exact hb
    refine ⟨(by intro h; cases h), .inl ⟨D, _, rfl, run_takeDeferred h2, ih _ hnd.2 (fun D' hD' => ?_) ⟨⟨s2.sim.mem.keepData hk (by rw [World.putObj_size]; exact Nat.le_refl _), fun k => (s2.sim.slots k).keepData hk, s2.sim.size⟩, s2.fresh, Marks.none _ _ _ (by rw [World.putObj_size]; exact S2.size)⟩ ?_⟩⟩
    ·refine ⟨(hD D' (List.mem_cons_of_mem _ hD')).1, ?_⟩
     rw [World.putObj_heap_other (by rintro rfl; exact hnd.1 hD')]; exact (hD D' (List.mem_cons_of_mem _ hD')).2
    ·exact S2.putAbove h1 h2 rfl rfl
 obtain ⟨⟨Ds, hDs, hnd, hD⟩, _⟩ := s'.defers
 have hDs : a'.defers = Ds.map dmark := hDs
 have := hfin Ds w' hnd hD ⟨⟨s'.sim.mem, s'.sim.slots, s'.sim.size⟩, s'.fresh, Marks.none _ _ _ SA.size⟩ SA
 rw [← hDs] at this
 rcases he with rfl | rfl
 ·exact this
 ·exact this
end
theorem mlook_append : ∀ (A B : Mem) (i : Nat), mlook (A ++ B) i = match mlook A i with
  | some o => some o
  | none => mlook B i
 | [], B, i => rfl
 | (k, o) :: A, B, i => by
   simp only [List.cons_append, mlook]
   split
   ·rfl
   ·exact mlook_append A B i
def Framed (X : Mem) (r : AV) (M : Mem) (nx : Nat) : Prop :=
 ∃ K : List (Nat × Nat), gcOk 0 nx K = true ∧ renMem M K K = M ∧ r.ren K = r ∧ (K.all fun p => decide (p.1 = p.2) && (mlook X p.1).isNone) = true
section
variable {P : Program} {fr : Fr} {ro : Option Nat} {ds : DS} {st st' : St} {Q Q' : Exit → St → Prop} {G G' Gs : Nat → Option Value} {F F' : Nat → Nat → Prop} {a : Act} {w w' : World} {c : Code}
 {M M0 Ms X : Mem} {ops : Array Oper} {l rest : List Oper} {o : Oper} {id N nx : Nat} {rd : List Nat} {v : Value} {y : AV}
theorem RV.sub (h : RV G F M w v y) (hs : ∀ id o, mlook M0 id = some o → mlook M id = some o) : RV G F M0 w v y := by
 induction h with
 | imm h => exact .imm h
 | ag vs cs hl _ ih => exact .ag vs cs hl ih
 | tu vs cs hl _ ih => exact .tu vs cs hl ih
 | ifc t v x _ ih => exact .ifc t v x ih
 | fn f vs cs hl _ ih => exact .fn f vs cs hl ih
 | opt b v x _ h' ih => exact .opt b v x ih h'
 | rf id off b h => exact .rf id off b h
 | mp id b h => exact .mp id b h
 | tl id len nl v hG h => exact .tl id len nl v hG fun esz es fz hm => h esz es fz (hs _ _ hm)
 | tv id n off len cap v hG h => exact .tv id n off len cap v hG fun esz es fz hm => h esz es fz (hs _ _ hm)
 | ea id n i off v hG h => exact .ea id n i off v hG fun esz es fz hm => h esz es fz (hs _ _ hm)
theorem ObjOk.map_rv {id : Nat} {o : RObj} (h : ObjOk P G F M w id o) (hG : G' id = G id) (hr : ∀ v y, RV G F M w v y → RV G' F M0 w v y) : ObjOk P G' F M0 w id o := by
 cases o with
 | cells cs =>
   obtain ⟨b, c, e, h1, h2, h3, h4, h5⟩ := h
   exact ⟨b, c, e, hG.trans h1, h2, h3, fun i a b => hr _ _ (h4 i a b), h5⟩
 | arr esz es fz =>
   rcases h with ⟨h0, base, h1, hsp⟩ | ⟨b, ko, c, cc, e, h1, h2, h3, h4, h5, h6, h7, h8, h9⟩
   ·exact .inl ⟨h0, base, hG.trans h1, hsp⟩
   ·exact .inr ⟨b, ko, c, cc, e, hG.trans h1, h2, h3, h4, h5, h6, fun i j a b => by
     obtain ⟨v, hv, h1, hr'⟩ := h7 i j a b
     exact ⟨v, hv, h1, hr _ _ hr'⟩, h8, h9⟩
 | map kt es =>
   obtain ⟨b, ents, clock, h1, h2, h3, h4, h5⟩ := h
   exact ⟨b, ents, clock, hG.trans h1, h2, h3, fun i a b => ⟨(h4 i a b).1, hr _ _ (h4 i a b).2.1, (h4 i a b).2.2⟩, h5⟩
theorem SimM.sub (h : SimM P G F M N w) (hs : ∀ id o, mlook M0 id = some o → mlook M id = some o) : SimM P G F M0 N w where
 obj := fun id o ho => ⟨(h.obj id o (hs _ _ ho)).1, (h.obj id o (hs _ _ ho)).2.map_rv rfl fun _ _ hr => hr.sub hs⟩
 inj := fun id id' v v' b h1 h2 => by
  obtain ⟨o, h1⟩ := Option.ne_none_iff_exists'.1 h1
  obtain ⟨o', h2⟩ := Option.ne_none_iff_exists'.1 h2
  exact h.inj id id' v v' b (by rw [hs _ _ h1]; simp) (by rw [hs _ _ h2]; simp)
 inF := h.inF
 gl := h.gl
theorem RV.up (h : RV Gs F Ms w v y) (hs : ∀ j u, Gs j = some u → G j = some u ∧ ∀ o, mlook M j = some o → mlook Ms j = some o) : RV G F M w v y := by
 have hne : ∀ j, Gs j ≠ none → G j ≠ none := fun j hj => by
  obtain ⟨u, hu⟩ := Option.ne_none_iff_exists'.1 hj
  rw [(hs j u hu).1]; simp
 have hl : ∀ j o, Gs j ≠ none → mlook M j = some o → mlook Ms j = some o := fun j o hj ho => by
  obtain ⟨u, hu⟩ := Option.ne_none_iff_exists'.1 hj
  exact (hs j u hu).2 o ho
 induction h with
 | imm h => exact .imm h
 | ag vs cs hl _ ih => exact .ag vs cs hl ih
 | tu vs cs hl _ ih => exact .tu vs cs hl ih
 | ifc t v x _ ih => exact .ifc t v x ih
 | fn f vs cs hl _ ih => exact .fn f vs cs hl ih
 | opt b v x _ h' ih => exact .opt b v x ih h'
 | rf id off b h => exact .rf id off b (hs _ _ h).1
 | mp id b h => exact .mp id b (hs _ _ h).1
 | tl id len nl v hG h =>
   refine .tl id len nl v (hne _ hG) fun esz es fz hm => ?_
   obtain ⟨h1, h2⟩ := h esz es fz (hl _ _ hG hm)
   exact ⟨h1, fun e => ⟨(hs _ _ (h2 e).1).1, (h2 e).2⟩⟩
 | tv id n off len cap v hG h =>
   refine .tv id n off len cap v (hne _ hG) fun esz es fz hm => ?_
   obtain ⟨h1, h2⟩ := h esz es fz (hl _ _ hG hm)
   refine ⟨h1, fun e => ?_⟩
   obtain ⟨h3, b, ko, c, h4, h5⟩ := h2 e
   exact ⟨h3, b, ko, c, (hs _ _ h4).1, h5⟩
 | ea id n i off v hG h =>
   refine .ea id n i off v (hne _ hG) fun esz es fz hm => ?_
   obtain ⟨h1, h2⟩ := h esz es fz (hl _ _ hG hm)
   refine ⟨h1, fun e => ?_⟩
   obtain ⟨h3, b, ko, c, h4, h5⟩ := h2 e
   exact ⟨h3, b, ko, c, (hs _ _ h4).1, h5⟩
theorem simM_frame {M' : Mem} {nx' : Nat} {r : AV} {u : Value} (hm : SimM P G F (M ++ X) nx w) (hX : ∀ p ∈ X, mlook M p.1 = none) (hfr : ∀ j, nx ≤ j → G j = none) (hn : nx ≤ nx')
  (S1 : Step All G F M w G' F' M' w') (hm' : SimM P G' F' M' nx' w') (hfr' : ∀ j, nx' ≤ j → G' j = none) (hr : RV G' F' M' w' u r) (hF : Framed X r M' nx') :
  ∃ G2, SimM P G2 F' (M' ++ X) nx' w' ∧ (∀ j, nx' ≤ j → G2 j = none) ∧ Step All G F (M ++ X) w G2 F' (M' ++ X) w' ∧ RV G2 F' (M' ++ X) w' u r := by
 obtain ⟨K, hk, hMK, hrK, hKX⟩ := hF
 rw [List.all_eq_true] at hKX
 have hX' : ∀ i o, mlook X i = some o → mlook M i = none := fun i o hi => by
  have : ∀ (Y : Mem), mlook Y i = some o → ∃ p ∈ Y, p.1 = i := fun Y => by
   induction Y with
   | nil => intro h; cases h
   | cons p Y ih =>
     intro h
     obtain ⟨k, o'⟩ := p
     simp only [mlook] at h
     split at h
     ·rename_i hik; exact ⟨_, List.mem_cons_self, hik.symm⟩
     ·obtain ⟨p, h1, h2⟩ := ih h
      exact ⟨p, List.mem_cons_of_mem _ h1, h2⟩
  obtain ⟨p, h1, h2⟩ := this X hi
  rw [← h2]; exact hX p h1
 have hsub : ∀ id o, mlook M id = some o → mlook (M ++ X) id = some o := fun id o h => by rw [mlook_append, h]
 have hsubX : ∀ id o, mlook X id = some o → mlook (M ++ X) id = some o := fun id o h => by rw [mlook_append, hX' id o h]; exact h
 have gk : ∀ j u, gcG 0 K G' j = some u → G' j = some u ∧ mlook X j = none ∧ (j, j) ∈ K := fun j u h => by
  unfold gcG at h
  rw [if_neg (by omega)] at h
  cases hb : blook K j with
  | none => rw [hb] at h; cases h
  | some i =>
    rw [hb] at h
    have hmem := blook_mem' hb
    have h1 := hKX _ hmem
    simp only [Bool.and_eq_true, decide_eq_true_eq, Option.isNone_iff_eq_none] at h1
    obtain ⟨rfl, h2⟩ := h1
    exact ⟨h, h2, hmem⟩
 obtain ⟨G2, hG2⟩ : ∃ G2 : Nat → Option Value, G2 = fun j => match mlook X j with
  | some _ => G j
  | none => G' j := ⟨_, rfl⟩
 have g2X : ∀ j o, mlook X j = some o → G2 j = G j := fun j o h => by rw [hG2]; simp only [h]
 have g2N : ∀ j, mlook X j = none → G2 j = G' j := fun j h => by rw [hG2]; simp only [h]
 have M'X : ∀ j o, mlook M' j = some o → mlook X j = none ∧ (j, j) ∈ K := fun j o h => by
  rw [← hMK] at h
  obtain ⟨i, o', h1, h2, h3⟩ := renMem_look hk (fun _ h => h) h
  have h4 := hKX _ h1
  simp only [Bool.and_eq_true, decide_eq_true_eq, Option.isNone_iff_eq_none] at h4
  obtain ⟨rfl, h4⟩ := h4
  exact ⟨h4, h1⟩
 have up : ∀ v y, RV G' F' M' w' v y → y.ren K = y → RV G2 F' (M' ++ X) w' v y := fun v y h hy => by
  have h1 := h.ren hk
  rw [hMK, hy] at h1
  refine h1.up fun j u hj => ?_
  obtain ⟨h2, h3, h4⟩ := gk j u hj
  exact ⟨by rw [g2N j h3]; exact h2, fun o ho => by
   rw [mlook_append] at ho
   cases hM : mlook M' j with
   | some o1 => rw [hM] at ho; exact ho
   | none => rw [hM] at ho; simp only at ho; rw [h3] at ho; cases ho⟩
 have lt : ∀ id, G id ≠ none → id < nx := fun id h => Nat.lt_of_not_le fun hle => h (hfr id hle)
 have ownM : ∀ b, Owned G M b → Owned G (M ++ X) b := fun b ⟨i, o, v, h1, h2, h3⟩ => ⟨i, o, v, hsub i o h1, h2, h3⟩
 have S : Step All G F (M ++ X) w G2 F' (M' ++ X) w' :=
  { kept := S1.kept
    size := S1.size
    out := fun b hb ho => S1.out b hb fun h => ho (ownM b h)
    F1 := S1.F1
    F2 := S1.F2
    F3 := fun b o h => by
     rcases S1.F3 b o h with h | h | h
     ·exact .inl h
     ·exact .inr (.inl h)
     ·exact .inr (.inr (ownM b h))
    own := fun b ⟨j, o, v, h1, h2, h3⟩ => by
     rw [mlook_append] at h1
     cases hM : mlook M' j with
     | some o1 =>
       obtain ⟨k1, k2⟩ := M'X j o1 hM
       rw [g2N j k1] at h2
       rcases S1.own b ⟨j, o1, v, hM, h2, h3⟩ with h | h
       ·exact .inl h
       ·exact .inr (ownM b h)
     | none =>
       rw [hM] at h1
       rw [g2X j o h1] at h2
       exact .inr ⟨j, o, v, hsubX j o h1, h2, h3⟩
    some' := fun id _ h => by
     cases hx : mlook X id with
     | some o => rw [g2X id o hx]; exact h
     | none => rw [g2N id hx]; exact S1.some' id trivial h
    same := fun id v _ h hns => by
     cases hx : mlook X id with
     | some o => rw [g2X id o hx]; exact h
     | none => rw [g2N id hx]; exact S1.same id v trivial h hns
    keep := fun id o' _ hg ho => by
     rw [mlook_append] at ho
     cases hM : mlook M' id with
     | some o1 =>
       rw [hM] at ho; cases ho
       obtain ⟨k1, k2⟩ := M'X id o' hM
       obtain ⟨o, v, v', h1, h2, h3, h4⟩ := S1.keep id o' trivial hg hM
       exact ⟨o, v, v', hsub id o h1, h2, by rw [g2N id k1]; exact h3, h4⟩
     | none =>
       rw [hM] at ho
       obtain ⟨v, hv⟩ := Option.ne_none_iff_exists'.1 hg
       exact ⟨o', v, v, hsubX id o' ho, hv, by rw [g2X id o' ho]; exact hv, objKeep.refl v o'⟩ }
 refine ⟨G2, simM_gen (hm.more hn) S (fun j o' ho => ?_) (fun j j' z z' b h1 h2 h3 h4 h5 h6 => ?_) hm'.inF, fun j hj => ?_, S, up _ _ hr hrK⟩
 ·rw [mlook_append] at ho
  cases hM : mlook M' j with
  | some o1 =>
    rw [hM] at ho; cases ho
    obtain ⟨k1, k2⟩ := M'X j o' hM
    obtain ⟨h1, h2⟩ := hm'.obj j o' hM
    refine ⟨h1, .inl ?_⟩
    have h3 : ObjOk P (gcG 0 K G') F' (renMem M' K K) w' j (o'.ren K) := h2.ren hk k2
    have e : o'.ren K = o' := by
     have h4 : mlook (renMem M' K K) j = some o' := by rw [hMK]; exact hM
     obtain ⟨i, o2, h5, h6, h7⟩ := renMem_look hk (fun _ h => h) h4
     have h8 := hKX _ h5
     simp only [Bool.and_eq_true, decide_eq_true_eq] at h8
     obtain ⟨rfl, _⟩ := h8
     rw [hM] at h6; cases h6
     exact h7.symm
    rw [e, hMK] at h3
    refine h3.map_rv ?_ fun v y h => h.up fun i u hi => ?_
    ·rw [g2N j k1, gcG_ren hk k2]
    ·obtain ⟨q1, q2, q3⟩ := gk i u hi
     exact ⟨by rw [g2N i q2]; exact q1, fun o ho => by
      rw [mlook_append] at ho
      cases hM2 : mlook M' i with
      | some o1 => rw [hM2] at ho; exact ho
      | none => rw [hM2] at ho; simp only at ho; rw [q2] at ho; cases ho⟩
  | none =>
    rw [hM] at ho
    have hb := hsubX j o' ho
    have hj := lt j (hm.hasG hb)
    refine ⟨by omega, .inr ⟨hb, g2X j o' ho, fun b v hv hbv => ?_⟩⟩
    have hlt := hm.lt ⟨j, o', v, hb, hv, hbv⟩
    have hno : ¬ Owned G M b := fun ⟨i, o, v', h1, h2, h3⟩ => by
     have := hm.inj j i v v' b (by rw [hb]; simp) (by rw [hsub i o h1]; simp) hv h2 hbv h3
     subst this
     rw [hX' j o' ho] at h1; cases h1
    refine ⟨S1.out b hlt hno, fun o hF => ?_⟩
    rcases S1.F3 b o hF with h | h | h
    ·exact h
    ·omega
    ·exact absurd h hno
 ·have key : ∀ j z b, mlook (M' ++ X) j ≠ none → G2 j = some z → blkOf z = some b → (mlook X j = none ∧ mlook M' j ≠ none ∧ G' j = some z ∧ (w.heap.size ≤ b ∨ Owned G M b)) ∨ (mlook X j ≠ none ∧ G j = some z ∧ b < w.heap.size ∧ ¬ Owned G M b) := fun j z b h1 h2 h3 => by
    rw [mlook_append] at h1
    cases hM : mlook M' j with
    | some o1 =>
      obtain ⟨k1, k2⟩ := M'X j o1 hM
      rw [g2N j k1] at h2
      exact .inl ⟨k1, by simp, h2, S1.own b ⟨j, o1, z, hM, h2, h3⟩⟩
    | none =>
      rw [hM] at h1
      obtain ⟨o, ho⟩ := Option.ne_none_iff_exists'.1 h1
      rw [g2X j o ho] at h2
      have hb := hsubX j o ho
      refine .inr ⟨by simpa using h1, h2, hm.lt ⟨j, o, z, hb, h2, h3⟩, fun ⟨i, o1, v', q1, q2, q3⟩ => ?_⟩
      have := hm.inj j i z v' b (by rw [hb]; simp) (by rw [hsub i o1 q1]; simp) h2 q2 h3 q3
      subst this
      rw [hX' j o ho] at q1; cases q1
  rcases key j z b h1 h3 h5 with ⟨a1, a2, a3, a4⟩ | ⟨a1, a2, a3, a4⟩ <;> rcases key j' z' b h2 h4 h6 with ⟨b1, b2, b3, b4⟩ | ⟨b1, b2, b3, b4⟩
  ·exact hm'.inj j j' z z' b a2 b2 a3 b3 h5 h6
  ·rcases a4 with a4 | a4
   ·omega
   ·exact absurd a4 b4
  ·rcases b4 with b4 | b4
   ·omega
   ·exact absurd b4 a4
  ·obtain ⟨o, ho⟩ := Option.ne_none_iff_exists'.1 a1
   obtain ⟨o', ho'⟩ := Option.ne_none_iff_exists'.1 b1
   exact hm.inj j j' z z' b (by rw [hsubX j o ho]; simp) (by rw [hsubX j' o' ho']; simp) a2 b2 h5 h6
 ·cases hx : mlook X j with
  | some o => rw [g2X j o hx]; exact hfr j (by omega)
  | none => rw [g2N j hx]; exact hfr' j hj
def bodyArgsS (fr : Fr) (st : St) (args : Array Operand) : List AV := args.toList.map fun x => snap st.mem (od fr st true x)
theorem XR.callF {f : FuncId} {cs : List AV} {callee : Operand} {args : Array Operand} {tys : Array TypeId} {xs : List AV} (M X : Mem) (hg : o.guard = none) (hop : o.op = .call ⟨.value callee, args, tys⟩) (hd : dok fr o.dst = true)
  (hcal : od fr st true callee = .fn f cs) (hxs : bodyArgsS fr st args ++ cs = xs) (hM : st.mem = M ++ X) (hX : (X.all fun p => (mlook M p.1).isNone) = true)
  (hb : BodyIs P f xs M st.nx fun r M' nx' => st.nx ≤ nx' ∧ Framed X r M' nx' ∧ XR P fr ro ds ops rest ((⟨st.vars, st.tmps, M' ++ X, nx'⟩ : St).put fr o.dst r) Q) (hlt : f < 1000000 := by first | assumption | decide) : XR P fr ro ds ops (o :: rest) st Q :=
 fun _ _ _ _ G F a w S s => wpListIn_plain hg fun K hK => by
  have hX' : ∀ p ∈ X, mlook M p.1 = none := fun p hp => by
   rw [List.all_eq_true] at hX
   exact Option.isNone_iff_eq_none.1 (hX p hp)
  have hsub : ∀ id o, mlook M id = some o → mlook st.mem id = some o := fun id o h => by rw [hM, mlook_append, h]
  refine ⟨fun _ _ => trivial, ?_⟩
  rw [Oper.semAt_eq _ _ _ (by rw [hop]; intro c h; cases h)]
  have hv := (s.eval callee).unopt
  have hv : RV G F st.mem w (a.eval callee) (.fn f cs) := by unfold od at hcal; rwa [hcal] at hv
  obtain ⟨vs, hev, hl, hcs⟩ := hv.inv_fn0 hlt
  obtain ⟨hca, hcalls⟩ := hb.calls
  have hrun : (execOp a.eval o).run P w = .ok (.enter f ((args.toList.map a.eval ++ vs).toArray)) w := by
   obtain ⟨dst, op, ty, pos, after, guard⟩ := o
   simp only at hop
   subst hop
   simp only [execOp, resolve, hev, Deferred.ofValue, Sem.run_bind, Sem.run_pure, Result.andThen_ok, invoke]
   rw [hca.2]
   congr 2
   apply Array.ext'
   simp
  rw [hrun]
  have hi : (args.toList.map a.eval ++ vs).length = xs.length ∧ ∀ i (h1 : i < (args.toList.map a.eval ++ vs).length) (h2 : i < xs.length), RV G F M w (args.toList.map a.eval ++ vs)[i] xs[i] := by
   subst hxs
   refine ⟨by simp [bodyArgsS, hl], fun i h1 h2 => RV.sub ?_ hsub⟩
   by_cases hlt : i < args.toList.length
   ·rw [List.getElem_append_left (by simpa using hlt), List.getElem_append_left (by simpa [bodyArgsS] using hlt)]
    simp only [bodyArgsS, List.getElem_map]
    exact ((s.eval _).unopt).snap s.sim.mem
   ·rw [List.getElem_append_right (by simpa using hlt), List.getElem_append_right (by simpa [bodyArgsS] using hlt)]
    simp only [List.length_map, bodyArgsS]
    exact hcs _ _ _
  refine ⟨fun h => by simp [fc, Fence.wide] at h, callsIn_fc ((hcalls G F w _ (s.sim.mem.sub hsub) s.fresh hi).mono ?_)⟩
  rintro e w2 ⟨u, G', F', r, M', nx', rfl, ⟨hn, hF, hR⟩, hru, hm', hfr', S1⟩
  have hm0 : SimM P G F (M ++ X) st.nx w := by rw [← hM]; exact s.sim.mem
  obtain ⟨G2, hm2, hf2, S2, hr2⟩ := simM_frame hm0 hX' s.fresh hn S1 hm' hfr' hru hF
  have S2' : Step All G F st.mem w G2 F' (M' ++ X) w2 := by rw [hM]; exact S2
  exact hK _ _ (hR _ _ _ _ _ _ _ _ (S.trans (by rw [St.put_mem]; exact S2'.mono fun _ _ => trivial)) (s.step_put (st1 := ⟨st.vars, st.tmps, M' ++ X, nx'⟩) S2' hm2 rfl rfl hf2 (dok_spec hd) hr2))
end
attribute [go_sem] bodyArgsS
def unkOf (M : Mem) : AV → AV
 | .tv i n off len c => if n ≠ 0 then .tv i n off len .unk else .tv i n off len c
 | .tl j n b => if n ≠ 0 then match mlook M j with
   | some (.arr _ es _) => if n = es.length then .tv j n 0 n .unk else .tl j n b
   | _ => .tl j n b else .tl j n b
 | v => v
def St.unkC (st : St) : St := ⟨st.vars, st.tmps, memMap (unkOf st.mem) st.mem, st.nx⟩
section
variable {P : Program} {fr : Fr} {ro : Option Nat} {ds : DS} {st st' : St} {Q Q' : Exit → St → Prop} {G G' : Nat → Option Value} {F F' : Nat → Nat → Prop} {a : Act} {w w' : World} {c : Code}
theorem RV.tvUnk {M : Mem} {v : Value} {i n off len : Nat} {cap : Cp} (h : RV G F M w v (.tv i n off len cap)) (h0 : n ≠ 0) : RV G F M w v (.tv i n off len .unk) := by
 obtain ⟨hG, hh⟩ := h.inv_tv
 refine .tv i n off len .unk v hG fun esz es fz ho => ?_
 obtain ⟨h1, h2⟩ := hh _ _ _ ho
 refine ⟨h1, fun e => ?_⟩
 obtain ⟨h3, b, ko, c, h4, h5, c', h6, h7, _⟩ := h2 e
 refine ⟨h3, b, ko, c, h4, ?_, c', h6, h7, .inl rfl⟩
 rcases h5 with h5 | ⟨k1, k2, k3⟩
 ·exact .inl h5
 ·exact absurd k1 h0
theorem unkOf_rv {M : Mem} {nx : Nat} (hm : SimM P G F M nx w) {v : Value} {y : AV} (h : RV G F M w v y) : RV G F M w v (unkOf M y) := by
 unfold unkOf
 split
 ·split
  ·rename_i h0
   exact h.tvUnk h0
  ·exact h
 ·rename_i j n b
  split
  ·rename_i h0
   split
   ·rename_i esz es fz ho
    split
    ·rename_i hn
     exact (h.tl_tv hm ho hn h0).tvUnk h0
    ·exact h
   ·exact h
  ·exact h
 ·exact h
theorem EvC.unkC (hc : EvC P fr ro ds c st.unkC Q) : EvC P fr ro ds c st Q :=
 EvC.conv (fun _ F _ _ s => let ⟨s', S'⟩ := s.memMap (f := unkOf st.mem) fun _ _ h => unkOf_rv s.sim.mem h; ⟨_, F, s', S'⟩) hc
end
attribute [go_sem] St.unkC unkOf
def notO (k : Nat) : Bool := decide (k < 2000000) || decide (3000000 ≤ k)
theorem notO_ne {k s : Nat} (hk : notO k = true) (hs : s < 1000000) : k ≠ 2000000 + s := by
 unfold notO at hk; simp at hk; omega
theorem o_ne {s : Nat} (hs : s < 1000000) (k : Nat) (hk : notO k = true) : (2000000 + s = k) = False := eq_false (fun h => notO_ne hk hs h.symm)
def oK (n : Nat) : List (Nat × Nat) := (List.range n).map fun i => (2000000 + i, 2000000 + i)
def osegK (A : List (Nat × Nat)) (n : Nat) (B : List (Nat × Nat)) : List (Nat × Nat) := A ++ (oK n ++ B)
theorem oK_succ (n : Nat) : oK (n + 1) = oK n ++ [(2000000 + n, 2000000 + n)] := by simp [oK, List.range_succ]
theorem mem_oK {n : Nat} {p : Nat × Nat} (h : p ∈ oK n) : ∃ i, i < n ∧ p = (2000000 + i, 2000000 + i) := by
 obtain ⟨i, h1, rfl⟩ := List.mem_map.1 h
 exact ⟨i, List.mem_range.1 h1, rfl⟩
theorem rlook_oK (n k : Nat) : rlook (oK n) k = if 2000000 ≤ k ∧ k < 2000000 + n then some k else none := by
 induction n with
 | zero => simp [oK, rlook]
 | succ n ih =>
   rw [oK_succ, rlook_append, ih]
   by_cases h : 2000000 ≤ k ∧ k < 2000000 + n
   ·rw [if_pos h, if_pos (by omega)]; rfl
   ·rw [if_neg h]
    by_cases h2 : k = 2000000 + n
    ·subst h2; simp [rlook]
    ·rw [if_neg (by omega)]; simp [rlook, h2]
theorem blook_oK (n k : Nat) : blook (oK n) k = if 2000000 ≤ k ∧ k < 2000000 + n then some k else none := by
 induction n with
 | zero => simp [oK, blook]
 | succ n ih =>
   rw [oK_succ, blook_append, ih]
   by_cases h : 2000000 ≤ k ∧ k < 2000000 + n
   ·rw [if_pos h, if_pos (by omega)]; rfl
   ·rw [if_neg h]
    by_cases h2 : k = 2000000 + n
    ·subst h2; simp [blook]
    ·rw [if_neg (by omega)]; simp [blook, h2]
theorem rlook_osegK_hi {n : Nat} (hn : n ≤ 1000000) (A B : List (Nat × Nat)) (k : Nat) (hk : notO k = true) : rlook (osegK A n B) k = rlook (A ++ B) k := by
 rw [osegK, rlook_append, rlook_append, rlook_append, rlook_oK, if_neg (by unfold notO at hk; simp at hk; omega)]; simp
theorem rlook_notO : ∀ {A : List (Nat × Nat)} {s : Nat}, s < 1000000 → (A.all fun p => notO p.1) = true → rlook A (2000000 + s) = none
 | [], _, _, _ => rfl
 | (i, j) :: A, s, hs, h => by
   simp only [List.all_cons, Bool.and_eq_true] at h
   simp only [rlook]
   rw [if_neg (fun e => notO_ne h.1 hs e.symm)]
   exact rlook_notO hs h.2
theorem rlook_osegK_lo {n s : Nat} (hs : s < n) (hn : n ≤ 1000000) {A B : List (Nat × Nat)} (hA : (A.all fun p => notO p.1) = true) : rlook (osegK A n B) (2000000 + s) = some (2000000 + s) := by
 rw [osegK, rlook_append, rlook_append, rlook_oK, if_pos (by omega), rlook_notO (by omega) hA]; rfl
theorem mset_msegO {l : List RObj} {b i : Nat} (o : RObj) (h : i < l.length) : mset (msegA b l) (b + i) o = msegA b (l.set i o) := by
 rw [mset_msegA l b (b + i) o (by omega) (by omega), Nat.add_sub_cancel_left]
theorem mlook_msegO (l : List RObj) (b i : Nat) : mlook (msegA b l) (b + i) = l[i]? := by rw [mlook_msegA, if_pos (by omega), Nat.add_sub_cancel_left]
theorem renMem_oK_congr {M M' : Mem} {n : Nat} (hn : n ≤ 1000000) (K : List (Nat × Nat)) (h : ∀ i, i < n → mlook M (2000000 + i) = mlook M' (2000000 + i)) : renMem M K (oK n) = renMem M' K (oK n) :=
 renMem_congr K fun p hp => by obtain ⟨i, h1, rfl⟩ := mem_oK hp; exact h i h1
theorem renMem_oK_cons {n : Nat} (hn : n ≤ 1000000) (k : Nat) (hk : notO k = true) (o : RObj) (M : Mem) (K : List (Nat × Nat)) : renMem ((k, o) :: M) K (oK n) = renMem M K (oK n) :=
 renMem_oK_congr hn K fun i hi => by simp only [mlook]; rw [if_neg (fun e => notO_ne hk (by omega) e.symm)]
theorem renMem_oK_mset {n : Nat} (hn : n ≤ 1000000) (k : Nat) (hk : notO k = true) (o : RObj) (M : Mem) (K : List (Nat × Nat)) : renMem (mset M k o) K (oK n) = renMem M K (oK n) :=
 renMem_oK_congr hn K fun i hi => by rw [mlook_mset, if_neg (fun e => notO_ne hk (by omega) e.symm)]
theorem renMem_osegK (M : Mem) (A B : List (Nat × Nat)) (n : Nat) : renMem M (osegK A n B) (osegK A n B) = renMem M (osegK A n B) A ++ (renMem M (osegK A n B) (oK n) ++ renMem M (osegK A n B) B) := by
 conv => lhs; arg 3; rw [osegK]
 rw [renMem_append, renMem_append]
theorem renMem_oK (K : List (Nat × Nat)) (l : List RObj) (X : Mem) : ∀ n, n ≤ l.length → renMem (msegA 2000000 l ++ X) K (oK n) = msegA 2000000 ((l.take n).map (RObj.ren K))
 | 0, _ => rfl
 | n + 1, h => by
   have hl : mlook (msegA 2000000 l ++ X) (2000000 + n) = some (l[n]'(by omega)) := by rw [mlook_append, mlook_msegO, List.getElem?_eq_getElem (by omega)]
   rw [oK_succ, renMem_append, renMem_oK K l X n (by omega), List.take_add_one, List.getElem?_eq_getElem (by omega), List.map_append, Option.toList_some, List.map_singleton, msegA_append]
   congr 1
   simp only [renMem, hl, msegA]
   congr 2
   simp; omega
theorem osegK_ok {base nx n : Nat} {A : List (Nat × Nat)} (hA : gcOk base nx A = true) (h1 : (A.all fun p => notO p.1) = true) (h2 : (A.all fun p => notO p.2) = true) (hn : n ≤ 1000000) (hx : 3000000 ≤ nx) : gcOk base nx (osegK A n []) = true := by
 have hb := gcOk_base hA
 have key : ∀ n, n ≤ 1000000 → gcOk base nx (oK n) = true := by
  intro n
  induction n with
  | zero => intro _; simp [oK, gcOk, hb]
  | succ n ih =>
    intro hn
    rw [oK_succ]
    refine gcOk_append (ih (by omega)) ?_ fun p hp => ?_
    ·simp [gcOk, blook, rlook, hb]; omega
    ·obtain ⟨i, hi, rfl⟩ := mem_oK hp
     have hne : ¬ 2000000 + i = 2000000 + n := by omega
     simp only [blook, rlook, if_neg hne]
     exact ⟨trivial, trivial⟩
 rw [osegK, List.append_nil]
 refine gcOk_append hA (key n hn) fun p hp => ?_
 rw [List.all_eq_true] at h1 h2
 have a1 := h1 p hp
 have a2 := h2 p hp
 unfold notO at a1 a2
 simp at a1 a2
 rw [blook_oK, rlook_oK, if_neg (by omega), if_neg (by omega)]; exact ⟨rfl, rfl⟩
theorem osegK_ok1 {base nx n k : Nat} {A : List (Nat × Nat)} (hA : gcOk base nx A = true) (h1 : (A.all fun p => notO p.1) = true) (h2 : (A.all fun p => notO p.2) = true) (hk : notO k = true) (hkA : rlook A k = none) (hkb : base ≤ k) (hb2 : base ≤ 2000000) (hn : n < 1000000) (hx : 3000000 ≤ nx) : gcOk base nx (osegK A n [(k, 2000000 + n)]) = true := by
 have h0 := osegK_ok hA h1 h2 (Nat.le_of_lt hn) hx
 have hb := gcOk_base hA
 have e : osegK A n [(k, 2000000 + n)] = osegK A n [] ++ [(k, 2000000 + n)] := by simp [osegK]
 rw [e]
 refine gcOk_append h0 ?_ fun p hp => ?_
 ·simp [gcOk, blook, rlook, hb, hkb]; omega
 ·have hb : p.2 ≠ 2000000 + n ∧ p.1 ≠ k := by
    rw [osegK, List.append_nil] at hp
    rcases List.mem_append.1 hp with hp | hp
    ·rw [List.all_eq_true] at h2
     refine ⟨notO_ne (h2 p hp) hn, fun hk2 => ?_⟩
     have := rlook_ne (show (p.1, p.2) ∈ A from hp)
     rw [hk2] at this; exact this hkA
    ·obtain ⟨i, hi, rfl⟩ := mem_oK hp
     exact ⟨by simp only; omega, fun e => notO_ne hk (show i < 1000000 by omega) e.symm⟩
  simp only [blook, rlook]
  rw [if_neg hb.1, if_neg hb.2]; exact ⟨rfl, rfl⟩
theorem osegK_okB {base nx n : Nat} {A B : List (Nat × Nat)} (hA : gcOk base nx A = true) (hB : gcOk base nx B = true) (h1 : (A.all fun p => notO p.1) = true) (h2 : (A.all fun p => notO p.2) = true) (h3 : (B.all fun p => notO p.1) = true) (h4 : (B.all fun p => notO p.2) = true)
  (hAB : (A.all fun p => (blook B p.2).isNone && (rlook B p.1).isNone) = true) (hn : n ≤ 1000000) (hx : 3000000 ≤ nx) : gcOk base nx (osegK A n B) = true := by
 have e : osegK A n B = osegK A n [] ++ B := by simp [osegK]
 have key : ∀ (B : List (Nat × Nat)) (i : Nat), i < 1000000 → (B.all fun p => notO p.1) = true → (B.all fun p => notO p.2) = true → blook B (2000000 + i) = none ∧ rlook B (2000000 + i) = none := by
  intro B i hi
  induction B with
  | nil => intro _ _; exact ⟨rfl, rfl⟩
  | cons q B ih =>
    obtain ⟨x, y⟩ := q
    intro h3 h4
    simp only [List.all_cons, Bool.and_eq_true] at h3 h4
    obtain ⟨k1, k2⟩ := ih h3.2 h4.2
    simp only [blook, rlook]
    rw [if_neg (fun e => notO_ne h4.1 hi e.symm), if_neg (fun e => notO_ne h3.1 hi e.symm)]
    exact ⟨k1, k2⟩
 rw [e]
 refine gcOk_append (osegK_ok hA h1 h2 hn hx) hB fun p hp => ?_
 rw [osegK, List.append_nil] at hp
 rcases List.mem_append.1 hp with hp | hp
 ·rw [List.all_eq_true] at hAB
  have := hAB p hp
  simp only [Bool.and_eq_true, Option.isNone_iff_eq_none] at this
  exact this
 ·obtain ⟨i, hi, rfl⟩ := mem_oK hp
  exact key B i (by omega) h3 h4
section
variable {α : Type}
def otab (e : Nat) (C : α → List AV) (W : Nat → Nat → α) (n m : Nat) : Mem := msegA 2000000 ((List.range n).map (grow e C W m))
theorem otab_zero (e : Nat) (C : α → List AV) (W : Nat → Nat → α) (m : Nat) : otab e C W 0 m = [] := rfl
theorem otab_look (e : Nat) (C : α → List AV) (W : Nat → Nat → α) {n m s : Nat} (h : s < n) : mlook (otab e C W n m) (2000000 + s) = some (.arr e (gcells C (W s) m) false) := by
 rw [otab, mlook_msegO, List.getElem?_map, List.getElem?_range h]; rfl
theorem otab_set (e : Nat) (C : α → List AV) (W : Nat → Nat → α) {n m s t : Nat} (x : α) (hs : s < n) (ht : t < m) : mset (otab e C W n m) (2000000 + s) (.arr e ((gcells C (W s) m).set t (C x)) false) = otab e C (upd2 W s t x) n m := by
 rw [otab, mset_msegO _ (by simpa using hs), range_set _ _ hs, gcells_set C _ x ht, otab]
 congr 1
 refine List.map_congr_left fun i _ => ?_
 by_cases e2 : i = s
 ·subst e2; rw [if_pos rfl, grow]
  congr 1
  refine gcells_congr C fun k _ => ?_
  simp [upd1, upd2]
 ·rw [if_neg e2, grow, grow]
  congr 1
  refine gcells_congr C fun k _ => ?_
  simp [upd2, e2]
theorem otab_renX (e : Nat) {C : α → List AV} (hC : ∀ x, AV.norefs (C x) = true) (W : Nat → Nat → α) (n m : Nat) (K : List (Nat × Nat)) (X : Mem) : renMem (otab e C W n m ++ X) K (oK n) = otab e C W n m := by
 rw [otab, renMem_oK K _ X n (by simp), List.take_of_length_le (by simp), List.map_map]
 congr 1
 refine List.map_congr_left fun s _ => ?_
 simp only [Function.comp, grow, RObj.ren, gcells_norefs hC, if_true]
theorem otab_ren (e : Nat) {C : α → List AV} (hC : ∀ x, AV.norefs (C x) = true) (W : Nat → Nat → α) (n m : Nat) (K : List (Nat × Nat)) : renMem (otab e C W n m) K (oK n) = otab e C W n m := by
 have := otab_renX e hC W n m K []
 rwa [List.append_nil] at this
theorem otab_snoc (e : Nat) (C : α → List AV) (W : Nat → Nat → α) (n m : Nat) : otab e C W n m ++ [(2000000 + n, .arr e (gcells C (W n) m) false)] = otab e C W (n + 1) m := by
 rw [otab, otab, List.range_succ, List.map_append, msegA_append]
 simp [msegA, grow]
theorem mset_app_in {A : Mem} {i : Nat} (o : RObj) (B : Mem) (h : (mlook A i).isSome = true) : mset (A ++ B) i o = mset A i o ++ B := by
 induction A with
 | nil => simp [mlook] at h
 | cons p A ih =>
   obtain ⟨k, u⟩ := p
   simp only [List.cons_append, mset]
   by_cases e : i = k
   ·rw [if_pos e, if_pos e]; rfl
   ·rw [if_neg e, if_neg e, List.cons_append, ih (by simpa [mlook, e] using h)]
theorem mset_app_out {A : Mem} {i : Nat} (o : RObj) (B : Mem) (h : mlook A i = none) : mset (A ++ B) i o = A ++ mset B i o := by
 induction A with
 | nil => rfl
 | cons p A ih =>
   obtain ⟨k, u⟩ := p
   simp only [mlook] at h
   split at h
   ·cases h
   ·rename_i e
    simp only [List.cons_append, mset, if_neg e, ih h]
theorem otab_none (e : Nat) (C : α → List AV) (W : Nat → Nat → α) {n m : Nat} (hn : n ≤ 1000000) (k : Nat) (hk : notO k = true) : mlook (otab e C W n m) k = none := by
 rw [otab, mlook_msegA]
 split
 ·rw [List.getElem?_eq_none]
  unfold notO at hk; simp at hk; simp; omega
 ·rfl
theorem otab_lookX (e : Nat) (C : α → List AV) (W : Nat → Nat → α) {n m : Nat} (hn : n ≤ 1000000) (X : Mem) (k : Nat) (hk : notO k = true) : mlook (otab e C W n m ++ X) k = mlook X k := by
 rw [mlook_append, otab_none e C W hn k hk]
theorem otab_getX (e : Nat) (C : α → List AV) (W : Nat → Nat → α) {n m s : Nat} (X : Mem) (h : s < n) : mlook (otab e C W n m ++ X) (2000000 + s) = some (.arr e (gcells C (W s) m) false) := by
 rw [mlook_append, otab_look e C W h]
theorem otab_msetX (e : Nat) (C : α → List AV) (W : Nat → Nat → α) {n m : Nat} (hn : n ≤ 1000000) (X : Mem) (o : RObj) (k : Nat) (hk : notO k = true) : mset (otab e C W n m ++ X) k o = otab e C W n m ++ mset X k o := mset_app_out o X (otab_none e C W hn k hk)
theorem otab_setX (e : Nat) (C : α → List AV) (W : Nat → Nat → α) {n m s t : Nat} (X : Mem) (x : α) (hs : s < n) (ht : t < m) : mset (otab e C W n m ++ X) (2000000 + s) (.arr e ((gcells C (W s) m).set t (C x)) false) = otab e C (upd2 W s t x) n m ++ X := by
 rw [mset_app_in _ _ (by rw [otab_look e C W hs]; rfl), otab_set e C W x hs ht]
def otabF (e : Nat) (C : α → List AV) (W : Nat → Nat → α) (n m : Nat) : Mem := msegA 2000000 ((List.range n).map fun s => (grow e C W m s).fzn)
theorem otabF_look (e : Nat) (C : α → List AV) (W : Nat → Nat → α) {n m s : Nat} (h : s < n) : mlook (otabF e C W n m) (2000000 + s) = some (.arr e (gcells C (W s) m) true) := by
 rw [otabF, mlook_msegO, List.getElem?_map, List.getElem?_range h]; rfl
end
def ocell (m n : Nat) : List (List AV) := (List.range n).map fun s => [.tl (2000000 + s) m false]
theorem ocell_len (m n : Nat) : (ocell m n).length = n := by simp [ocell]
theorem ocell_get {m n s : Nat} (h : s < n) : (ocell m n)[s]? = some [.tl (2000000 + s) m false] := by rw [ocell, List.getElem?_map, List.getElem?_range h]; rfl
theorem ocell_succ (m n : Nat) : ocell m n ++ [[.tl (2000000 + n) m false]] = ocell m (n + 1) := by simp [ocell, List.range_succ]
theorem ocell_ren {m n : Nat} {K : List (Nat × Nat)} (h : ∀ s, s < n → rlook K (2000000 + s) = some (2000000 + s)) : (ocell m n).map (fun c => c.map (AV.ren K)) = ocell m n := by
 rw [ocell, List.map_map]
 refine List.map_congr_left fun s hs => ?_
 simp only [Function.comp, List.map_cons, List.map_nil, AV.ren, AV.noref, Bool.false_eq_true, if_false, AV.deep, renLeaf, h s (List.mem_range.1 hs)]
theorem ocell_snap {m n e : Nat} {M : Mem} {row : Nat → List (List AV)} (h : ∀ s, s < n → mlook M (2000000 + s) = some (.arr e (row s) true)) (hl : ∀ s, s < n → (row s).length = m) : (ocell m n).map (fun c => c.map (AV.deep (snap M))) = (List.range n).map fun s => [.sl false (row s) .unk] := by
 rw [ocell, List.map_map]
 refine List.map_congr_left fun s hs => ?_
 have hs := List.mem_range.1 hs
 simp only [Function.comp, List.map_cons, List.map_nil, AV.deep, snap, h s hs, hl s hs, if_true]
def ofzAll : Nat → Mem → Mem
 | 0, M => M
 | n + 1, M => match mlook (ofzAll n M) (2000000 + n) with
   | some o => mset (ofzAll n M) (2000000 + n) o.fzn
   | none => ofzAll n M
section
variable {P : Program} {fr : Fr} {ro : Option Nat} {ds : DS} {st st' : St} {Q Q' : Exit → St → Prop} {G G' : Nat → Option Value} {F F' : Nat → Nat → Prop} {a : Act} {w w' : World} {x y c : Code} {M : Mem}
theorem mlook_ofz_above (M : Mem) : ∀ (n k : Nat), n ≤ k → mlook (ofzAll n M) (2000000 + k) = mlook M (2000000 + k)
 | 0, _, _ => rfl
 | n + 1, k, hk => by
   simp only [ofzAll]
   split
   ·rw [mlook_mset, if_neg (by omega)]; exact mlook_ofz_above M n k (by omega)
   ·exact mlook_ofz_above M n k (by omega)
theorem ofzAll_cons {n : Nat} (hn : n ≤ 1000000) (k : Nat) (hk : notO k = true) (o : RObj) (M : Mem) : ofzAll n ((k, o) :: M) = (k, o) :: ofzAll n M := by
 induction n with
 | zero => rfl
 | succ n ih =>
   have hne : ¬ 2000000 + n = k := fun e => notO_ne hk (by omega) e.symm
   simp only [ofzAll, ih (by omega), mlook, if_neg hne]
   split
   ·simp only [mset, if_neg hne]
   ·rfl
theorem ofzAll_seg (l : List RObj) (X : Mem) : ∀ n, n ≤ l.length → ofzAll n (msegA 2000000 l ++ X) = msegA 2000000 ((l.take n).map RObj.fzn ++ l.drop n) ++ X
 | 0, _ => by simp [ofzAll]
 | n + 1, h => by
   have hd : l.drop n = l[n] :: l.drop (n + 1) := List.drop_eq_getElem_cons (by omega)
   have hl : ((l.take n).map RObj.fzn).length = n := by simp; omega
   have hset : ∀ (A : List RObj) (o : RObj), n < A.length → mset (msegA 2000000 A ++ X) (2000000 + n) o = msegA 2000000 (A.set n o) ++ X := fun A o hA => by
    rw [mset_app_in _ _ (by rw [mlook_msegO, List.getElem?_eq_getElem hA]; rfl), mset_msegO _ hA]
   simp only [ofzAll]
   rw [ofzAll_seg l X n (by omega), mlook_append, mlook_msegO, List.getElem?_append_right (by omega), hl, Nat.sub_self, hd]
   simp only [List.getElem?_cons_zero]
   rw [hset _ _ (by simp; omega), List.set_append_right _ _ (by omega), hl, Nat.sub_self, List.set_cons_zero, List.take_add_one, List.getElem?_eq_getElem (by omega), Option.toList_some, List.map_append, List.map_singleton, List.append_assoc]
   rfl
theorem otab_fzX {α : Type} (e : Nat) (C : α → List AV) (W : Nat → Nat → α) (n m : Nat) (X : Mem) : ofzAll n (otab e C W n m ++ X) = otabF e C W n m ++ X := by
 rw [otab, ofzAll_seg _ X n (by simp), List.take_of_length_le (by simp), List.drop_eq_nil_of_le (by simp), List.append_nil, List.map_map]; rfl
theorem SimA.ofzAll (n : Nat) (s : SimA P fr ds G F st a w) (h : ∀ i, i < n → ∃ esz es fz, mlook st.mem (2000000 + i) = some (.arr esz es fz) ∧ es.all AV.norefs = true) :
  ∃ F', SimA P fr ds G F' ⟨st.vars, st.tmps, Avl.ofzAll n st.mem, st.nx⟩ a w ∧ Step (· < fr.base) G F st.mem w G F' (Avl.ofzAll n st.mem) w := by
 induction n with
 | zero => exact ⟨F, s, .refl⟩
 | succ n ih =>
   obtain ⟨F1, s1, S1⟩ := ih fun i hi => h i (by omega)
   obtain ⟨esz, es, fz, ho, hn⟩ := h n (Nat.lt_succ_self _)
   have hm : mlook (Avl.ofzAll n st.mem) (2000000 + n) = some (.arr esz es fz) := by rw [mlook_ofz_above _ _ _ (Nat.le_refl _)]; exact ho
   have he : St.fz (2000000 + n) ⟨st.vars, st.tmps, Avl.ofzAll n st.mem, st.nx⟩ = some ⟨st.vars, st.tmps, mset (Avl.ofzAll n st.mem) (2000000 + n) (.arr esz es true), st.nx⟩ := by
    simp only [St.fz, hm, hn]; rfl
   obtain ⟨F2, s2, S2⟩ := s1.fz he
   refine ⟨F2, ?_, ?_⟩
   ·simp only [Avl.ofzAll, hm]; exact s2
   ·simp only [Avl.ofzAll, hm]; exact S1.trans S2
theorem EvC.ofzAll (n : Nat) (h : ∀ i, i < n → ∃ esz es fz, mlook st.mem (2000000 + i) = some (.arr esz es fz) ∧ es.all AV.norefs = true) (hc : EvC P fr ro ds c ⟨st.vars, st.tmps, Avl.ofzAll n st.mem, st.nx⟩ Q) : EvC P fr ro ds c st Q :=
 EvC.conv (fun _ _ _ _ s => let ⟨F', s', S'⟩ := s.ofzAll n h; ⟨_, F', s', S'⟩) hc
end
attribute [go_sem] renMem_osegK notO
theorem noconf_slots {l : List It} {t u : It} {x : Nat} (h6 : rdOk l t = true) (h4 : ∀ x, x ∈ slotsOf l t.o ∨ x ∈ dstC t.o → x ∉ dstC u.o) (h5 : memless t.o.op = true ∧ t.r.fx = none ∨ u.r.fx = none) (hx : x ∈ t.rd ∨ x ∈ wl t.o.dst t.r) (hu : x ∈ wl u.o.dst u.r) : False := by
 unfold rdOk at h6
 rw [List.all_eq_true] at h6
 have hd : ∀ {o : Oper} {r : Rc}, x ∈ wl o.dst r → x ∈ dstC o ∨ (x % 2 = 1 ∧ r.fx ≠ none) := fun {o r} h => by
  rcases wl_split h with h | h
  ·exact .inl h.2
  ·exact .inr h
 have he : ∀ {o : Oper}, x ∈ dstC o → x % 2 = 0 := fun {o} h => by
  unfold dstC at h
  split at h
  ·simp at h; omega
  ·cases h
 rcases hd hu with hu | ⟨hu1, hu2⟩
 ·have hev := he hu
  rcases hx with hx | hx
  ·have := h6 x hx
   simp only [Bool.or_eq_true, Bool.and_eq_true, beq_iff_eq, List.contains_iff_mem] at this
   rcases this with h | h
   ·omega
   ·exact h4 x (.inl h) hu
  ·rcases hd hx with hx | ⟨h, _⟩
   ·exact h4 x (.inr hx) hu
   ·omega
 ·rcases h5 with ⟨h5, h5'⟩ | h5
  ·rcases hx with hx | hx
   ·have := h6 x hx
    simp only [Bool.or_eq_true, Bool.and_eq_true, beq_iff_eq, List.contains_iff_mem, h5, Bool.not_true, Bool.false_eq_true, and_false, false_or] at this
    have hs : ∀ y ∈ slotsOf l t.o, y % 2 = 0 := fun y hy => by
     unfold slotsOf at hy
     rcases List.mem_append.1 hy with hy | hy
     ·have hos : ∀ xs : List Operand, ∀ y ∈ opSlots xs, y % 2 = 0 := by
        intro xs
        induction xs with
        | nil => intro y hy; simp [opSlots] at hy
        | cons z xs ih =>
          intro y hy
          cases z with
          | tmp t =>
            simp only [opSlots, List.mem_cons] at hy
            rcases hy with hy | hy
            ·omega
            ·exact ih y hy
          | const v => exact ih y (by simpa only [opSlots] using hy)
          | global g => exact ih y (by simpa only [opSlots] using hy)
          | func f => exact ih y (by simpa only [opSlots] using hy)
      exact hos _ y hy
     ·split at hy
      ·split at hy
       ·split at hy
        ·simp at hy; omega
        ·cases hy
       ·cases hy
      ·cases hy
    have := hs x this
    omega
   ·rcases hd hx with hx | ⟨_, h⟩
    ·have := he hx; omega
    ·exact h h5'
  ·exact hu2 h5
def confTA (ops : List It) (i : Nat) (t : It) : Nat → List It → Bool
 | _, [] => true
 | m, u :: l => (i == m || ancB ops 4 i m || ancB ops 4 m i || (!((slotsOf ops t.o ++ dstC t.o).any fun x => (dstC u.o).contains x) && !((!memless t.o.op || t.r.fx.isSome) && u.r.fx.isSome))) && confTA ops i t (m + 1) l
def confSA (all : List It) : Nat → List It → Bool
 | _, [] => true
 | i, t :: l => (depsOf t.o).all (fun e => decide (e < i)) && confTA all i t 0 all && confSA all (i + 1) l
theorem confOneA_slots {all : List It} {i : Nat} {t : It} (hr : rdOk all t = true) : ∀ (l : List It) (m0 : Nat), confTA all i t m0 l = true → confOneA all i t m0 l = true
 | [], _, _ => rfl
 | u :: l, m0, h => by
   simp only [confTA, Bool.and_eq_true] at h
   simp only [confOneA, Bool.and_eq_true]
   refine ⟨?_, confOneA_slots hr l (m0 + 1) h.2⟩
   have h1 := h.1
   simp only [Bool.or_eq_true, Bool.and_eq_true] at h1 ⊢
   rcases h1 with ((h1 | h1) | h1) | h1
   ·exact .inl (.inl (.inl h1))
   ·exact .inl (.inr h1)
   ·exact .inr h1
   ·refine .inl (.inl (.inr ?_))
    rw [Bool.not_eq_true', List.any_eq_false]
    intro x hx
    intro hxu
    simp only [Bool.not_eq_true', List.any_eq_false, List.mem_append, List.contains_iff_mem] at h1
    refine noconf_slots hr (fun y hy => h1.1 y hy) ?_ (List.mem_append.1 hx) (by simpa using hxu)
    have h2 := h1.2
    cases hm : memless t.o.op <;> cases ht : t.r.fx <;> cases hu : u.r.fx <;> simp [hm, ht, hu] at h2 ⊢
theorem confAllA_slots {l : List It} (h1 : l.all (rdOk l) = true) (h2 : confSA l 0 l = true) : confAllA l 0 l = true := by
 rw [List.all_eq_true] at h1
 have key : ∀ (k : List It) (i0 : Nat), (∀ t ∈ k, t ∈ l) → confSA l i0 k = true → confAllA l i0 k = true := by
  intro k
  induction k with
  | nil => intro _ _ _; rfl
  | cons t k ih =>
    intro i0 hm h
    simp only [confSA, Bool.and_eq_true] at h
    simp only [confAllA, Bool.and_eq_true]
    exact ⟨⟨h.1.1, confOneA_slots (h1 t (hm t List.mem_cons_self)) l 0 h.1.2⟩, ih (i0 + 1) (fun u hu => hm u (List.mem_cons_of_mem _ hu)) h.2⟩
 exact key l 0 (fun _ h => h) h2
section
variable {P : Program} {fr : Fr} {ro : Option Nat} {ds : DS} {st st' : St} {Q Q' : Exit → St → Prop} {x y c : Code} {l rest : List Oper} {o : Oper} {ok : Bool} {id : Nat} {ops : Array Oper} {its : List It}
theorem EvC.a (hq : EvC P fr ro ds y st'.clr Q) (h : xrun P fr l st.clr true = .done ok st' := by simp only [go_sem] <;> rfl) (hok : ok = true := by simp) : EvC P fr ro ds (.seq (.region id l.toArray false) y) st Q := .seq (.rg h hok hq)
theorem EvC.b (hq : Q .normal st'.clr) (h : xrun P fr l st.clr true = .done ok st' := by simp only [go_sem] <;> rfl) (hok : ok = true := by simp) : EvC P fr ro ds (.region id l.toArray false) st Q := .rg h hok hq
theorem EvC.bi (hq : Q .normal st'.clr) (h : xrun P fr l st.clr true = .done ok st' := by simp only [go_sem] <;> rfl) (hok : ok = true := by exact inI64_of (by omega) (by omega)) : EvC P fr ro ds (.region id l.toArray false) st Q := .rg h hok hq
theorem EvC.cd {o : Operand} {b : Bool} (ht : b = true → EvC P fr ro ds x st Q) (hf : b = false → EvC P fr ro ds y st Q) (ho : opnd fr st o = .sc (.bool b) := by simp only [go_sem] <;> rfl) : EvC P fr ro ds (.cond o x y) st Q := .cond ho ht hf
theorem EvC.s1 (ht : Tr P fr ro ds l.toArray st.nx l st.clr its st') (hq : EvC P fr ro ds y (st'.fin (st.nx + its.length)) Q) : EvC P fr ro ds (.seq (.region id l.toArray false) y) st Q := .seq (.tr ht hq)
theorem EvC.ct {o : Operand} (ht : EvC P fr ro ds x st Q) (ho : opnd fr st o = .sc (.bool true) := by simp only [go_sem] <;> rfl) : EvC P fr ro ds (.cond o x y) st Q := .cond_true ho ht
theorem EvC.cs {o : Operand} (h : Q .normal st) (ho : opnd fr st o = .sc (.bool false) := by simp only [go_sem] <;> rfl) : EvC P fr ro ds (.cond o x .skip) st Q := .cond_false ho (.skip h)
theorem EvC.z (i : Nat) (hc : EvC P fr ro ds c st' Q) (h : st.frzB i = some st' := by simp only [go_sem] <;> rfl) : EvC P fr ro ds c st Q := .frzB i h hc
theorem EvC.rz {results : List ResultVar} {r : AV} {rs : List AV} (h2 : mkRes rs = r) (hQ : Q .ret st = retP P fr results r .ret st := by rfl) (h1 : resAll P fr st results = some rs := by simp only [go_sem] <;> rfl) (h3 : r.noref = true := by rfl) : EvC P fr ro ds .ret st Q := .ret (by rw [hQ]; exact ⟨.inl rfl, _, h1, h2, h3⟩)
theorem OpIs.ca {f : FuncId} {cs : List AV} {callee : Operand} {args : Array Operand} {tys : Array TypeId} {xs : List AV} {v : AV} {rd : List Nat} (hc : PureIs P f xs v) (hg : o.guard = none := by rfl) (hop : o.op = .call ⟨.value callee, args, tys⟩ := by rfl) (hd : dok fr o.dst = true := by simp only [go_sem] <;> rfl)
 (hcal : od fr st true callee = .fn f cs := by simp only [go_sem] <;> rfl) (hxs : callArgs fr st args ++ cs = xs := by simp only [go_sem] <;> rfl) (hn : AV.norefs xs = true := by simp only [go_sem] <;> rfl) (hrd : rdOf fr st [] o = rd := by simp only [go_sem] <;> rfl) : OpIs P fr ro ds ops id st ⟨o, ⟨v, none⟩, rd⟩ := .call hg hop hd hcal hxs hn hrd hc
theorem OpIs.cg {j k : Nat} {want : Bool} {f : FuncId} {cs : List AV} {callee : Operand} {args : Array Operand} {tys : Array TypeId} {xs : List AV} {v : AV} {rd : List Nat} (hc : PureIs P f xs v) (hg : o.guard = some (j, want) := by rfl) (hj : gslot ops j = some k := by rfl) (hk : gval want (st.get fr k) = some true := by simp only [go_sem] <;> rfl)
 (hop : o.op = .call ⟨.value callee, args, tys⟩ := by rfl) (hd : dok fr o.dst = true := by simp only [go_sem] <;> rfl)
 (hcal : od fr st true callee = .fn f cs := by simp only [go_sem] <;> rfl) (hxs : callArgs fr st args ++ cs = xs := by simp only [go_sem] <;> rfl) (hn : AV.norefs xs = true := by simp only [go_sem] <;> rfl) (hrd : rdOf fr st [2 * k] o = rd := by simp only [go_sem] <;> rfl) : OpIs P fr ro ds ops id st ⟨o, ⟨v, none⟩, rd⟩ := .callG hg hj hk hop hd hcal hxs hn hrd hc
theorem PureIs.of1 (nv : Nat) (hid : List Nat) {f : FuncId} {fn : Func} {args : List AV} {r : AV} {n : Nat} {rs : Array ResultVar} (hf : P.funcs[f]? = some fn) (hn : fn.ntmps = n) (hr : fn.results = rs)
  (h : ∀ h0 : Nat, EvC P ⟨0, nv, hid, n⟩ none ⟨h0, none, false⟩ c (st0 args) (retP P ⟨0, nv, hid, n⟩ rs.toList r)) (hb : fn.body = some c := by rfl) (hnm : (fn.name == "runtime.NumGoroutine") = false := by kernel_rfl) (hsz : args.length ≤ n := by simp) (hlt : f < 1000000 := by first | assumption | decide) : PureIs P f args r := by
 subst hn hr
 exact .of hf hb hnm hsz h
end
section
variable {P : Program} {fr : Fr} {ro : Option Nat} {ds : DS} {st st1 st2 st3 st4 : St} {Q : Exit → St → Prop} {y : Code} {l r1 r2 r3 : List Oper} {o1 o2 o3 : Oper} {b1 b2 b3 b4 : Bool} {id n1 n2 n3 : Nat} {i1 i2 i3 i4 : List It} {x1 x2 x3 : Rc} {d1 d2 d3 : List Nat}
theorem EvC.g (hq : EvC P fr ro ds y (st1.fin (st.nx + i1.length)) Q) (h : trun P fr l l st.nx st.clr = .done b1 i1 st1 := by simp only [go_sem] <;> rfl) (hok : b1 = true := by simp) : EvC P fr ro ds (.seq (.region id l.toArray false) y) st Q := .seq (.trd h hok hq)
theorem EvC.d (m : P.follows .mixedOrders = true) (hq : EvC P fr ro ds y (st1.fin (st.nx + i1.length)) Q) (h : trun P fr l l st.nx st.clr = .done b1 i1 st1 := by simp only [go_sem] <;> rfl) (hok : b1 = true := by simp) (hc : confAll i1 0 i1 = true := by kernel_rfl) : EvC P fr ro ds (.seq (.region id l.toArray true) y) st Q := .seq (.drd m h hok hc hq)
theorem EvC.dL (m : P.follows .mixedOrders = true) (hq : Q .normal (st1.fin (st.nx + i1.length))) (h : trun P fr l l st.nx st.clr = .done b1 i1 st1 := by simp only [go_sem] <;> rfl) (hok : b1 = true := by simp) (hc : confAll i1 0 i1 = true := by kernel_rfl) : EvC P fr ro ds (.region id l.toArray true) st Q := .drd m h hok hc hq
theorem EvC.k1 (hq : EvC P fr ro ds y (st2.fin (st.nx + (i1 ++ ⟨o1, x1, d1⟩ :: i2).length)) Q) (h1 : trun P fr l l st.nx st.clr = .stop b1 i1 st1 (o1 :: r1) n1 := by simp only [go_sem] <;> rfl) (k1 : b1 = true := by simp)
 (c1 : OpIs P fr ro ds l.toArray n1 st1 ⟨o1, x1, d1⟩) (h2 : trun P fr l r1 (n1 + 1) (run1 fr o1.dst x1 st1) = .done b2 i2 st2 := by simp only [go_sem] <;> rfl) (k2 : b2 = true := by simp) : EvC P fr ro ds (.seq (.region id l.toArray false) y) st Q := .seq (.tr (.run h1 k1 (.cons c1 (.done h2 k2))) hq)
theorem EvC.k1D (m : P.follows .mixedOrders = true) (hq : EvC P fr ro ds y (st2.fin (st.nx + (i1 ++ ⟨o1, x1, d1⟩ :: i2).length)) Q) (h1 : trun P fr l l st.nx st.clr = .stop b1 i1 st1 (o1 :: r1) n1 := by simp only [go_sem] <;> rfl) (k1 : b1 = true := by simp)
 (c1 : OpIs P fr ro ds l.toArray n1 st1 ⟨o1, x1, d1⟩) (h2 : trun P fr l r1 (n1 + 1) (run1 fr o1.dst x1 st1) = .done b2 i2 st2 := by simp only [go_sem] <;> rfl) (k2 : b2 = true := by simp) (hc : confAll (i1 ++ ⟨o1, x1, d1⟩ :: i2) 0 (i1 ++ ⟨o1, x1, d1⟩ :: i2) = true := by kernel_rfl) : EvC P fr ro ds (.seq (.region id l.toArray true) y) st Q := .seq (.drw m (.run h1 k1 (.cons c1 (.done h2 k2))) hc hq)
theorem EvC.k2 (hq : EvC P fr ro ds y (st3.fin (st.nx + (i1 ++ ⟨o1, x1, d1⟩ :: (i2 ++ ⟨o2, x2, d2⟩ :: i3)).length)) Q) (h1 : trun P fr l l st.nx st.clr = .stop b1 i1 st1 (o1 :: r1) n1 := by simp only [go_sem] <;> rfl) (k1 : b1 = true := by simp)
 (c1 : OpIs P fr ro ds l.toArray n1 st1 ⟨o1, x1, d1⟩) (h2 : trun P fr l r1 (n1 + 1) (run1 fr o1.dst x1 st1) = .stop b2 i2 st2 (o2 :: r2) n2 := by simp only [go_sem] <;> rfl) (k2 : b2 = true := by simp)
 (c2 : OpIs P fr ro ds l.toArray n2 st2 ⟨o2, x2, d2⟩) (h3 : trun P fr l r2 (n2 + 1) (run1 fr o2.dst x2 st2) = .done b3 i3 st3 := by simp only [go_sem] <;> rfl) (k3 : b3 = true := by simp) : EvC P fr ro ds (.seq (.region id l.toArray false) y) st Q := .seq (.tr (.run h1 k1 (.cons c1 (.run h2 k2 (.cons c2 (.done h3 k3))))) hq)
theorem EvC.k2D (m : P.follows .mixedOrders = true) (hq : EvC P fr ro ds y (st3.fin (st.nx + (i1 ++ ⟨o1, x1, d1⟩ :: (i2 ++ ⟨o2, x2, d2⟩ :: i3)).length)) Q) (h1 : trun P fr l l st.nx st.clr = .stop b1 i1 st1 (o1 :: r1) n1 := by simp only [go_sem] <;> rfl) (k1 : b1 = true := by simp)
 (c1 : OpIs P fr ro ds l.toArray n1 st1 ⟨o1, x1, d1⟩) (h2 : trun P fr l r1 (n1 + 1) (run1 fr o1.dst x1 st1) = .stop b2 i2 st2 (o2 :: r2) n2 := by simp only [go_sem] <;> rfl) (k2 : b2 = true := by simp)
 (c2 : OpIs P fr ro ds l.toArray n2 st2 ⟨o2, x2, d2⟩) (h3 : trun P fr l r2 (n2 + 1) (run1 fr o2.dst x2 st2) = .done b3 i3 st3 := by simp only [go_sem] <;> rfl) (k3 : b3 = true := by simp) (hc : confAll (i1 ++ ⟨o1, x1, d1⟩ :: (i2 ++ ⟨o2, x2, d2⟩ :: i3)) 0 (i1 ++ ⟨o1, x1, d1⟩ :: (i2 ++ ⟨o2, x2, d2⟩ :: i3)) = true := by kernel_rfl) : EvC P fr ro ds (.seq (.region id l.toArray true) y) st Q := .seq (.drw m (.run h1 k1 (.cons c1 (.run h2 k2 (.cons c2 (.done h3 k3))))) hc hq)
end
end Go.Avl
