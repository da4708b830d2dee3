/-
  Another test of a drawn region's order: by the slots that its operations name, where the numbers of objects are not known.
  Tables whose rows are slices of their own, still written: the rows are the objects below n.
  Functions that work on objects that are there: what comes of them from given arguments and memory.
  Lists with room behind them.
  Regions that draw their order, the last operation behind all others.
  A box that keeps the front of an object that nobody else keeps: the object cut to it.
  Boxes that keep a whole object: as a view of it from its front.
  Functions whose result is a new slice that nobody else has: it may go on being written.
  A call that cuts the room behind a slice of an object of the caller's.
  Regions that draw their order: operations that wait for each other through others.
  A call whose result is an empty slice without room, as an object.
  Nil slices, read as such; calls whose result is a view of a new object.
  One row of an array of rows, read otherwise.
  Nothing appended to a slice without room: that slice.
  Facts of the types, printed by a program of this claim's own.
  Lemmas.
  Lemmas.
  Lemmas.
  Lemmas.
-/
import Derived.Test.YthdaggogdocmfaaDoorProg
import Derived.KernelRfl
import Derived.Test.YthdaggogdocmfaaDoorPart4
set_option linter.unusedSimpArgs false
set_option linter.unusedVariables false
set_option linter.unnecessarySimpa false
set_option linter.deprecated false
namespace Go.Avl
open Go

/-- The slots that an operation reads, its guard's among them. -/
def slotsOf (ops : List It) (o : Oper) : List Nat := opSlots o.op.operands.toList ++ match o.guard with
  | some (j, _) => match ops[j]? with
    | some u => match u.o.dst with
      | some k => [2 * k]
      | none => []
    | none => []
  | none => []
def dstC (o : Oper) : List Nat := match o.dst with
  | some k => [2 * k]
  | none => []
def rdOk (ops : List It) (t : It) : Bool := t.rd.all fun x => (x % 2 == 1 && !memless t.o.op) || (slotsOf ops t.o).contains x
def confT (ops : List It) (i : Nat) (t : It) : Nat → List It → Bool
  | _, [] => true
  | m, u :: l => (i == m || (depsOf t.o).contains m || (depsOf u.o).contains i || (!((slotsOf ops t.o ++ dstC t.o).any fun x => (dstC u.o).contains x) && !((!memless t.o.op || t.r.fx.isSome) && u.r.fx.isSome))) && confT ops i t (m + 1) l
def confS (all : List It) : Nat → List It → Bool
  | _, [] => true
  | i, t :: l => (depsOf t.o).all (fun e => decide (e < i)) && confT all i t 0 all && confS all (i + 1) l

theorem confT_spec {all : List It} {i : Nat} {t : It} : ∀ (l : List It) (m0 : Nat), confT all i t m0 l = true → ∀ m u, l[m]? = some u → i = m0 + m ∨ m0 + m ∈ depsOf t.o ∨ i ∈ depsOf u.o ∨ ((∀ x, x ∈ slotsOf all t.o ∨ x ∈ dstC t.o → x ∉ dstC u.o) ∧ (memless t.o.op = true ∧ t.r.fx = none ∨ u.r.fx = none)) := by
  intro l
  induction l with
  | nil => intro m0 _ m u hm; simp at hm
  | cons u0 l ih =>
    intro m0 h m u hm
    simp only [confT, Bool.and_eq_true] at h
    cases m with
    | zero =>
      have e : u0 = u := by simpa using hm
      subst e
      have h1 := h.1
      simp only [Bool.or_eq_true, beq_iff_eq, List.contains_iff_mem, Bool.and_eq_true, Bool.not_eq_true', List.any_eq_false, List.mem_append] at h1
      rcases h1 with ((h1 | h1) | h1) | h1
      · exact .inl h1
      · exact .inr (.inl h1)
      · exact .inr (.inr (.inl h1))
      · refine .inr (.inr (.inr ⟨fun x hx hm => h1.1 x hx (by simpa using hm), ?_⟩))
        have h2 := h1.2
        cases hu : u0.r.fx with
        | none => exact .inr rfl
        | some p =>
          left
          rw [hu] at h2
          cases ht : t.r.fx with
          | none => rw [ht] at h2; simp at h2; exact ⟨h2, rfl⟩
          | some q => rw [ht] at h2; simp at h2
    | succ m =>
      have := ih (m0 + 1) h.2 m u (by simpa using hm)
      rwa [show m0 + 1 + m = m0 + (m + 1) by omega] at this
theorem confS_spec {all : List It} : ∀ (l : List It) (i0 : Nat), confS all i0 l = true → ∀ i t, l[i]? = some t → (∀ e ∈ depsOf t.o, e < i0 + i) ∧ confT all (i0 + i) t 0 all = true := by
  intro l
  induction l with
  | nil => intro i0 _ i t hi; simp at hi
  | cons t0 l ih =>
    intro i0 h i t hi
    simp only [confS, Bool.and_eq_true] at h
    cases i with
    | zero =>
      have e : t0 = t := by simpa using hi
      subst e
      refine ⟨fun e he => ?_, h.1.2⟩
      have := h.1.1
      rw [List.all_eq_true] at this
      simpa using this e he
    | succ i =>
      have := ih (i0 + 1) h.2 i t (by simpa using hi)
      rwa [show i0 + 1 + i = i0 + (i + 1) by omega] at this
theorem wl_split {d : Option Nat} {r : Rc} {x : Nat} (h : x ∈ wl d r) : (d.isSome = true ∧ x ∈ (match d with | some k => [2 * k] | none => [])) ∨ (x % 2 = 1 ∧ r.fx ≠ none) := by
  unfold wl at h
  rcases List.mem_append.1 h with h | h
  · cases d with
    | none => cases h
    | some k => exact .inl ⟨rfl, h⟩
  · right
    cases hf : r.fx with
    | none => rw [hf] at h; cases h
    | some p => rw [hf] at h; simp at h; exact ⟨by omega, by simp⟩
theorem Conf.ofS {l : List It} (h1 : l.all (rdOk l) = true) (h2 : confS l 0 l = true) : Conf l where
  back := fun i t hi e he => by have := (confS_spec l 0 h2 i t hi).1 e he; omega
  edge := fun i m t u hi hm hne x hx hu => by
    have h3 := (confS_spec l 0 h2 i t hi).2
    rw [Nat.zero_add] at h3
    have h4 := confT_spec l 0 h3 m u hm
    rw [Nat.zero_add] at h4
    rcases h4 with h4 | h4 | h4 | ⟨h4, h5⟩
    · exact absurd h4 hne
    · exact .inl h4
    · exact .inr h4
    · exfalso
      rw [List.all_eq_true] at h1
      have h6 := h1 t (List.mem_of_getElem? hi)
      unfold rdOk at h6
      rw [List.all_eq_true] at h6
      have hd : ∀ {o : Oper} {r : Rc}, x ∈ wl o.dst r → x ∈ dstC o ∨ (x % 2 = 1 ∧ r.fx ≠ none) := fun {o r} h => by
        rcases wl_split h with h | h
        · exact .inl h.2
        · exact .inr h
      have he : ∀ {o : Oper}, x ∈ dstC o → x % 2 = 0 := fun {o} h => by
        unfold dstC at h
        split at h
        · simp at h; omega
        · cases h
      rcases hd hu with hu | ⟨hu1, hu2⟩
      · have hev := he hu
        rcases hx with hx | hx
        · have := h6 x hx
          simp only [Bool.or_eq_true, Bool.and_eq_true, beq_iff_eq, List.contains_iff_mem] at this
          rcases this with h | h
          · omega
          · exact h4 x (.inl h) hu
        · rcases hd hx with hx | ⟨h, _⟩
          · exact h4 x (.inr hx) hu
          · omega
      · rcases h5 with ⟨h5, h5'⟩ | h5
        · rcases hx with hx | hx
          · have := h6 x hx
            simp only [Bool.or_eq_true, Bool.and_eq_true, beq_iff_eq, List.contains_iff_mem, h5, Bool.not_true, Bool.false_eq_true, and_false, false_or] at this
            have hs : ∀ y ∈ slotsOf l t.o, y % 2 = 0 := fun y hy => by
              unfold slotsOf at hy
              rcases List.mem_append.1 hy with hy | hy
              · have hos : ∀ xs : List Operand, ∀ y ∈ opSlots xs, y % 2 = 0 := by
                  intro xs
                  induction xs with
                  | nil => intro y hy; simp [opSlots] at hy
                  | cons z xs ih =>
                    intro y hy
                    cases z with
                    | tmp t =>
                      simp only [opSlots, List.mem_cons] at hy
                      rcases hy with hy | hy
                      · omega
                      · exact ih y hy
                    | const v => exact ih y (by simpa only [opSlots] using hy)
                    | global g => exact ih y (by simpa only [opSlots] using hy)
                    | func f => exact ih y (by simpa only [opSlots] using hy)
                exact hos _ y hy
              · split at hy
                · split at hy
                  · split at hy
                    · simp at hy; omega
                    · cases hy
                  · cases hy
                · cases hy
            have := hs x this
            omega
          · rcases hd hx with hx | ⟨_, h⟩
            · have := he hx; omega
            · exact h h5'
        · exact hu2 h5
theorem confOne_of {i : Nat} {t : It} {all : List It} (hc : Conf all) (hi : all[i]? = some t) : ∀ (l : List It) (m0 : Nat), (∀ m u, l[m]? = some u → all[m0 + m]? = some u) → confOne i t m0 l = true
  | [], _, _ => rfl
  | u :: l, m0, h => by
    simp only [confOne, Bool.and_eq_true]
    refine ⟨?_, confOne_of hc hi l (m0 + 1) fun m u hm => by rw [show m0 + 1 + m = m0 + (m + 1) by omega]; exact h (m + 1) u (by simpa using hm)⟩
    have hu := h 0 u (by simp)
    rw [Nat.add_zero] at hu
    by_cases e : i = m0
    · simp [e]
    by_cases hx : ((t.rd ++ wl t.o.dst t.r).any fun x => (wl u.o.dst u.r).contains x) = true
    · rw [List.any_eq_true] at hx
      obtain ⟨x, h1, h2⟩ := hx
      rcases hc.edge i m0 t u hi hu e x (List.mem_append.1 h1) (by simpa using h2) with h | h
      · simp [h]
      · simp [h]
    · simp only [Bool.not_eq_true] at hx
      rw [hx]; simp
theorem confAll_of' {all : List It} (hc : Conf all) : ∀ (l : List It) (i0 : Nat), (∀ i t, l[i]? = some t → all[i0 + i]? = some t) → confAll all i0 l = true
  | [], _, _ => rfl
  | t :: l, i0, h => by
    have ht := h 0 t (by simp)
    rw [Nat.add_zero] at ht
    simp only [confAll, Bool.and_eq_true]
    refine ⟨⟨?_, confOne_of hc ht all 0 fun m u hm => by rw [Nat.zero_add]; exact hm⟩, confAll_of' hc l (i0 + 1) fun i t hi => by rw [show i0 + 1 + i = i0 + (i + 1) by omega]; exact h (i + 1) t (by simpa using hi)⟩
    rw [List.all_eq_true]
    intro e he
    simpa using hc.back i0 t ht e he
/-- The order of a drawn region, by its slots. -/
theorem confAll_slots {l : List It} (h1 : l.all (rdOk l) = true) (h2 : confS l 0 l = true) : confAll l 0 l = true :=
  confAll_of' (Conf.ofS h1 h2) l 0 fun i t h => by rw [Nat.zero_add]; exact h
theorem odd_code (x : Nat) : ((2 * x + 1) % 2 == 1) = true := by simp
end Go.Avl
namespace Go.Avl
open Go

/-- What has no references stays as it is. -/
theorem deep_fix {σ : AV → AV} (hσ : ∀ v, v.noref = true → σ v = v) : ∀ (d : Nat) (v : AV), SizeOf.sizeOf v ≤ d → v.noref = true → v.deep σ = v
  | 0, v, h, _ => by cases v <;> simp at h
  | d + 1, v, h, hn => by
    have hl : ∀ cs : List AV, SizeOf.sizeOf cs ≤ d → AV.norefs cs = true → AV.deeps σ cs = cs := by
      intro cs
      induction cs with
      | nil => intro _ _; rfl
      | cons c cs ih =>
        intro h1 h2
        simp only [AV.norefs, Bool.and_eq_true] at h2
        simp only [List.cons.sizeOf_spec] at h1
        rw [AV.deeps, deep_fix hσ d c (by omega) h2.1, ih (by omega) h2.2]
    cases v with
    | ag cs => simp only [AV.ag.sizeOf_spec] at h; rw [AV.deep, hl cs (by omega) (by simpa [AV.noref] using hn)]
    | tu cs => simp only [AV.tu.sizeOf_spec] at h; rw [AV.deep, hl cs (by omega) (by simpa [AV.noref] using hn)]
    | ifc t v => simp only [AV.ifc.sizeOf_spec] at h; rw [AV.deep, deep_fix hσ d v (by omega) (by simpa [AV.noref] using hn)]
    | fn f cs => simp only [AV.fn.sizeOf_spec] at h; rw [AV.deep, hl cs (by omega) (by simpa [AV.noref] using hn)]
    | opt b v => simp only [AV.opt.sizeOf_spec] at h; rw [AV.deep, deep_fix hσ d v (by omega) (by simpa [AV.noref] using hn)]
    | _ => exact hσ _ hn
theorem deeps_fix {σ : AV → AV} (hσ : ∀ v, v.noref = true → σ v = v) : ∀ {cs : List AV}, AV.norefs cs = true → AV.deeps σ cs = cs
  | [], _ => rfl
  | c :: cs, h => by
    simp only [AV.norefs, Bool.and_eq_true] at h
    rw [AV.deeps, deep_fix hσ _ c (Nat.le_refl _) h.1, deeps_fix hσ h.2]
theorem snap_fix (M : Mem) (v : AV) (h : v.noref = true) : snap M v = v := by cases v <;> first | rfl | cases h
theorem toIa_fix (i : Nat) (cs : List AV) (v : AV) (h : v.noref = true) : toIa i cs v = v := by cases v <;> first | rfl | cases h
theorem deeps_snap {cs : List AV} (h : AV.norefs cs = true) (M : Mem) : AV.deeps (snap M) cs = cs := deeps_fix (snap_fix M) h
theorem deeps_toIa {cs : List AV} (h : AV.norefs cs = true) (i : Nat) (ds : List AV) : AV.deeps (toIa i ds) cs = cs := deeps_fix (toIa_fix i ds) h

section
variable {α : Type}
def upd1 (f : Nat → α) (t : Nat) (x : α) : Nat → α := fun k => if k = t then x else f k
def upd2 (W : Nat → Nat → α) (s t : Nat) (x : α) : Nat → Nat → α := fun a b => if a = s ∧ b = t then x else W a b
def gcells (C : α → List AV) (f : Nat → α) (m : Nat) : List (List AV) := (List.range m).map fun t => C (f t)
theorem gcells_len (C : α → List AV) (f : Nat → α) (m : Nat) : (gcells C f m).length = m := by simp [gcells]
theorem gcells_get (C : α → List AV) (f : Nat → α) {m t : Nat} (h : t < m) : (gcells C f m)[t]? = some (C (f t)) := by rw [gcells, List.getElem?_map, List.getElem?_range h]; rfl
theorem gcells_norefs {C : α → List AV} (hC : ∀ x, AV.norefs (C x) = true) (f : Nat → α) (m : Nat) : (gcells C f m).all AV.norefs = true := by simp [List.all_eq_true, gcells, hC]
theorem gcells_all {C : α → List AV} {e : Nat} (hC : ∀ x, (C x).length = e) (f : Nat → α) (m : Nat) : ((gcells C f m).all fun y => decide (y.length = e)) = true := by simp [List.all_eq_true, gcells, hC]
theorem gcells_const (C : α → List AV) (x : α) (m : Nat) : List.replicate m (C x) = gcells C (fun _ => x) m :=
  List.ext_getElem (by simp [gcells]) fun i h1 h2 => by simp [gcells]
theorem gcells_congr (C : α → List AV) {f g : Nat → α} {m : Nat} (h : ∀ t, t < m → f t = g t) : gcells C f m = gcells C g m :=
  List.map_congr_left fun t ht => by rw [h t (List.mem_range.1 ht)]
theorem range_set {β : Type} (f : Nat → β) {n s : Nat} (x : β) (h : s < n) : ((List.range n).map f).set s x = (List.range n).map fun i => if i = s then x else f i := by
  refine List.ext_getElem (by simp) fun i h1 h2 => ?_
  simp only [List.getElem_set, List.getElem_map, List.getElem_range]
  by_cases e : s = i
  · subst e; simp
  · rw [if_neg e, if_neg (Ne.symm e)]
theorem gcells_set (C : α → List AV) (f : Nat → α) {m t : Nat} (x : α) (h : t < m) : (gcells C f m).set t (C x) = gcells C (upd1 f t x) m := by
  rw [gcells, range_set _ _ h, gcells]
  refine List.map_congr_left fun k _ => ?_
  by_cases e : k = t
  · subst e; simp [upd1]
  · simp [upd1, e]
theorem gcells_snoc (C : α → List AV) (f : Nat → α) (m : Nat) : gcells C f m ++ [C (f m)] = gcells C f (m + 1) := by simp [gcells, List.range_succ]

/-- The cells of the outer slice: each row a slice of its own. -/
def mcell (m n : Nat) : List (List AV) := (List.range n).map fun s => [.tv s m 0 m (.val m)]
theorem mcell_len (m n : Nat) : (mcell m n).length = n := by simp [mcell]
theorem mcell_get {m n s : Nat} (h : s < n) : (mcell m n)[s]? = some [.tv s m 0 m (.val m)] := by rw [mcell, List.getElem?_map, List.getElem?_range h]; rfl
theorem mcell_succ (m n : Nat) : mcell m n ++ [[.tv n m 0 m (.val m)]] = mcell m (n + 1) := by simp [mcell, List.range_succ]
theorem mcell_ren {m n : Nat} {K : List (Nat × Nat)} (h : ∀ s, s < n → rlook K s = some s) : (mcell m n).map (fun c => c.map (AV.ren K)) = mcell m n := by
  rw [mcell, List.map_map]
  refine List.map_congr_left fun s hs => ?_
  simp only [Function.comp, List.map_cons, List.map_nil, AV.ren, AV.noref, Bool.false_eq_true, if_false, AV.deep, renLeaf, h s (List.mem_range.1 hs)]
theorem mcell_snap {m n e : Nat} {M : Mem} {row : Nat → List (List AV)} (h : ∀ s, s < n → mlook M s = some (.arr e (row s) true)) (hl : ∀ s, s < n → (row s).length = m) : (mcell m n).map (fun c => c.map (AV.deep (snap M))) = (List.range n).map fun s => [.sl false (row s) .full] := by
  rw [mcell, List.map_map]
  refine List.map_congr_left fun s hs => ?_
  have hs := List.mem_range.1 hs
  have e2 : tvEs (row s) m 0 m = row s := by simp [tvEs]
  simp only [Function.comp, List.map_cons, List.map_nil, AV.deep, snap, h s hs, hl s hs, if_true, e2, tvCap]

/-- Some rows made, the others nil. -/
def mpart (m n s : Nat) : List (List AV) := mcell m s ++ List.replicate (n - s) [.sl true [] .zer]
theorem mpart_len {m n s : Nat} (h : s ≤ n) : (mpart m n s).length = n := by simp [mpart, mcell_len]; omega
theorem mpart_zero (m n : Nat) : mpart m n 0 = List.replicate n [.sl true [] .zer] := by simp [mpart, mcell]
theorem mpart_all (m n : Nat) : mpart m n n = mcell m n := by simp [mpart]
theorem mpart_get {m n s : Nat} (h : s < n) : (mpart m n s)[s]? = some [.sl true [] .zer] := by
  rw [mpart, List.getElem?_append_right (by rw [mcell_len]; omega), mcell_len, Nat.sub_self, List.getElem?_replicate, if_pos (by omega)]
theorem mpart_ren {m n s k : Nat} {K : List (Nat × Nat)} (h : s < n) (hk : rlook K k = some s) (hK : ∀ j, j < s → rlook K j = some j) : ((mpart m n s).set s [.tv k m 0 m (.val m)]).map (fun c => c.map (AV.ren K)) = mpart m n (s + 1) := by
  obtain ⟨d, hd⟩ : ∃ d, n - s = d + 1 := ⟨n - s - 1, by omega⟩
  have hd' : n - (s + 1) = d := by omega
  rw [mpart, List.set_append_right _ _ (by rw [mcell_len]; omega), mcell_len, Nat.sub_self, hd, List.replicate_succ, List.set_cons_zero, List.map_append, mcell_ren hK, List.map_cons, mpart, hd', ← mcell_succ, List.append_assoc]
  congr 1
  simp [AV.ren, AV.noref, AV.deep, renLeaf, hk]
theorem mpart_same {m n s : Nat} {K : List (Nat × Nat)} (hK : ∀ j, j < s → rlook K j = some j) : (mpart m n s).map (fun c => c.map (AV.ren K)) = mpart m n s := by
  rw [mpart, List.map_append, mcell_ren hK]
  congr 1
  simp [AV.ren, AV.noref]
theorem mpart_norefs {m n s k : Nat} (h : s < n) : ((mpart m n s).set s [.tv k m 0 m (.val m)]).all AV.norefs = false := by
  rw [List.all_eq_false]
  refine ⟨[.tv k m 0 m (.val m)], ?_, by simp [AV.norefs, AV.noref]⟩
  rw [List.mem_iff_getElem]
  exact ⟨s, by rw [List.length_set, mpart_len (Nat.le_of_lt h)]; exact h, by simp⟩
def grow (e : Nat) (C : α → List AV) (W : Nat → Nat → α) (m s : Nat) : RObj := .arr e (gcells C (W s) m) false
/-- The rows, as objects. -/
def gtab (e : Nat) (C : α → List AV) (W : Nat → Nat → α) (n m : Nat) : Mem := mseg ((List.range n).map (grow e C W m))
theorem gtab_zero (e : Nat) (C : α → List AV) (W : Nat → Nat → α) (m : Nat) : gtab e C W 0 m = [] := rfl
theorem gtab_look (e : Nat) (C : α → List AV) (W : Nat → Nat → α) {n m s : Nat} (h : s < n) : mlook (gtab e C W n m) s = some (.arr e (gcells C (W s) m) false) := by
  rw [gtab, mlook_mseg, List.getElem?_map, List.getElem?_range h]; rfl
theorem gtab_set (e : Nat) (C : α → List AV) (W : Nat → Nat → α) {n m s t : Nat} (x : α) (hs : s < n) (ht : t < m) : mset (gtab e C W n m) s (.arr e ((gcells C (W s) m).set t (C x)) false) = gtab e C (upd2 W s t x) n m := by
  rw [gtab, mset_mseg _ (by simpa using hs), range_set _ _ hs, gcells_set C _ x ht, gtab]
  congr 1
  refine List.map_congr_left fun i _ => ?_
  by_cases e2 : i = s
  · subst e2; rw [if_pos rfl, grow]
    congr 1
    refine gcells_congr C fun k _ => ?_
    simp [upd1, upd2]
  · rw [if_neg e2, grow, grow]
    congr 1
    refine gcells_congr C fun k _ => ?_
    simp [upd2, e2]
theorem gtab_set_hi (e : Nat) (C : α → List AV) (W : Nat → Nat → α) {n m s t k : Nat} (x : α) (hs : s < n) (ht : t < m) (hn : n ≤ 1000000) (hk : 1000000 ≤ k) (o : RObj) : mset (mset (gtab e C W n m) k o) s (.arr e ((gcells C (W s) m).set t (C x)) false) = mset (gtab e C (upd2 W s t x) n m) k o := by
  rw [mset_comm (by rw [gtab_look e C W hs]; rfl) (by omega), gtab_set e C W x hs ht]
theorem gtab_ren (e : Nat) {C : α → List AV} (hC : ∀ x, AV.norefs (C x) = true) (W : Nat → Nat → α) (n m : Nat) (K : List (Nat × Nat)) : renMem (gtab e C W n m) K (idK n) = gtab e C W n m := by
  rw [gtab, renMem_seg K (by simp), List.map_map]
  congr 1
  refine List.map_congr_left fun s _ => ?_
  simp only [Function.comp, grow, RObj.ren, gcells_norefs hC, if_true]
theorem gtab_snoc (e : Nat) (C : α → List AV) (W : Nat → Nat → α) (n m : Nat) : gtab e C W n m ++ [(n, .arr e (gcells C (W n) m) false)] = gtab e C W (n + 1) m := by
  rw [gtab, mseg_snoc _ _ (n := n) (by simp), gtab, List.range_succ, List.map_append]; rfl
theorem gtab_snoc1 (e : Nat) (C : α → List AV) (x : α) (n m : Nat) : gtab e C (fun _ _ => x) n m ++ [(n, .arr e (gcells C (fun _ => x) m) false)] = gtab e C (fun _ _ => x) (n + 1) m := gtab_snoc e C (fun _ _ => x) n m
/-- The same, frozen. -/
def gtabF (e : Nat) (C : α → List AV) (W : Nat → Nat → α) (n m : Nat) : Mem := mseg ((List.range n).map fun s => (grow e C W m s).fzn)
theorem gtab_fz (e : Nat) (C : α → List AV) (W : Nat → Nat → α) (n m : Nat) : fzAll n (gtab e C W n m) = gtabF e C W n m := by
  rw [gtab, fzAll_seg (by simp), List.map_map]; rfl
theorem gtabF_look (e : Nat) (C : α → List AV) (W : Nat → Nat → α) {n m s : Nat} (h : s < n) : mlook (gtabF e C W n m) s = some (.arr e (gcells C (W s) m) true) := by
  rw [gtabF, mlook_mseg, List.getElem?_map, List.getElem?_range h]; rfl
end
end Go.Avl
namespace Go.Avl
open Go

def retB (P : Program) (fr : Fr) (results : List ResultVar) (R : AV → Mem → Nat → Prop) : Exit → St → Prop :=
  fun e st => (e = .ret ∨ e = .normal) ∧ ∃ rs, resAllR P fr st results = some rs ∧ R (mkRes rs) st.mem st.nx
def BodyIs (P : Program) (f : FuncId) (args : List AV) (M : Mem) (nx : Nat) (R : AV → Mem → Nat → Prop) : Prop :=
  ∃ fn c nv hid, P.funcs[f]? = some fn ∧ fn.body = some c ∧ (fn.name == "runtime.NumGoroutine") = false ∧ args.length ≤ fn.ntmps ∧
    ∀ h0 : Nat, EvC P ⟨nx, nv, hid, fn.ntmps⟩ none ⟨h0, none, false⟩ c ⟨vars0 0 args, [], M, nx⟩ (retB P ⟨nx, nv, hid, fn.ntmps⟩ fn.results.toList R)

section
variable {P : Program} {fr : Fr} {ro : Option Nat} {ds : DS} {st st' : St} {Q Q' : Exit → St → Prop} {c : Code} {M : Mem} {ops : Array Oper} {l rest : List Oper} {o : Oper}

theorem BodyIs.of {f : FuncId} {fn : Func} {args : List AV} {nx nv : Nat} {hid : List Nat} {R : AV → Mem → Nat → Prop} (hf : P.funcs[f]? = some fn) (hb : fn.body = some c) (hnm : (fn.name == "runtime.NumGoroutine") = false) (hsz : args.length ≤ fn.ntmps)
    (h : ∀ h0 : Nat, EvC P ⟨nx, nv, hid, fn.ntmps⟩ none ⟨h0, none, false⟩ c ⟨vars0 0 args, [], M, nx⟩ (retB P ⟨nx, nv, hid, fn.ntmps⟩ fn.results.toList R)) : BodyIs P f args M nx R :=
  ⟨fn, c, nv, hid, hf, hb, hnm, hsz, h⟩
theorem BodyIs.mono {f : FuncId} {args : List AV} {nx : Nat} {R R' : AV → Mem → Nat → Prop} (h : BodyIs P f args M nx R) (hr : ∀ r M nx, R r M nx → R' r M nx) : BodyIs P f args M nx R' := by
  obtain ⟨fn, c, nv, hid, h1, h2, h3, h4, h5⟩ := h
  exact ⟨fn, c, nv, hid, h1, h2, h3, h4, fun h0 => (h5 h0).mono fun e st ⟨k1, rs, k2, k3⟩ => ⟨k1, rs, k2, hr _ _ _ k3⟩⟩
theorem XR.callI {f : FuncId} {cs : List AV} {callee : Operand} {args : Array Operand} {tys : Array TypeId} {xs : List AV} (hg : o.guard = none) (hop : o.op = .call ⟨.value callee, args, tys⟩) (hd : dok fr o.dst = true)
    (hcal : od fr st true callee = .fn f cs) (hxs : bodyArgs fr st args ++ cs = xs)
    (hb : BodyIs P f xs st.mem st.nx fun r M' nx' => XR P fr ro ds ops rest ((⟨st.vars, st.tmps, M', nx'⟩ : St).put fr o.dst r) Q) : XR P fr ro ds ops (o :: rest) st Q := by
  obtain ⟨fn, c, nv, hid, h1, h2, h3, h4, h5⟩ := hb
  exact XR.callB nv hid hg hop hd hcal hxs h1 h2 h3 h4 fun h0 => (h5 h0).mono fun e st ⟨k1, rs, k2, k3⟩ => ⟨k1, rs, k2, k3⟩
theorem XR.callIG {j k : Nat} {want : Bool} {f : FuncId} {cs : List AV} {callee : Operand} {args : Array Operand} {tys : Array TypeId} {xs : List AV} (hg : o.guard = some (j, want)) (hj : gslot ops j = some k) (hk : gval want (st.get fr k) = some true)
    (hop : o.op = .call ⟨.value callee, args, tys⟩) (hd : dok fr o.dst = true)
    (hcal : od fr st true callee = .fn f cs) (hxs : bodyArgs fr st args ++ cs = xs)
    (hb : BodyIs P f xs st.mem st.nx fun r M' nx' => XR P fr ro ds ops rest ((⟨st.vars, st.tmps, M', nx'⟩ : St).put fr o.dst r) Q) : XR P fr ro ds ops (o :: rest) st Q :=
  fun _ _ _ _ _ _ a w S s => by
    have hw := wanted_ok s hg hj hk
    simp only [wpListIn, hw, if_true]
    obtain ⟨fn, c, nv, hid, h1, h2, h3, h4, h5⟩ := hb
    exact s.callB (R := fun r M' nx' => XR P fr ro ds ops rest ((⟨st.vars, st.tmps, M', nx'⟩ : St).put fr o.dst r) Q) hop (dok_spec hd) hcal hxs h1 h2 h3 h4 h5
      fun _ _ _ _ _ _ _ hR s' S' => hR _ _ _ _ _ _ _ _ (S.trans (by rw [St.put_mem]; exact S'.mono fun _ _ => trivial)) s'
end
attribute [go_sem] resAllR resOneR bodyArgs
end Go.Avl
namespace Go.Avl
open Go

/-- Elements, and zero values as far as there is room. -/
def roomL (m : Nat) (z : List AV) (xs : List (List AV)) : List (List AV) := xs ++ List.replicate (m - xs.length) z
theorem roomL_len {m : Nat} {z : List AV} {xs : List (List AV)} (h : xs.length ≤ m) : (roomL m z xs).length = m := by simp [roomL]; omega
theorem roomL_nil (m : Nat) (z : List AV) : roomL m z [] = List.replicate m z := by simp [roomL]
theorem roomL_full {m : Nat} {z : List AV} {xs : List (List AV)} (h : xs.length = m) : roomL m z xs = xs := by simp [roomL, h]
theorem roomL_app {m : Nat} {z : List AV} {xs : List (List AV)} (y : List AV) (h : xs.length < m) : (roomL m z xs).take xs.length ++ y :: (roomL m z xs).drop (xs.length + 1) = roomL m z (xs ++ [y]) := by
  obtain ⟨d, hd⟩ : ∃ d, m - xs.length = d + 1 := ⟨m - xs.length - 1, by omega⟩
  have hd' : m - (xs.length + 1) = d := by omega
  have e1 : (roomL m z xs).take xs.length = xs := by simp [roomL]
  have e2 : (roomL m z xs).drop (xs.length + 1) = List.replicate d z := by
    rw [roomL, hd, List.replicate_succ, List.drop_append]
    simp
  rw [e1, e2, roomL, List.length_append, List.length_singleton, hd', List.append_assoc]; rfl
theorem roomL_get {m : Nat} {z : List AV} {xs : List (List AV)} {i : Nat} (h : i < xs.length) : (roomL m z xs)[i]? = xs[i]? := by
  rw [roomL, List.getElem?_append_left h]
theorem roomL_norefs {m : Nat} {z : List AV} {xs : List (List AV)} (hz : AV.norefs z = true) (h : xs.all AV.norefs = true) : (roomL m z xs).all AV.norefs = true := by
  simp only [roomL, List.all_append, h, Bool.true_and, List.all_replicate, hz]
  simp
theorem roomL_take {m : Nat} {z : List AV} {xs : List (List AV)} : (roomL m z xs).take xs.length = xs := by simp [roomL]
end Go.Avl
namespace Go.Avl
open Go

/-- Each operation has another one behind it that waits for it: one of the list, or the last one. -/
def ancOk (last : List Nat) : Nat → List It → Bool
  | _, [] => true
  | i, _ :: l => (last.contains i || l.any fun u => (depsOf u.o).contains i) && ancOk last (i + 1) l
section
variable {P : Program} {fr : Fr} {ro : Option Nat} {ds : DS} {st st' : St} {Q : Exit → St → Prop} {G G' : Nat → Option Value} {F F' : Nat → Nat → Prop} {a : Act} {w w' : World}
  {M M' : Mem} {ops : Array Oper} {o : Oper} {id N : Nat} {S S' : Nat → Bool} {d : Option Nat} {r : Rc} {x y : Nat} {l : List It}

theorem ancOk_spec {last : List Nat} : ∀ (l : List It) (i0 : Nat), ancOk last i0 l = true → ∀ i, i < l.length → i0 + i ∈ last ∨ ∃ (m : Nat) (t : It), i < m ∧ l[m]? = some t ∧ i0 + i ∈ depsOf t.o := by
  intro l
  induction l with
  | nil => intro i0 _ i hi; simp at hi
  | cons t l ih =>
    intro i0 h i hi
    simp only [ancOk, Bool.and_eq_true, Bool.or_eq_true, List.contains_iff_mem, List.any_eq_true] at h
    obtain ⟨h1, h2⟩ := h
    cases i with
    | zero =>
      rcases h1 with h1 | ⟨u, hu, hd⟩
      · exact .inl h1
      · obtain ⟨m, hm, rfl⟩ := List.getElem_of_mem hu
        exact .inr ⟨m + 1, l[m], by omega, by simp [List.getElem?_eq_getElem hm], hd⟩
    | succ i =>
      rcases ih (i0 + 1) h2 i (by simpa using hi) with h | ⟨m, u, hm, hu, hd⟩
      · exact .inl (by rw [show i0 + (i + 1) = i0 + 1 + i by omega]; exact h)
      · exact .inr ⟨m + 1, u, by omega, by simpa using hu, by rw [show i0 + (i + 1) = i0 + 1 + i by omega]; exact hd⟩

theorem drawAnyL {nx : Nat} {ol : Oper} {l : List It} {st : St} {G0 : Nat → Option Value} {F0 : Nat → Nat → Prop} {M0 : Mem} {w0 : World} (hops : ∀ i : Nat, i < l.length → (ops[i]? : Option Oper) = (l[i]?).map fun t => t.o) (hol : ops[l.length]? = some ol) (hn : ops.size = l.length + 1) (hc : Conf l)
    (hlb : ∀ e ∈ depsOf ol, e < l.length) (hanc : ∀ i, i < l.length → i ∈ depsOf ol ∨ ∃ (m : Nat) (t : It), i < m ∧ l[m]? = some t ∧ i ∈ depsOf t.o)
    (his : ∀ i t, l[i]? = some t → OpIs P fr ro ds ops (nx + i) (foldS fr (fun j => decide (j < i)) 0 l st) t)
    (hQ : ∀ G F a w, SimD P fr ds G F (foldS fr (fun _ => true) 0 l st) (nx + l.length) a w → (∀ j, nx + l.length ≤ j → G j = none) → Step (· < fr.base) G0 F0 M0 w0 G F (foldS fr (fun _ => true) 0 l st).mem w →
      if Region.wanted ol (yielded ops a.tmps) = true then ol.wpIn (fc ro) 0 P a w (Post P fr ds G0 F0 M0 w0 Q .normal) (Post P fr ds G0 F0 M0 w0 Q) else (∀ f, ol.about P w a.eval = some f → (fc ro).fn f) ∧ Post P fr ds G0 F0 M0 w0 Q .normal (a.put ol.dst undef) w) :
    ∀ (fuel : Nat) (listed : Array Bool) (G : Nat → Option Value) (F : Nat → Nat → Prop) (a : Act) (w : World), listed.size = l.length + 1 → inS listed l.length = false →
      SimD P fr ds G F (foldS fr (inS listed) 0 l st) (nx + l.length) a w → Step (· < fr.base) G0 F0 M0 w0 G F (foldS fr (inS listed) 0 l st).mem w →
      (∀ j, nx ≤ j → (∀ i, i < l.length → inS listed i = true → j ≠ nx + i) → G j = none) →
      (∀ i t, l[i]? = some t → inS listed i = true → ∀ e ∈ depsOf t.o, inS listed e = true) →
      (List.range l.length).countP (fun i => !inS listed i) + 1 ≤ fuel →
      wpAnyIn (fc ro) 0 P .any ops (Post P fr ds G0 F0 M0 w0 Q) fuel listed a w := by
  have readyOf : ∀ (listed : Array Bool), listed.size = l.length + 1 → ∀ i, i < l.length → (i ∈ Region.ready .any ops listed ↔ inS listed i = false ∧ ∃ t, l[i]? = some t ∧ ∀ e ∈ depsOf t.o, inS listed e = true) := by
    intro listed hsz i hi
    rw [mem_ready]
    constructor
    · rintro ⟨h1, o, ho, h2⟩
      rw [hops i hi] at ho
      obtain ⟨t, ht, rfl⟩ := Option.map_eq_some_iff.1 ho
      refine ⟨?_, t, ht, fun e he => ?_⟩
      · unfold inS
        rw [Array.getD_eq_getD_getElem?] at h1 ⊢
        rw [Array.getElem?_eq_getElem (by omega)] at h1 ⊢
        exact h1
      · simp only [depsOf, List.mem_map, List.mem_filter] at he
        obtain ⟨e', ⟨he1, he2⟩, rfl⟩ := he
        exact h2 e' (by simpa using he1) he2
    · rintro ⟨h1, t, ht, h2⟩
      refine ⟨?_, t.o, by rw [hops i hi, ht]; rfl, fun e he hb => h2 e.on ?_⟩
      · unfold inS at h1
        rw [Array.getD_eq_getD_getElem?] at h1 ⊢
        rw [Array.getElem?_eq_getElem (by omega)] at h1 ⊢
        exact h1
      · simp only [depsOf, List.mem_map, List.mem_filter]
        exact ⟨e, ⟨by simpa using he, hb⟩, rfl⟩
  have readyL : ∀ (listed : Array Bool), listed.size = l.length + 1 → inS listed l.length = false → ((∀ e ∈ depsOf ol, inS listed e = true) → l.length ∈ Region.ready .any ops listed) ∧ (l.length ∈ Region.ready .any ops listed → ∀ e ∈ depsOf ol, inS listed e = true) := by
    intro listed hsz hl0
    refine ⟨fun h2 => ?_, fun h => ?_⟩
    · rw [mem_ready]
      refine ⟨?_, ol, hol, fun e he hb => h2 e.on ?_⟩
      · unfold inS at hl0
        rw [Array.getD_eq_getD_getElem?] at hl0 ⊢
        rw [Array.getElem?_eq_getElem (by omega)] at hl0 ⊢
        exact hl0
      · simp only [depsOf, List.mem_map, List.mem_filter]
        exact ⟨e, ⟨by simpa using he, hb⟩, rfl⟩
    · rw [mem_ready] at h
      obtain ⟨_, o, ho, h2⟩ := h
      rw [hol] at ho
      cases ho
      intro e he
      simp only [depsOf, List.mem_map, List.mem_filter] at he
      obtain ⟨e', ⟨he1, he2⟩, rfl⟩ := he
      exact h2 e' (by simpa using he1) he2
  have readyLt : ∀ (listed : Array Bool) (i : Nat), i ∈ Region.ready .any ops listed → i ≤ l.length := by
    intro listed i hi
    rw [mem_ready] at hi
    obtain ⟨_, o, ho, _⟩ := hi
    have := (Array.getElem?_eq_some_iff.1 ho).1
    omega
  have noneReady : ∀ (listed : Array Bool), listed.size = l.length + 1 → Region.ready .any ops listed = [] → ∀ i, i < l.length → inS listed i = true := by
    intro listed hsz hr i
    induction i using Nat.strongRecOn with
    | _ i ih =>
      intro hi
      cases hs : inS listed i with
      | true => rfl
      | false =>
        have : i ∈ Region.ready .any ops listed := (readyOf listed hsz i hi).2 ⟨hs, l[i], List.getElem?_eq_getElem hi, fun e he => by
          have := hc.back i l[i] (List.getElem?_eq_getElem hi) e he
          exact ih e this (by omega)⟩
        rw [hr] at this; cases this
  intro fuel
  induction fuel with
  | zero =>
    intro listed G F a w hsz hl0 s S hfr hcl hcount
    omega
  | succ fuel ih =>
    intro listed G F a w hsz hl0 s S hfr hcl hcount
    refine ⟨fun hr => ?_, fun i hi => ?_⟩
    · have hall := noneReady listed hsz hr
      have := (readyL listed hsz hl0).1 fun e he => hall e (hlb e he)
      rw [hr] at this; cases this
    by_cases hil : i < l.length
    rotate_left
    · obtain rfl : i = l.length := by have := readyLt listed i hi; omega
      have hd := (readyL listed hsz hl0).2 hi
      have hall : ∀ k i, i < l.length → l.length - i ≤ k → inS listed i = true := by
        intro k
        induction k with
        | zero => intro i h1 h2; omega
        | succ k ihk =>
          intro i h1 h2
          rcases hanc i h1 with h | ⟨m, t, hm, ht, hd'⟩
          · exact hd i h
          · have hml : m < l.length := (List.getElem?_eq_some_iff.1 ht).1
            exact hcl m t ht (ihk m hml (by omega)) i hd'
      have hall : ∀ i, i < l.length → inS listed i = true := fun i h => hall l.length i h (by omega)
      have e : foldS fr (inS listed) 0 l st = foldS fr (fun _ => true) 0 l st := foldS_congr fun m hm => by rw [Nat.zero_add]; exact hall m hm
      rw [e] at s S
      have hq := hQ G F a w s (fun j hj => hfr j (by omega) fun i hi _ => by omega) S
      have hend : ∀ a w, Post P fr ds G0 F0 M0 w0 Q .normal a w → wpAnyIn (fc ro) 0 P .any ops (Post P fr ds G0 F0 M0 w0 Q) fuel (listed.setIfInBounds l.length true) a w := fun a w h => by
        refine wpAnyIn_done ?_ h fuel
        cases hr : Region.ready .any ops (listed.setIfInBounds l.length true) with
        | nil => rfl
        | cons i rs =>
          exfalso
          have hi : i ∈ Region.ready .any ops (listed.setIfInBounds l.length true) := by rw [hr]; exact List.mem_cons_self
          have hile := readyLt _ i hi
          rw [mem_ready] at hi
          have h1 := hi.1
          rw [Array.getD_eq_getD_getElem?, Array.getElem?_setIfInBounds] at h1
          by_cases hie : l.length = i
          · subst hie
            rw [if_pos rfl, if_pos (by omega)] at h1
            cases h1
          · rw [if_neg hie] at h1
            have := hall i (by omega)
            unfold inS at this
            rw [Array.getD_eq_getD_getElem?] at this
            rw [Array.getElem?_eq_getElem (by omega)] at h1 this
            simp only [Option.getD_some] at h1 this
            rw [this] at h1; cases h1
      unfold wpOpIn
      rw [hol]
      simp only
      split at hq
      · rename_i hw
        rw [if_pos hw]
        exact Oper.wpIn_mono hend hq
      · rename_i hw
        rw [if_neg hw]
        exact ⟨hq.1, hend _ _ hq.2⟩
    obtain ⟨hSi, t, ht, hdep⟩ := (readyOf listed hsz i hil).1 hi
    unfold wpOpIn
    rw [hops i hil, ht]
    simp only [Option.map_some]
    have hadd : ∀ j, inS (listed.setIfInBounds i true) j = addS (inS listed) i j := by
      intro j
      unfold inS addS
      simp only [Array.getD_eq_getD_getElem?, Array.getElem?_setIfInBounds]
      by_cases h : i = j
      · subst h
        simp [show i < listed.size by omega]
      · simp [h, Ne.symm h]
    have hfold : foldS fr (inS (listed.setIfInBounds i true)) 0 l st = foldS fr (addS (inS listed) i) 0 l st := foldS_congr fun m _ => hadd _
    have hlook : ∀ x, look fr (foldS fr (inS (listed.setIfInBounds i true)) 0 l st) x = look fr (run1 fr t.o.dst t.r (foldS fr (inS listed) 0 l st)) x := by
      intro x
      rw [hfold]
      refine foldS_add ht hSi (fun m u hu hlt hSm x hx => ?_) x
      cases hw : wrt u.o.dst u.r x with
      | none => rfl
      | some v =>
        exfalso
        rcases hc.edge i m t u ht hu (by omega) x (.inr (wrt_wl hx)) (wrt_wl (by rw [hw]; rfl)) with h | h
        · have := hc.back i t ht m h; omega
        · have := hcl m u hu hSm i h
          rw [hSi] at this; cases this
    refine his i t ht _ G F a w (nx + l.length) _ _ s (by omega) (hfr _ (by omega) fun i' _ hS' he => ?_) (fun x hx => ?_) (fun G' F' a' w' s' S' hfr' => ?_)
    · have : i = i' := by omega
      subst this
      rw [hSi] at hS'; cases hS'
    · rw [look_foldS, look_foldS]
      refine lastW_agree l 0 _ fun m u hu hw => ?_
      rw [Nat.zero_add]
      by_cases hmi : m = i
      · subst hmi; rw [hSi]; simp
      · rcases hc.edge i m t u ht hu (fun h => hmi h.symm) x (.inl hx) (wrt_wl hw) with h | h
        · have := hc.back i t ht m h
          rw [hdep m h]; simp [this]
        · have h1 := hc.back m u hu i h
          cases hSm : inS listed m with
          | false => simp; omega
          | true =>
            have := hcl m u hu hSm i h
            rw [hSi] at this; cases this
    · refine ih _ G' F' a' w' (by simpa using hsz) (by rw [hadd]; simp [addS, hl0]; omega) (s'.ext hlook) ((S.trans (S'.mono fun _ _ => trivial)).ext (look_mem hlook)) (fun j hj hne => ?_) (fun i' t' ht' hS' e he => ?_) ?_
      · refine hfr' j (hne i hil (by rw [hadd]; simp [addS])) (hfr j hj fun i' hi' hS' => hne i' hi' (by rw [hadd]; simp [addS, hS']))
      · rw [hadd] at hS' ⊢
        simp only [addS, Bool.or_eq_true, decide_eq_true_eq] at hS' ⊢
        rcases hS' with hS' | rfl
        · exact .inl (hcl i' t' ht' hS' e he)
        · rw [ht] at ht'; cases ht'
          exact .inl (hdep e he)
      · have := countP_less (p := fun i => !inS listed i) (q := fun j => !inS (listed.setIfInBounds i true) j) hil (by simp [hSi]) (by simp only [hadd]; simp [addS]) (fun j hj => by
          rw [hadd] at hj
          simp only [addS, Bool.not_or, Bool.and_eq_true] at hj
          exact hj.1)
        omega


/-- A region that draws its order; its last operation by any rule. -/
theorem EvC.drawL {idr : Nat} {l : List Oper} {ol : Oper} {its : List It} (hm : P.follows .mixedOrders = true) (ht : Tr P fr ro ds (l ++ [ol]).toArray st.nx l st.clr its st') (hc : confAll its 0 its = true)
    (hlb : (depsOf ol).all (fun e => decide (e < its.length)) = true) (hanc : ancOk (depsOf ol) 0 its = true)
    (hq : XR P fr ro ds (l ++ [ol]).toArray [ol] ⟨st'.vars, st'.tmps, st'.mem, st.nx + its.length⟩ Q) : EvC P fr ro ds (.region idr (l ++ [ol]).toArray true) st Q := by
  intro G0 F0 M0 w0 G F a w S s
  obtain ⟨h1, h2, h3⟩ := ht.spec
  obtain ⟨hm', S'⟩ := simM_drew (w' := { w with drawn := w.drawn + 1 }) (s.clr.sim.mem.more (Nat.le_add_right _ its.length)) rfl ⟨rfl, rfl, rfl, fun _ => rfl⟩
  have hlen : l.length = its.length := by rw [← h1]; simp
  refine wpIn_region_any hm ?_
  have hnone : ∀ i, inS (Array.replicate (l ++ [ol]).toArray.size false) i = false := fun i => by
    unfold inS
    simp only [Array.getD_eq_getD_getElem?, Array.getElem?_replicate]
    split <;> rfl
  have e : foldS fr (inS (Array.replicate (l ++ [ol]).toArray.size false)) 0 its st.clr = st.clr := by
    have : ∀ (l' : List It) (m : Nat) (st : St), foldS fr (inS (Array.replicate (l ++ [ol]).toArray.size false)) m l' st = st := by
      intro l'
      induction l' with
      | nil => intro m st; rfl
      | cons u l' ih => intro m st; simp only [foldS]; rw [hnone]; exact ih _ _
    exact this _ _ _
  refine drawAnyL (ol := ol) (l := its) (nx := st.nx) (st := st.clr) (fun i hi => ?_) (by rw [← hlen]; simp) (by simp [hlen]) (.of hc) (fun e he => by
    rw [List.all_eq_true] at hlb
    exact of_decide_eq_true (hlb e he)) (fun i hi => by
    have := ancOk_spec its 0 hanc i hi
    simpa using this) h2 (fun G F a w s hfr S => ?_) _ _ G F a _ (by simp [hlen]) (hnone _) ?_ ?_ (fun j hj _ => s.fresh j hj) (fun i t _ h => by rw [hnone] at h; cases h) ?_
  · rw [List.getElem?_toArray, List.getElem?_append_left (by omega), ← h1]; simp
  · have hx := hq G0 F0 M0 w0 G F a w (by rw [← h3] at S; exact S) ⟨⟨by rw [h3]; exact s.mem, fun k => by
      have := s.slots k
      rw [← h3] at this
      exact this, s.size⟩, hfr, s.defers⟩
    simp only [wpListIn] at hx
    exact hx
  · rw [e]
    exact ⟨hm', fun k => (s.clr.sim.slots k).step S' (fun _ _ => trivial), s.clr.sim.size, s.clr.defers⟩
  · rw [e]; exact S.trans (S'.mono fun _ _ => trivial)
  · have : (List.range its.length).countP (fun i => !inS (Array.replicate (l ++ [ol]).toArray.size false) i) ≤ its.length := by
      refine Nat.le_trans List.countP_le_length (by simp)
    simp [hlen] at this ⊢
    omega

theorem trun_pre {all : List Oper} : ∀ {l : List Oper} {id : Nat} {st : St} {ok : Bool} {its : List It} {st' : St} {rest : List Oper} {id' : Nat}, trun P fr all l id st = .stop ok its st' rest id' → ok = true →
    ∃ pre, l = pre ++ rest ∧ id' = id + its.length ∧ Tr P fr ro ds all.toArray id pre st its st'
  | [], id, st, ok, its, st', rest, id', h, _ => by simp only [trun] at h; cases h
  | o :: l, id, st, ok, its, st', rest, id', h, hok => by
    have stopCase : trun P fr all (o :: l) id st = .stop true [] st (o :: l) id → ∃ pre, o :: l = pre ++ rest ∧ id' = id + its.length ∧ Tr P fr ro ds all.toArray id pre st its st' := fun h1 => by
      rw [h1] at h; cases h
      exact ⟨[], rfl, rfl, .nil _ _⟩
    have goCase : ∀ {b : Bool} {r : Rc} {rd : List Nat}, trun P fr all (o :: l) id st = (trun P fr all l (id + 1) (run1 fr o.dst r st)).cons b ⟨o, r, rd⟩ →
        (b = true → OpIs P fr ro ds all.toArray id st ⟨o, r, rd⟩) → ∃ pre, o :: l = pre ++ rest ∧ id' = id + its.length ∧ Tr P fr ro ds all.toArray id pre st its st' := by
      intro b r rd h1 h2
      rw [h1] at h
      cases hres : trun P fr all l (id + 1) (run1 fr o.dst r st) with
      | done ok its st1 => rw [hres] at h; simp only [TRes.cons] at h; cases h
      | stop ok1 its1 st1 rest1 id1 =>
        rw [hres] at h
        simp only [TRes.cons] at h
        cases h
        simp only [Bool.and_eq_true] at hok
        obtain ⟨pre, e1, e2, t⟩ := trun_pre hres hok.2
        exact ⟨o :: pre, by rw [e1]; rfl, by rw [e2]; simp; omega, .cons (h2 hok.1) t⟩
    cases hd : dok fr o.dst with
    | false => exact stopCase (by simp only [trun, hd])
    | true =>
      cases hg : o.guard with
      | none =>
        cases he : efRc id (xop P fr st true id o) with
        | none => exact stopCase (by simp only [trun, hd, hg, he])
        | some p =>
          obtain ⟨b, r⟩ := p
          exact goCase (by simp only [trun, hd, hg, he]) fun hb => .op hg hd he hb rfl
      | some p =>
        obtain ⟨j, want⟩ := p
        cases hj : gslot all.toArray j with
        | none => exact stopCase (by simp only [trun, hd, hg, hj])
        | some k =>
          cases hk : gval want (st.get fr k) with
          | none => exact stopCase (by simp only [trun, hd, hg, hj, hk])
          | some g =>
            cases he : efRcG g (xop P fr st g id o) with
            | none => exact stopCase (by simp only [trun, hd, hg, hj, hk, he])
            | some p =>
              obtain ⟨b, r⟩ := p
              exact goCase (by simp only [trun, hd, hg, hj, hk, he]) fun hb => .guard hg hj hk hd he hb rfl

/-- Operations one behind the other, as far as the rest that is named. -/
def TrTo (P : Program) (fr : Fr) (ro : Option Nat) (ds : DS) (ops : Array Oper) (id : Nat) (l : List Oper) (st : St) (its : List It) (st' : St) (rest : List Oper) : Prop :=
  ∃ pre, l = pre ++ rest ∧ Tr P fr ro ds ops id pre st its st'
theorem TrTo.here {l : List Oper} : TrTo P fr ro ds ops id l st [] st l := ⟨[], rfl, .nil _ _⟩
theorem TrTo.cons {l rest : List Oper} {rd : List Nat} {its : List It} (h : OpIs P fr ro ds ops id st ⟨o, r, rd⟩) (t : TrTo P fr ro ds ops (id + 1) l (run1 fr o.dst r st) its st' rest) : TrTo P fr ro ds ops id (o :: l) st (⟨o, r, rd⟩ :: its) st' rest := by
  obtain ⟨pre, rfl, t⟩ := t
  exact ⟨o :: pre, rfl, .cons h t⟩
theorem TrTo.run {all l rest rest' : List Oper} {ok : Bool} {its its2 : List It} {id' : Nat} {st2 : St} (h : trun P fr all l id st = .stop ok its st' rest id') (hok : ok = true) (t : TrTo P fr ro ds all.toArray id' rest st' its2 st2 rest') : TrTo P fr ro ds all.toArray id l st (its ++ its2) st2 rest' := by
  obtain ⟨pre, e1, e2, t1⟩ := trun_pre (ro := ro) (ds := ds) h hok
  obtain ⟨pre2, e3, t2⟩ := t
  subst e3
  subst e1
  exact ⟨pre ++ pre2, by rw [List.append_assoc], t1.append e2 t2⟩

/-- The same, of a region as it stands. -/
theorem EvC.drl {idr : Nat} {all : List Oper} {ol : Oper} {its : List It} (hm : P.follows .mixedOrders = true) (ht : TrTo P fr ro ds all.toArray st.nx all st.clr its st' [ol]) (hc : confAll its 0 its = true)
    (hlb : (depsOf ol).all (fun e => decide (e < its.length)) = true) (hanc : ancOk (depsOf ol) 0 its = true)
    (hq : XR P fr ro ds all.toArray [ol] ⟨st'.vars, st'.tmps, st'.mem, st.nx + its.length⟩ Q) : EvC P fr ro ds (.region idr all.toArray true) st Q := by
  obtain ⟨pre, rfl, t⟩ := ht
  exact .drawL hm t hc hlb hanc hq
end
end Go.Avl
namespace Go.Avl
open Go

/-- Cell j of box k keeps the front of an object: a new object, of the front alone. -/
def St.shrinkC (k j : Nat) (st : St) : Option St :=
  match mlook st.mem k with
  | some (.cells cs) => match cs[j]? with
    | some (.tv i n 0 len .rest) => match mlook st.mem i with
      | some (.arr esz es false) => if n = es.length then some ⟨st.vars, st.tmps, mset ((st.nx, .arr esz (es.take len) false) :: mdel st.mem i) k (.cells (cs.set j (.tl st.nx len false))), st.nx + 1⟩ else none
      | _ => none
    | _ => none
  | _ => none

section
variable {P : Program} {fr : Fr} {ro : Option Nat} {ds : DS} {st st' : St} {Q Q' : Exit → St → Prop} {G G' : Nat → Option Value} {F F' : Nat → Nat → Prop} {a : Act} {w w' : World} {x y c : Code} {M : Mem}
  {ops : Array Oper} {l rest : List Oper}

theorem simM_shrink {nx i esz n len b c' : Nat} {es : List (List AV)} (hm : SimM P G F M nx w) (hf : ∀ j, nx ≤ j → G j = none) (ho : mlook M i = some (.arr esz es false)) (hG : G i = some (.slice (some ⟨b, 0, none⟩) n c')) (hc0 : c' ≠ 0) (hn : n = es.length) (hlen : len ≤ n) :
    SimM P (upG G nx (.slice (some ⟨b, 0, none⟩) len c')) F ((nx, .arr esz (es.take len) false) :: mdel M i) (nx + 1) w ∧ Step All G F M w (upG G nx (.slice (some ⟨b, 0, none⟩) len c')) F ((nx, .arr esz (es.take len) false) :: mdel M i) w := by
  have htl : (es.take len).length = len := by rw [List.length_take]; omega
  have hob := (hm.obj i _ ho)
  have hne : i ≠ nx := Nat.ne_of_lt hob.1
  obtain ⟨G1, hG1⟩ : ∃ G1, G1 = upG G nx (.slice (some ⟨b, 0, none⟩) len c') := ⟨_, rfl⟩
  obtain ⟨M1, hM1⟩ : ∃ M1 : Mem, M1 = (nx, .arr esz (es.take len) false) :: mdel M i := ⟨_, rfl⟩
  rw [← hG1, ← hM1]
  have hlk : ∀ j, mlook M1 j = if j = nx then some (.arr esz (es.take len) false) else if j = i then none else mlook M j := fun j => by
    rw [hM1]; simp only [mlook]
    by_cases hj : j = nx
    · rw [if_pos hj, if_pos hj]
    · rw [if_neg hj, if_neg hj, mlook_mdel']
  have hgo : ∀ j, j ≠ nx → G1 j = G j := fun j hj => by rw [hG1, upG_other G _ hj]
  have hgs : G1 nx = some (.slice (some ⟨b, 0, none⟩) len c') := by rw [hG1, upG_self]
  have hbk : blkOf (.slice (some ⟨b, 0, none⟩) n c') = some b := by simp [blkOf, hc0]
  have hbk0 : blkOf (.slice (some ⟨b, 0, none⟩) len c') = some b := by simp [blkOf, hc0]
  have S : Step All G F M w G1 F M1 w :=
    { kept := .refl
      size := Nat.le_refl _
      out := fun _ _ _ => rfl
      F1 := fun _ _ h => h
      F2 := fun _ _ _ => rfl
      F3 := fun _ _ h => .inl h
      own := fun b' ⟨id, o, v, h1, h2, h3⟩ => by
        rw [hlk] at h1
        by_cases hj : id = nx
        · subst hj
          rw [hgs] at h2; cases h2
          rw [hbk0] at h3; cases h3
          exact .inr ⟨i, _, _, ho, hG, hbk⟩
        · rw [if_neg hj] at h1
          rw [hgo id hj] at h2
          split at h1
          · cases h1
          · exact .inr ⟨id, o, v, h1, h2, h3⟩
      some' := fun id _ hid => by
        by_cases hj : id = nx
        · subst hj; rw [hgs]; simp
        · rw [hgo id hj]; exact hid
      same := fun id v _ hid _ => by
        have hj : id ≠ nx := fun e => by rw [e, hf _ (Nat.le_refl _)] at hid; cases hid
        rw [hgo id hj]; exact hid
      keep := fun id o' _ hid h1 => by
        have hj : id ≠ nx := fun e => hid (by rw [e]; exact hf _ (Nat.le_refl _))
        rw [hlk, if_neg hj] at h1
        obtain ⟨v, hv⟩ := Option.ne_none_iff_exists'.1 hid
        split at h1
        · cases h1
        · exact ⟨o', v, v, h1, hv, (hgo id hj).trans hv, objKeep.refl v o'⟩ }
  have hm' : SimM P G1 F M1 (nx + 1) w := by
    refine simM_gen hm S (fun id o' h1 => ?_) (fun id id' v v' b' h1 h2 h3 h4 h5 h6 => ?_) hm.inF
    · rw [hlk] at h1
      by_cases hj : id = nx
      · subst hj
        rw [if_pos rfl] at h1; cases h1
        refine ⟨Nat.lt_succ_self _, .inl ?_⟩
        rcases hob.2 with ⟨_, base, h1, _⟩ | ⟨b2, c2, cc, e, k1, k2, k3, k4, k5, k6, k7, k8, k9⟩
        · rw [hG] at h1; cases h1; exact absurd rfl hc0
        · rw [hG] at k1; cases k1
          refine .inr ⟨b, c', cc, e, by rw [hgs, htl], hc0, k3, by rw [htl]; omega, k5, fun i h => by rw [List.getElem_take]; exact k6 _ _, fun i j h hj => ?_, fun o h => ?_, fun h => by cases h⟩
          · simp only [List.getElem_take] at hj ⊢
            obtain ⟨v, q1, q2, q3⟩ := k7 i j (by rw [htl] at h; omega) hj
            exact ⟨v, q1, q2, q3.step S fun _ _ => trivial⟩
          · have := (k8 o h).1
            cases this
      · rw [if_neg hj] at h1
        split at h1
        · cases h1
        · exact ⟨Nat.lt_succ_of_lt (hm.obj id o' h1).1, .inr ⟨h1, hgo id hj, fun b v _ _ => ⟨rfl, fun _ h => h⟩⟩⟩
    · have back : ∀ {id : Nat} {v : Value}, mlook M1 id ≠ none → G1 id = some v → blkOf v = some b' → (id = nx ∧ b' = b) ∨ (id ≠ nx ∧ id ≠ i ∧ mlook M id ≠ none ∧ G id = some v) := fun {id v} q1 q2 q3 => by
        by_cases hj : id = nx
        · subst hj
          rw [hgs] at q2; cases q2
          rw [hbk0] at q3; cases q3
          exact .inl ⟨rfl, rfl⟩
        · rw [hlk, if_neg hj] at q1
          rw [hgo id hj] at q2
          by_cases hi : id = i
          · rw [if_pos hi] at q1; exact absurd rfl q1
          · rw [if_neg hi] at q1; exact .inr ⟨hj, hi, q1, q2⟩
      have hio : mlook M i ≠ none := by rw [ho]; simp
      rcases back h1 h3 h5 with ⟨e1, e2⟩ | ⟨q1, q2, q3, q4⟩ <;> rcases back h2 h4 h6 with ⟨e3, e4⟩ | ⟨p1, p2, p3, p4⟩
      · rw [e1, e3]
      · subst e2
        exact absurd (hm.inj id' i _ _ _ p3 hio p4 hG h6 hbk) p2
      · subst e4
        exact absurd (hm.inj id i _ _ _ q3 hio q4 hG h5 hbk) q2
      · exact hm.inj id id' _ _ _ q3 p3 q4 p4 h5 h6
  exact ⟨hm', S⟩

theorem SimA.shrinkC {k j : Nat} (s : SimA P fr ds G F st a w) (h : st.shrinkC k j = some st') : ∃ G', SimA P fr ds G' F st' a w ∧ Step (· < fr.base) G F st.mem w G' F st'.mem w := by
  unfold St.shrinkC at h
  split at h
  · rename_i cs hok
    split at h
    · rename_i i n len hj
      split at h
      · rename_i esz es ho
        split at h
        rotate_left
        · cases h
        rename_i hn
        cases h
        obtain ⟨hin, b, cc, el, k1, k2, k3, k4, k5⟩ := s.sim.mem.obj k _ hok
        obtain ⟨hjl, hjv⟩ := List.getElem?_eq_some_iff.1 hj
        have hv := k4 j (by omega) hjl
        rw [hjv] at hv
        obtain ⟨hG0, hh⟩ := hv.inv_tv
        obtain ⟨hol, b', c, hG, hc0, c', hval, _, hcp⟩ := (hh _ _ _ ho).2 hn
        replace hc0 : c ≠ 0 := hc0.resolve_right fun h => by cases h.2.1
        have hcc : c' = c := by
          rcases hcp with h | h | ⟨_, h⟩
          · cases h
          · cases h
          · omega
        subst hcc
        rw [Nat.zero_mul] at hval
        have hki : k ≠ i := fun e => by rw [e, ho] at hok; cases hok
        obtain ⟨hm', S'⟩ := simM_shrink (len := len) s.sim.mem s.fresh ho hG hc0 hn (by omega)
        have hne : k ≠ st.nx := Nat.ne_of_lt hin
        obtain ⟨M1, hM1⟩ : ∃ M1 : Mem, M1 = ((st.nx, RObj.arr esz (es.take len) false) :: mdel st.mem i) := ⟨_, rfl⟩
        obtain ⟨G1, hG1⟩ : ∃ G1, G1 = upG G st.nx (.slice (some ⟨b', 0, none⟩) len c') := ⟨_, rfl⟩
        rw [← hM1, ← hG1] at hm' S'
        have ho1 : mlook M1 k = some (.cells cs) := by rw [hM1, mlook_cons, if_neg hne, mlook_mdel', if_neg hki]; exact hok
        have hgi : G1 k = some (.pointer (some ⟨b, 0, none⟩)) := by rw [hG1, upG_other G _ hne]; exact k1
        have harr : ∀ {id esz' es fz}, mlook (mset M1 k (.cells (cs.set j (.tl st.nx len false)))) id = some (.arr esz' es fz) → mlook M1 id = some (.arr esz' es fz) := fun {id esz' es fz} h => by
          rw [mlook_mset] at h
          split at h
          · cases h
          · exact h
        have hrv : ∀ {v : Value} {x : AV}, RV G1 F M1 w v x → RV G1 F (mset M1 k (.cells (cs.set j (.tl st.nx len false)))) w v x := fun h => by
          induction h with
          | imm h => exact .imm h
          | ag vs cs hl _ ih => exact .ag vs cs hl ih
          | tu vs cs hl _ ih => exact .tu vs cs hl ih
          | ifc t v x _ ih => exact .ifc t v x ih
          | fn f vs cs hl _ ih => exact .fn f vs cs hl ih
          | opt b v x _ h' ih => exact .opt b v x ih h'
          | rf id off b h => exact .rf id off b h
          | tl id len nl v hG h => exact .tl id len nl v hG fun esz es fz ho => h esz es fz (harr ho)
          | tv id n off len cap v hG h => exact .tv id n off len cap v hG fun esz es fz ho => h esz es fz (harr ho)
          | ea id n i off v hG h => exact .ea id n i off v hG fun esz es fz ho => h esz es fz (harr ho)
          | mp id b h => exact .mp id b h
        have hsome : ∀ id, mlook (mset M1 k (.cells (cs.set j (.tl st.nx len false)))) id ≠ none → mlook M1 id ≠ none := fun id h he => by
          rw [mlook_mset] at h
          split at h
          · rename_i e; subst e; rw [ho1] at he; cases he
          · exact h he
        have hobj : ∀ {id o}, ObjOk P G1 F M1 w id o → ObjOk P G1 F (mset M1 k (.cells (cs.set j (.tl st.nx len false)))) w id o := fun {id o} h => by
          cases o with
          | cells cs => obtain ⟨b, c, e, k1, k2, k3, k4, k5⟩ := h; exact ⟨b, c, e, k1, k2, k3, fun i a b => hrv (k4 i a b), k5⟩
          | arr esz es fz =>
            rcases h with h | ⟨b, c, cc, e, k1, k2, k3, k4, k5, k6, k7, k8⟩
            · exact .inl h
            · exact .inr ⟨b, c, cc, e, k1, k2, k3, k4, k5, k6, fun i j a b => let ⟨v, x, y, z⟩ := k7 i j a b; ⟨v, x, y, hrv z⟩, k8⟩
          | map kt es => obtain ⟨b, ents, clock, k1, k2, k3, k4, k5⟩ := h; exact ⟨b, ents, clock, k1, k2, k3, fun i a b => let ⟨x, y, z⟩ := k4 i a b; ⟨x, hrv y, z⟩, k5⟩
        have S2 : Step All G1 F M1 w G1 F (mset M1 k (.cells (cs.set j (.tl st.nx len false)))) w :=
          { kept := .refl, size := Nat.le_refl _
            out := fun _ _ _ => rfl
            F1 := fun _ _ h => h
            F2 := fun _ _ _ => rfl
            F3 := fun _ _ h => .inl h
            own := fun b ⟨id, o, v, h1, h2, h3⟩ => .inr (by
              obtain ⟨o', ho'⟩ := Option.ne_none_iff_exists'.1 (hsome id (by rw [h1]; simp))
              exact ⟨id, o', v, ho', h2, h3⟩)
            some' := fun _ _ h => h
            same := fun _ _ _ h _ => h
            keep := fun id o _ hG h1 => by
              obtain ⟨v, hvG⟩ := Option.ne_none_iff_exists'.1 hG
              rw [mlook_mset] at h1
              by_cases e : id = k
              · rw [if_pos e] at h1
                cases h1
                subst e
                exact ⟨_, v, v, ho1, hvG, hvG, rfl⟩
              · rw [if_neg e] at h1
                exact ⟨o, v, v, h1, hvG, hvG, objKeep.refl v o⟩ }
        have htl : (es.take len).length = len := by rw [List.length_take]; omega
        rw [← hM1]
        refine ⟨G1, ⟨⟨⟨fun id o h => ?_, fun id id' v v' b h1 h2 => hm'.inj id id' v v' b (hsome _ h1) (hsome _ h2), hm'.inF, hm'.gl⟩, fun k => hrv ((s.sim.slots k).step S' fun _ _ => trivial), s.sim.size⟩, fun k hk => ?_, s.defers⟩, (S'.trans S2).mono fun _ _ => trivial⟩
        · rw [mlook_mset] at h
          by_cases e : id = k
          · rw [if_pos e] at h
            cases h
            subst e
            refine ⟨Nat.lt_succ_of_lt hin, b, cc, el, hgi, k2, by rw [List.length_set]; exact k3, fun q q1 q2 => ?_, k5⟩
            by_cases hq : q = j
            · subst hq
              rw [List.getElem_set_self, hval]
              refine .tl st.nx len false _ (by rw [hG1, upG_self]; simp) fun esz' es' fz hx => ?_
              rw [mlook_mset, if_neg (Ne.symm hne), hM1, mlook_cons, if_pos rfl] at hx; cases hx
              exact ⟨by rw [htl]; exact Nat.le_refl _, fun _ => ⟨by rw [hG1]; exact upG_self _ _ _, rfl⟩⟩
            · rw [List.getElem_set_ne (Ne.symm hq)]
              exact hrv ((k4 q q1 (by simpa using q2)).step S' fun _ _ => trivial)
          · rw [if_neg e] at h
            exact ⟨(hm'.obj id o h).1, hobj (hm'.obj id o h).2⟩
        · have hk : st.nx + 1 ≤ k := hk
          rw [hG1, upG_other G _ (by omega)]; exact s.fresh k (by omega)
      · cases h
    · cases h
  · cases h
theorem EvC.shrinkC (k j : Nat) {st' : St} (h : st.shrinkC k j = some st') (hc : EvC P fr ro ds c st' Q) : EvC P fr ro ds c st Q :=
  EvC.conv (fun _ F _ _ s => let ⟨G', s', S'⟩ := s.shrinkC h; ⟨G', F, s', S'⟩) hc
attribute [go_sem] St.shrinkC
end
end Go.Avl
namespace Go.Avl
open Go

/-- The newest slice of object i, as a view. -/
def tvOf (M : Mem) (i : Nat) : AV → AV
  | .tl j n b => if j = i ∧ n ≠ 0 then match mlook M i with
    | some (.arr _ es _) => if n = es.length then .tv i n 0 n .rest else .tl j n b
    | _ => .tl j n b else .tl j n b
  | v => v
def St.toTv (i : Nat) (st : St) : St := ⟨st.vars, st.tmps, memMap (tvOf st.mem i) st.mem, st.nx⟩
section
variable {P : Program} {fr : Fr} {ro : Option Nat} {ds : DS} {st st' : St} {Q Q' : Exit → St → Prop} {G G' : Nat → Option Value} {F F' : Nat → Nat → Prop} {a : Act} {w w' : World} {c : Code}
theorem tvOf_rv {M : Mem} {nx i : Nat} (hm : SimM P G F M nx w) {v : Value} {y : AV} (h : RV G F M w v y) : RV G F M w v (tvOf M i y) := by
  unfold tvOf
  split
  · rename_i j n b
    split
    · rename_i hj
      obtain ⟨rfl, h0⟩ := hj
      split
      · rename_i esz es fz ho
        split
        · rename_i hn
          exact h.tl_tv hm ho hn h0
        · exact h
      · exact h
    · exact h
  · exact h
theorem EvC.toTv (i : Nat) (hc : EvC P fr ro ds c (st.toTv i) Q) : EvC P fr ro ds c st Q :=
  EvC.conv (fun _ F _ _ s => let ⟨s', S'⟩ := s.memMap (f := tvOf st.mem i) fun _ _ h => tvOf_rv s.sim.mem h; ⟨_, F, s', S'⟩) hc
/-- Ways that meet again: behind code that ends in one of some states, by their shape. -/
theorem EvC.mergeS {α : Type} (sh : α → St) (ok : α → Prop) (L : List Nat) (nx : Nat) {c rest : Code} (h1 : EvC P fr ro ds c st (fun e st' => e = .normal ∧ ∃ (K : List (Nat × Nat)) (a : α), gcOk fr.base nx K = true ∧ st'.gc L K nx = sh a ∧ ok a))
    (h2 : ∀ a, ok a → EvC P fr ro ds rest (sh a) Q) : EvC P fr ro ds (.seq c rest) st Q :=
  .seq (h1.mono fun e st' ⟨he, K, a, hk, hs, ha⟩ => by
    subst he
    show EvC P fr ro ds rest st' Q
    exact .gc L K nx hk (by rw [hs]; exact h2 a ha))
/-- The same, the ways' ends carried over by any rules. -/
theorem EvC.mergeC {α : Type} (sh : α → St) (ok : α → Prop) {c rest : Code} (h1 : EvC P fr ro ds c st (fun e st' => e = .normal ∧ ∃ a : α, ok a ∧ ∀ (c : Code) (Q : Exit → St → Prop), EvC P fr ro ds c (sh a) Q → EvC P fr ro ds c st' Q))
    (h2 : ∀ a, ok a → EvC P fr ro ds rest (sh a) Q) : EvC P fr ro ds (.seq c rest) st Q :=
  .seq (h1.mono fun e st' ⟨he, a, ha, hc⟩ => by
    subst he
    exact hc _ _ (h2 a ha))
theorem EvC.gcE {c : Code} {Q : Exit → St → Prop} (L : List Nat) (K : List (Nat × Nat)) (nx : Nat) {st2 : St} (hk : gcOk fr.base nx K = true) (he : st.gc L K nx = st2) (h : EvC P fr ro ds c st2 Q) : EvC P fr ro ds c st Q := .gc L K nx hk (by rw [he]; exact h)
end
attribute [go_sem] St.toTv tvOf
end Go.Avl
namespace Go.Avl
open Go

/-- The result is a whole new object. -/
def newRes (F : Nat → Nat → Prop) (w : World) (esz : Nat) (es : List (List AV)) (e : Ending) (w' : World) : Prop :=
  ∃ (b c : Nat) (cc : Array Value) (elem : TypeId) (F' : Nat → Nat → Prop), e = .returned (.slice (some ⟨b, 0, none⟩) es.length c) ∧ c ≠ 0 ∧ w.heap.size ≤ b ∧ w'.heap[b]? = some (.cells cc elem (0, 0)) ∧ es.length ≤ c ∧ cc.size = c * esz ∧
    (∀ i (h : i < es.length), es[i].length = esz) ∧ (∀ i j (h : i < es.length) (h' : j < es[i].length), ∃ v, cc[i * esz + j]? = some v ∧ v.oneCell' = true ∧ Imm F' w' v es[i][j]) ∧ (∀ o, ¬ F' b o) ∧ Grown F w F' w'
def PureNew (P : Program) (f : FuncId) (args : List AV) (esz : Nat) (es : List (List AV)) : Prop :=
  callable P f ∧ ∀ F w vals, FOk F w → Imms F w vals args → CallsIn Fence.wide 0 P f vals.toArray w fun e w' => newRes F w esz es e w'
def retN (P : Program) (fr : Fr) (results : List ResultVar) (esz : Nat) (es : List (List AV)) (e : Exit) (st : St) : Prop :=
  (e = .ret ∨ e = .normal) ∧ ∃ (r0 : AV) (i : Nat), resAllR P fr st results = some [r0] ∧ (r0 = .tl i es.length false ∨ r0 = .tv i es.length 0 es.length .rest) ∧ mlook st.mem i = some (.arr esz es false) ∧ es.length ≠ 0 ∧ es.all AV.norefs = true

section
variable {P : Program} {fr : Fr} {ro : Option Nat} {ds : DS} {st st' : St} {Q Q' : Exit → St → Prop} {G G' : Nat → Option Value} {F F' : Nat → Nat → Prop} {a : Act} {w w' : World} {M M' : Mem}
  {ops : Array Oper} {l rest : List Oper} {o : Oper} {N id : Nat} {rd gs : List Nat}

/-- Such a contract, from the body. -/
theorem PureNew.of {c : Code} {f : FuncId} {fn : Func} {args : List AV} {esz : Nat} {es : List (List AV)} {nv : Nat} {hid : List Nat} (hf : P.funcs[f]? = some fn) (hb : fn.body = some c) (hnm : (fn.name == "runtime.NumGoroutine") = false) (hsz : args.length ≤ fn.ntmps)
    (h : ∀ h0 : Nat, EvC P ⟨0, nv, hid, fn.ntmps⟩ none ⟨h0, none, false⟩ c (st0 args) (retN P ⟨0, nv, hid, fn.ntmps⟩ fn.results.toList esz es)) : PureNew P f args esz es := by
  refine ⟨callable_of hf hnm (by rw [hb]; rfl), fun F w vals hF hi => ?_⟩
  obtain ⟨hl, hi⟩ := hi
  have s0 : SimA P ⟨0, nv, hid, fn.ntmps⟩ ⟨w.heap.size, none, false⟩ (fun _ => none) F (st0 args) { tmps := vals.toArray ++ Array.replicate (fn.ntmps - vals.toArray.size) undef, defers := [] } w := by
    refine ⟨⟨⟨fun id o h => (by cases h), fun id id' v v' b h => absurd rfl h, hF.1, hF.2⟩, fun k => ?_, by simp; omega⟩, fun _ _ => rfl, Marks.none _ _ _ (Nat.le_refl _)⟩
    have key : ∀ x, (x = .junk ∨ ∃ h : k < args.length, x = args[k]) → RV (fun _ => none) F (st0 args).mem w ((vals.toArray ++ Array.replicate (fn.ntmps - vals.toArray.size) undef).getD k undef) x := by
      rintro x (rfl | ⟨hk, rfl⟩)
      · exact .imm (.junk _)
      · have : (vals.toArray ++ Array.replicate (fn.ntmps - vals.toArray.size) undef).getD k undef = vals[k]'(by omega) := by
          rw [Array.getD_eq_getD_getElem?, Array.getElem?_append_left (by simp; omega)]
          simp [List.getElem?_eq_getElem (show k < vals.length by omega)]
        rw [this]
        exact .imm (hi k (by omega) hk)
    refine key _ ?_
    unfold St.get
    split
    · rcases alook_vars0 args 0 k with h | ⟨h1, h2, h3⟩
      · exact .inl h
      · exact .inr ⟨by simpa using h1, by simpa [st0] using h3⟩
    · exact .inl rfl
  refine callsIn_of_wp_marks (F := Fence.wide) hf hb trivial (wpIn_mono (h _ _ _ _ _ _ _ _ _ .refl s0) ?_)
  rintro e a' w' ⟨G', F', st', s', S', he, r0, i, hrs, hr0, ho, hne, hnr⟩
  have hown : ∀ b, Owned G' st'.mem b → w.heap.size ≤ b := fun b hb => (S'.own b hb).elim id fun ⟨_, _, _, h, _⟩ => by cases h
  have g : ∀ w2 : World, w.heap.size ≤ w2.heap.size → (∀ b, b < w.heap.size → w2.heap[b]? = w.heap[b]?) → Kept w w2 → (∀ b o, F' b o → b < w2.heap.size) → Grown F w F' w2 := fun w2 h1 h2 h3 h4 =>
    ⟨h1, h2, S'.F1, fun b o h => by
      rcases S'.F3 b o h with h | h | ⟨_, _, _, h, _⟩
      · exact .inl h
      · exact .inr h
      · exact (by cases h), h4, h3⟩
  have hfin : ∀ (Ds : List Nat) (w2 : World), Ds.Nodup → (∀ D ∈ Ds, w.heap.size ≤ D ∧ w2.heap[D]? = some (.deferred (some []))) → w.heap.size ≤ w2.heap.size → (∀ b, b < w.heap.size → w2.heap[b]? = w.heap[b]?) → Kept w w2 →
      SimA P ⟨0, nv, hid, fn.ntmps⟩ ⟨w.heap.size, none, false⟩ G' F' st' { a' with defers := [] } w2 →
      LeavesInM Fence.wide 0 P fn a'.tmps (fun e w' => newRes F w esz es e w') (Ds.map dmark) .returning w2 := by
    intro Ds
    induction Ds with
    | nil =>
      intro w2 _ _ h1 h2 h3 s2
      obtain ⟨u, k1, k2⟩ := resultsR_ok s2 hrs
      have hu : u = u := rfl
      refine ⟨u, k1, ?_⟩
      have k2 : RV G' F' st'.mem w2 u r0 := k2
      have hv : G' i = some u ∧ isNilSlice u = false := by
        rcases hr0 with rfl | rfl
        · obtain ⟨_, hh⟩ := k2.inv_tl
          obtain ⟨q1, q2⟩ := (hh _ _ _ ho).2 rfl
          exact ⟨q1, q2.symm⟩
        · obtain ⟨_, hh⟩ := k2.inv_tv
          obtain ⟨_, b, c, hG, hc0, c', hval, _, hcp⟩ := (hh _ _ _ ho).2 rfl
          subst hval
          have hc0 : c ≠ 0 := hc0.resolve_right fun h => hne h.1
          rcases hcp with h | h | ⟨h, _⟩
          · cases h
          · cases h
          · have : c' = c := by omega
            subst this
            exact ⟨by rw [hG, Nat.zero_mul], rfl⟩
      obtain ⟨hGi, _⟩ := hv
      rcases (s2.sim.mem.obj i _ ho).2 with ⟨h0, _⟩ | ⟨b, c, cc, el, q1, q2, q3, q4, q5, q6, q7, q8, _⟩
      · subst h0; exact absurd rfl hne
      · rw [hGi] at q1
        cases q1
        refine ⟨b, c, cc, el, F', rfl, q2, hown b ⟨i, _, _, ho, hGi, by simp [blkOf, q2]⟩, q3, q4, q5, q6, fun k j hk hj => ?_, fun o hF => (by cases (q8 o hF).1), g w2 h1 h2 h3 s2.sim.mem.inF⟩
        obtain ⟨v, hv, h1c, hr⟩ := q7 k j hk hj
        exact ⟨v, hv, h1c, hr.imm_of (all_norefs hnr k j hk hj)⟩
    | cons D Ds ih =>
      intro w2 hnd hD h1 h2 h3 s2
      obtain ⟨d1, d2⟩ := hD D List.mem_cons_self
      have hnd := List.nodup_cons.1 hnd
      have hk : ∀ (b : Nat) (o : Obj), w2.heap[b]? = some o → isData o = true → (w2.putObj D (.deferred none)).heap[b]? = some o := fun b o hb ho => by
        rw [World.putObj_heap_other (by rintro rfl; rw [d2] at hb; cases hb; cases ho)]; exact hb
      refine ⟨(by intro h; cases h), .inl ⟨D, _, rfl, run_takeDeferred d2, ih _ hnd.2 (fun D' hD' => ?_) (by rw [World.putObj_size]; exact h1) (fun b hb => ?_) (h3.trans (.set d2 rfl rfl)) ?_⟩⟩
      · refine ⟨(hD D' (List.mem_cons_of_mem _ hD')).1, ?_⟩
        rw [World.putObj_heap_other (by rintro rfl; exact hnd.1 hD')]; exact (hD D' (List.mem_cons_of_mem _ hD')).2
      · rw [World.putObj_heap_other (by omega)]; exact h2 b hb
      · exact ⟨⟨s2.sim.mem.keepData hk (by rw [World.putObj_size]; exact Nat.le_refl _), fun k => (s2.sim.slots k).keepData hk, s2.sim.size⟩, s2.fresh, Marks.none _ _ _ (by rw [World.putObj_size]; exact h1)⟩
  obtain ⟨⟨Ds, hDs, hnd, hD⟩, _⟩ := s'.defers
  have := hfin Ds w' hnd hD S'.size (fun b hb => S'.out b hb (fun ⟨_, _, _, h, _⟩ => by cases h)) S'.kept ⟨⟨s'.sim.mem, s'.sim.slots, s'.sim.size⟩, s'.fresh, Marks.none _ _ _ S'.size⟩
  rw [← hDs] at this
  rcases he with rfl | rfl
  · exact this
  · exact this

/-- A new object in a block that came with a call. -/
theorem simM_grownNew {nx b : Nat} (hm : SimM P G F M nx w) (g : Grown F w F' w') (hid : G id = none) (hn : id < nx) (h : Value) (ob : RObj) (hb : blkOf h = some b) (hb1 : w.heap.size ≤ b)
    (S' : Step All G F M w (upG G id h) F' ((id, ob) :: M) w' → ObjOk P (upG G id h) F' ((id, ob) :: M) w' id ob) :
    SimM P (upG G id h) F' ((id, ob) :: M) nx w' ∧ Step All G F M w (upG G id h) F' ((id, ob) :: M) w' := by
  have hne : ∀ j, G j ≠ none → j ≠ id := fun j hj e => hj (e ▸ hid)
  have S : Step All G F M w (upG G id h) F' ((id, ob) :: M) w' :=
    { kept := g.kept
      size := g.size
      out := fun b hb _ => g.old b hb
      F1 := g.F1
      F2 := fun b o' hF => cell?_same (g.old b (hm.inF b o' hF)) o'
      F3 := fun b o h => (g.F3 b o h).imp (fun h => h) fun h => .inl h
      own := fun b1 ⟨j, o', v, ho, hv, hbv⟩ => by
        by_cases e : j = id
        · subst e
          rw [upG_self] at hv; cases hv
          rw [hb] at hbv; cases hbv
          exact .inl hb1
        · rw [mlook_cons, if_neg e] at ho
          rw [upG_other G h e] at hv
          exact .inr ⟨j, o', v, ho, hv, hbv⟩
      some' := fun j _ hj => by rw [upG_other G h (hne j hj)]; exact hj
      same := fun j v _ hj _ => by rw [upG_other G h (hne j (by simp [hj]))]; exact hj
      keep := fun j o' _ hj ho => by
        have e := hne j hj
        rw [mlook_cons, if_neg e] at ho
        cases hv : G j with
        | none => exact absurd hv hj
        | some v => exact ⟨o', v, v, ho, rfl, by rw [upG_other G h e]; exact hv, objKeep.refl v o'⟩ }
  refine ⟨simM_gen hm S (fun j o' ho => ?_) (fun i j v v' b1 hi hj hv hv' hbv hbv' => ?_) g.inF, S⟩
  · by_cases e : j = id
    · subst e
      rw [mlook_cons, if_pos rfl] at ho; cases ho
      exact ⟨hn, .inl (S' S)⟩
    · rw [mlook_cons, if_neg e] at ho
      refine ⟨(hm.obj j o' ho).1, .inr ⟨ho, upG_other G h e, fun b1 v hv hbv => ?_⟩⟩
      have hlt : b1 < w.heap.size := hm.lt ⟨j, o', v, ho, hv, hbv⟩
      exact ⟨g.old b1 hlt, fun o h => by rcases g.F3 b1 o h with h | h; exact h; omega⟩
  · have old : ∀ j v, j ≠ id → mlook ((id, ob) :: M) j ≠ none → upG G id h j = some v → mlook M j ≠ none ∧ G j = some v := fun j v e h1 h2 =>
      ⟨by rwa [mlook_cons, if_neg e] at h1, by rwa [upG_other G h e] at h2⟩
    have lt : ∀ j v, mlook M j ≠ none → G j = some v → blkOf v = some b1 → b1 < w.heap.size := fun j v h1 h2 h3 => by
      cases ho : mlook M j with
      | none => exact absurd ho h1
      | some o' => exact hm.lt ⟨j, o', v, ho, h2, h3⟩
    by_cases ei : i = id
    · by_cases ej : j = id
      · rw [ei, ej]
      · subst ei
        rw [upG_self] at hv; cases hv
        obtain ⟨h1, h2⟩ := old j v' ej hj hv'
        have := lt j v' h1 h2 hbv'
        rw [hb] at hbv; cases hbv
        omega
    · by_cases ej : j = id
      · subst ej
        rw [upG_self] at hv'; cases hv'
        obtain ⟨h1, h2⟩ := old i v ei hi hv
        have := lt i v h1 h2 hbv
        rw [hb] at hbv'; cases hbv'
        omega
      · obtain ⟨h1, h2⟩ := old i v ei hi hv
        obtain ⟨h3, h4⟩ := old j v' ej hj hv'
        exact hm.inj i j v v' b1 h1 h3 h2 h4 hbv hbv'

theorem SimD.callN {f : FuncId} {cs : List AV} {callee : Operand} {args : Array Operand} {tys : Array TypeId} {xs : List AV} {esz : Nat} {es : List (List AV)} {K : Act → World → Prop} {Q1 : Exit → Act → World → Prop}
    (s : SimD P fr ds G F st N a w) (hN : id < N) (hid : G id = none) (hop : o.op = .call ⟨.value callee, args, tys⟩) (hd : dok fr o.dst = true) (hcal : od fr st true callee = .fn f cs)
    (hxs : callArgs fr st args ++ cs = xs) (hn : AV.norefs xs = true) (hc : PureNew P f xs esz es)
    (h : ∀ G' F' a' w', SimD P fr ds G' F' (run1 fr o.dst ⟨.tl id es.length false, some (id, .arr esz es false)⟩ st) N a' w' → Step All G F st.mem w G' F' (run1 fr o.dst ⟨.tl id es.length false, some (id, .arr esz es false)⟩ st).mem w' → (∀ j, j ≠ id → G j = none → G' j = none) → K a' w') : o.wpIn (fc ro) 0 P a w K Q1 := by
  refine ⟨fun _ _ => trivial, ?_⟩
  rw [Oper.semAt_eq _ _ _ (by rw [hop]; intro c h; cases h)]
  have hv := (s.eval callee).unopt
  have hv : RV G F st.mem w (a.eval callee) (.fn f cs) := by unfold od at hcal; rwa [hcal] at hv
  obtain ⟨vs, hev, hl, hcs⟩ := hv.inv_fn
  have hrun : (execOp a.eval o).run P w = .ok (.enter f ((args.toList.map a.eval ++ vs).toArray)) w := by
    obtain ⟨dst, op, ty, pos, after, guard⟩ := o
    simp only at hop
    subst hop
    simp only [execOp, resolve, hev, Deferred.ofValue, Sem.run_bind, Sem.run_pure, Result.andThen_ok, invoke]
    rw [hc.1]
    congr 2
    apply Array.ext'
    simp
  rw [hrun]
  have hi : Imms F w (args.toList.map a.eval ++ vs) xs := by
    subst hxs
    refine .of_rv (G := G) (M := st.mem) (by simp [callArgs, hl]) (fun i h1 h2 => ?_) hn
    by_cases hlt : i < args.toList.length
    · rw [List.getElem_append_left (by simpa using hlt), List.getElem_append_left (by simpa [callArgs] using hlt)]
      simp only [callArgs, List.getElem_map]
      exact ((s.eval _).unopt).snap s.mem
    · rw [List.getElem_append_right (by simpa using hlt), List.getElem_append_right (by simpa [callArgs] using hlt)]
      simp only [List.length_map, callArgs]
      exact hcs _ _ _
  refine ⟨fun h => by simp [fc, Fence.wide] at h, callsIn_fc ((hc.2 F w _ s.mem.fok hi).mono ?_)⟩
  rintro e w' ⟨b, c, cc, el, F', rfl, q2, qb, q3, q4, q5, q6, q7, q8, g⟩
  obtain ⟨hm', S'⟩ := simM_grownNew (id := id) s.mem g hid hN (.slice (some ⟨b, 0, none⟩) es.length c) (.arr esz es false) (by simp [blkOf, q2]) qb fun S =>
    .inr ⟨b, c, cc, el, upG_self _ _ _, q2, q3, q4, q5, q6, fun i j hi hj => by
      obtain ⟨v, k1, k2, k3⟩ := q7 i j hi hj
      exact ⟨v, k1, k2, .imm k3⟩, fun o hF => absurd hF (q8 o), fun hz => by cases hz⟩
  have hmid : mlook st.mem id = none := s.mem.noM hid
  obtain ⟨s1, S1⟩ := s.put (d := o.dst) (r := ⟨.tl id es.length false, some (id, .arr esz es false)⟩) (u := .slice (some ⟨b, 0, none⟩) es.length c) hm' (fun i => by
    simp only [Rc.mem]
    rw [mlook_mset, mlook_cons]) S' hd (.tl id es.length false _ (by rw [upG_self]; simp) fun esz' es' fz' ho => by
      rw [mlook_cons, if_pos rfl] at ho; cases ho
      exact ⟨Nat.le_refl _, fun _ => ⟨upG_self _ _ _, rfl⟩⟩)
  exact h _ _ _ w' s1 S1 fun j hj hG => by rw [upG_other G _ hj]; exact hG

/-- A call whose result is a new object. -/
theorem OpIs.callN {f : FuncId} {cs : List AV} {callee : Operand} {args : Array Operand} {tys : Array TypeId} {xs : List AV} {esz : Nat} {es : List (List AV)} (hg : o.guard = none) (hop : o.op = .call ⟨.value callee, args, tys⟩) (hd : dok fr o.dst = true)
    (hcal : od fr st true callee = .fn f cs) (hxs : callArgs fr st args ++ cs = xs) (hn : AV.norefs xs = true) (hrd : rdOf fr st [] o = rd) (hc : PureNew P f xs esz es) : OpIs P fr ro ds ops id st ⟨o, ⟨.tl id es.length false, some (id, .arr esz es false)⟩, rd⟩ := by
  intro st' G F a w N K Q1 s hN hG hl h
  simp only [Region.wanted, hg, if_true]
  obtain ⟨e1, e2⟩ := callArgs_look (gs := []) (by rw [hrd]; exact hl) hop
  exact s.callN hN hG hop hd (by rw [e1]; exact hcal) (by rw [e2]; exact hxs) hn hc h
end
end Go.Avl
namespace Go.Avl
open Go

section
variable {P : Program} {fr : Fr} {ro : Option Nat} {ds : DS} {st st' : St} {Q Q' : Exit → St → Prop} {G G' : Nat → Option Value} {F F' : Nat → Nat → Prop} {a : Act} {w w' : World} {M M' : Mem}
  {ops : Array Oper} {l rest : List Oper} {o : Oper} {N id : Nat} {rd gs : List Nat}

/-- What a function that clips does to a slice, whatever it holds. -/
def Clips (P : Program) (f : FuncId) : Prop := ∀ (a : Addr) (n c : Nat), n ≤ c → (n : Int) < 1000000 → PureIs P f [.sc (.slice (some a) n c)] (.sc (.slice (some a) n n))
theorem OpIs.clip {f : FuncId} {callee x : Operand} {tys : Array TypeId} {i n esz : Nat} {nl fz : Bool} {es : List (List AV)} (hg : o.guard = none) (hop : o.op = .call ⟨.value callee, #[x], tys⟩) (hd : dok fr o.dst = true)
    (hcal : od fr st true callee = .fn f []) (hx : od fr st true x = .tl i n nl) (ho : mlook st.mem i = some (.arr esz es fz)) (hn : n = es.length) (h0 : n ≠ 0) (hlt : (n : Int) < 1000000) (hrd : rdOf fr st [] o = rd) (hc : Clips P f) :
    OpIs P fr ro ds ops id st ⟨o, ⟨.tv i n 0 n (.val n), none⟩, rd⟩ := by
  intro st' G F a w N K Q1 s hN hG hl h
  simp only [Region.wanted, hg, if_true]
  have hs := opSame_look (gs := []) (by rw [hrd]; exact hl) (by rw [hop]; rfl) (by rw [hop]; rfl)
  rw [hop] at hs
  have e1 : od fr st' true callee = .fn f [] := by rw [(hs.od (x := callee) (by simp [Op.operands, Call.operands]) true).1, hcal]
  obtain ⟨e2, e3⟩ := hs.od (x := x) (by simp [Op.operands, Call.operands]) true
  have e4 : mlook st'.mem i = some (.arr esz es fz) := by rw [e3 i (by rw [hx]; simp [AV.ids])]; exact ho
  rw [hx] at e2
  refine ⟨fun _ _ => trivial, ?_⟩
  rw [Oper.semAt_eq _ _ _ (by rw [hop]; intro c h; cases h)]
  have hv := (s.eval callee).unopt
  have hv : RV G F st'.mem w (a.eval callee) (.fn f []) := by unfold od at e1; rwa [e1] at hv
  obtain ⟨vs, hev, hl2, _⟩ := hv.inv_fn
  have hvs : vs = [] := by cases vs with
    | nil => rfl
    | cons a l => simp at hl2
  subst hvs
  have hxv := (s.eval x).unopt
  have hxv : RV G F st'.mem w (a.eval x) (.tl i n nl) := by unfold od at e2; rwa [e2] at hxv
  obtain ⟨hGi, hnl, va, vc, hval, hcase⟩ := tl_handle s.mem hxv e4 hn
  rcases hcase with ⟨h1, _⟩ | ⟨b, cc, el, rfl, k2, k3, k4, _⟩
  · subst h1; exact absurd hn h0
  have hrun : (execOp a.eval o).run P w = .ok (.enter f #[a.eval x]) w := by
    obtain ⟨dst, op, ty, pos, after, guard⟩ := o
    simp only at hop
    subst hop
    simp only [execOp, resolve, hev, Deferred.ofValue, Sem.run_bind, Sem.run_pure, Result.andThen_ok, invoke]
    rw [(hc ⟨b, 0, none⟩ n vc (by omega) hlt).1]
    congr 2
    all_goals (apply Array.ext'; simp)
  rw [hrun]
  rw [← hn] at hval
  have hi : Imms F w [a.eval x] [.sc (.slice (some ⟨b, 0, none⟩) n vc)] := ⟨rfl, fun j h1 h2 => by
    have : j = 0 := by simp at h1; omega
    subst this
    simp only [List.getElem_cons_zero]
    rw [hval, hn]; exact .sc _⟩
  refine ⟨fun h => by simp [fc, Fence.wide] at h, callsIn_fc (((hc ⟨b, 0, none⟩ n vc (by omega) hlt).2 F w _ s.mem.fok hi).mono ?_)⟩
  rintro e w' ⟨u, F', rfl, hu, g⟩
  obtain ⟨hm', S'⟩ := simM_grown s.mem g
  have hu' : u = .slice (some ⟨b, 0, none⟩) n n := by cases hu; rfl
  subst hu'
  obtain ⟨s1, S1⟩ := s.put (d := o.dst) (r := ⟨.tv i n 0 n (.val n), none⟩) (u := .slice (some ⟨b, 0, none⟩) n n) hm' (fun _ => rfl) S' hd (.tv i n 0 n _ _ (by rw [hGi]; simp) fun esz' es' fz' ho' => by
    rw [e4] at ho'; cases ho'
    exact ⟨by omega, fun _ => ⟨by omega, b, vc, by rw [hGi, hval, hn], .inl k2, n, by rw [Nat.zero_mul], Nat.le_refl _, .inr (.inl rfl)⟩⟩)
  exact h G F' _ w' s1 S1 (fun _ _ h => h)
end
end Go.Avl
namespace Go.Avl
open Go

/-- Operation i waits for m, at once or through others. -/
inductive Anc (l : List It) : Nat → Nat → Prop
  | base {i m : Nat} {t : It} (h : l[i]? = some t) (hm : m ∈ depsOf t.o) : Anc l i m
  | step {i e m : Nat} {t : It} (h : l[i]? = some t) (he : e ∈ depsOf t.o) (h2 : Anc l e m) : Anc l i m
def ancB (l : List It) : Nat → Nat → Nat → Bool
  | 0, _, _ => false
  | k + 1, i, m => match l[i]? with
    | none => false
    | some t => (depsOf t.o).contains m || (depsOf t.o).any fun e => ancB l k e m
theorem ancB_spec {l : List It} : ∀ {k i m : Nat}, ancB l k i m = true → Anc l i m
  | 0, _, _, h => by cases h
  | k + 1, i, m, h => by
    simp only [ancB] at h
    split at h
    · cases h
    · rename_i t ht
      rw [Bool.or_eq_true] at h
      rcases h with h | h
      · exact .base ht (by simpa using h)
      · rw [List.any_eq_true] at h
        obtain ⟨e, he, h⟩ := h
        exact .step ht he (ancB_spec h)
structure ConfA (l : List It) : Prop where
  back : ∀ i t, l[i]? = some t → ∀ e ∈ depsOf t.o, e < i
  edge : ∀ i m t u, l[i]? = some t → l[m]? = some u → i ≠ m → ∀ x, (x ∈ t.rd ∨ x ∈ wl t.o.dst t.r) → x ∈ wl u.o.dst u.r → Anc l i m ∨ Anc l m i
theorem ConfA.lt {l : List It} (hc : ConfA l) {i m : Nat} (h : Anc l i m) : m < i := by
  induction h with
  | base h hm => exact hc.back _ _ h _ hm
  | step h he _ ih => have := hc.back _ _ h _ he; omega
theorem Anc.closed {l : List It} {p : Nat → Bool} (hcl : ∀ i t, l[i]? = some t → p i = true → ∀ e ∈ depsOf t.o, p e = true) {i m : Nat} (h : Anc l i m) (hi : p i = true) : p m = true := by
  induction h with
  | base h hm => exact hcl _ _ h hi _ hm
  | step h he _ ih => exact ih (hcl _ _ h hi _ he)
theorem Anc.ready {l : List It} {p : Nat → Bool} (hcl : ∀ i t, l[i]? = some t → p i = true → ∀ e ∈ depsOf t.o, p e = true) {i m : Nat} {t : It} (h : Anc l i m) (ht : l[i]? = some t) (hd : ∀ e ∈ depsOf t.o, p e = true) : p m = true := by
  cases h with
  | base h hm => rw [ht] at h; cases h; exact hd _ hm
  | step h he h2 => rw [ht] at h; cases h; exact h2.closed hcl (hd _ he)
def confOneA (all : List It) (i : Nat) (t : It) : Nat → List It → Bool
  | _, [] => true
  | m, u :: l => (i == m || !((t.rd ++ wl t.o.dst t.r).any fun x => (wl u.o.dst u.r).contains x) || ancB all 4 i m || ancB all 4 m i) && confOneA all i t (m + 1) l
def confAllA (all : List It) : Nat → List It → Bool
  | _, [] => true
  | i, t :: l => (depsOf t.o).all (fun e => decide (e < i)) && confOneA all i t 0 all && confAllA all (i + 1) l

section
variable {P : Program} {fr : Fr} {ro : Option Nat} {ds : DS} {st st' : St} {Q : Exit → St → Prop} {G G' : Nat → Option Value} {F F' : Nat → Nat → Prop} {a : Act} {w w' : World}
  {M M' : Mem} {ops : Array Oper} {o : Oper} {id N : Nat} {S S' : Nat → Bool} {d : Option Nat} {r : Rc} {x y : Nat} {l : List It}

theorem confOneA_spec {all : List It} {i : Nat} {t : It} : ∀ (l : List It) (m0 : Nat), confOneA all i t m0 l = true → ∀ m u, l[m]? = some u → i ≠ m0 + m → ∀ x, (x ∈ t.rd ∨ x ∈ wl t.o.dst t.r) → x ∈ wl u.o.dst u.r → Anc all i (m0 + m) ∨ Anc all (m0 + m) i := by
  intro l
  induction l with
  | nil => intro m0 _ m u hm; simp at hm
  | cons u0 l ih =>
    intro m0 h m u hm hne x hx hu
    simp only [confOneA, Bool.and_eq_true] at h
    cases m with
    | zero =>
      have e : u0 = u := by simpa using hm
      subst e
      have h1 := h.1
      simp only [Bool.or_eq_true, beq_iff_eq, Bool.not_eq_true'] at h1
      rcases h1 with ((h1 | h1) | h1) | h1
      · exact absurd h1 (by simpa using hne)
      · rw [List.any_eq_false] at h1
        exact absurd (by simpa using hu) (h1 x (List.mem_append.2 hx))
      · exact .inl (ancB_spec h1)
      · exact .inr (ancB_spec h1)
    | succ m =>
      have := ih (m0 + 1) h.2 m u (by simpa using hm) (by omega) x hx hu
      rwa [show m0 + 1 + m = m0 + (m + 1) by omega] at this
theorem confAllA_spec {all : List It} : ∀ (l : List It) (i0 : Nat), confAllA all i0 l = true → ∀ i t, l[i]? = some t → (∀ e ∈ depsOf t.o, e < i0 + i) ∧ confOneA all (i0 + i) t 0 all = true := by
  intro l
  induction l with
  | nil => intro i0 _ i t ht; simp at ht
  | cons t0 l ih =>
    intro i0 h i t ht
    simp only [confAllA, Bool.and_eq_true, List.all_eq_true, decide_eq_true_eq] at h
    cases i with
    | zero =>
      have e : t0 = t := by simpa using ht
      subst e
      exact ⟨h.1.1, h.1.2⟩
    | succ i =>
      have := ih (i0 + 1) h.2 i t (by simpa using ht)
      rwa [show i0 + 1 + i = i0 + (i + 1) by omega] at this
theorem ConfA.of (h : confAllA l 0 l = true) : ConfA l where
  back := fun i t ht => by simpa using (confAllA_spec l 0 h i t ht).1
  edge := fun i m t u ht hu hne x hx hxu => by
    have := confOneA_spec l 0 (by simpa using (confAllA_spec l 0 h i t ht).2) m u hu (by simpa using hne) x hx hxu
    simpa using this

theorem drawAnyA {nx : Nat} {l : List It} {st : St} {G0 : Nat → Option Value} {F0 : Nat → Nat → Prop} {M0 : Mem} {w0 : World} (hops : ∀ i : Nat, (ops[i]? : Option Oper) = (l[i]?).map fun t => t.o) (hn : ops.size = l.length) (hc : ConfA l)
    (his : ∀ i t, l[i]? = some t → OpIs P fr ro ds ops (nx + i) (foldS fr (fun j => decide (j < i)) 0 l st) t)
    (hQ : ∀ G F a w, SimD P fr ds G F (foldS fr (fun _ => true) 0 l st) (nx + l.length) a w → (∀ j, nx + l.length ≤ j → G j = none) → Step (· < fr.base) G0 F0 M0 w0 G F (foldS fr (fun _ => true) 0 l st).mem w → Post P fr ds G0 F0 M0 w0 Q .normal a w) :
    ∀ (fuel : Nat) (listed : Array Bool) (G : Nat → Option Value) (F : Nat → Nat → Prop) (a : Act) (w : World), listed.size = l.length →
      SimD P fr ds G F (foldS fr (inS listed) 0 l st) (nx + l.length) a w → Step (· < fr.base) G0 F0 M0 w0 G F (foldS fr (inS listed) 0 l st).mem w →
      (∀ j, nx ≤ j → (∀ i, i < l.length → inS listed i = true → j ≠ nx + i) → G j = none) →
      (∀ i t, l[i]? = some t → inS listed i = true → ∀ e ∈ depsOf t.o, inS listed e = true) →
      (List.range l.length).countP (fun i => !inS listed i) ≤ fuel →
      wpAnyIn (fc ro) 0 P .any ops (Post P fr ds G0 F0 M0 w0 Q) fuel listed a w := by
  have allDone : ∀ (listed : Array Bool) (G : Nat → Option Value) (F : Nat → Nat → Prop) (a : Act) (w : World), SimD P fr ds G F (foldS fr (inS listed) 0 l st) (nx + l.length) a w → Step (· < fr.base) G0 F0 M0 w0 G F (foldS fr (inS listed) 0 l st).mem w →
      (∀ j, nx ≤ j → (∀ i, i < l.length → inS listed i = true → j ≠ nx + i) → G j = none) → (∀ i, i < l.length → inS listed i = true) → Post P fr ds G0 F0 M0 w0 Q .normal a w := by
    intro listed G F a w s S hfr hall
    have e : foldS fr (inS listed) 0 l st = foldS fr (fun _ => true) 0 l st := foldS_congr fun m hm => by rw [Nat.zero_add]; exact hall m hm
    rw [e] at s S
    exact hQ G F a w s (fun j hj => hfr j (by omega) fun i hi _ => by omega) S
  have readyOf : ∀ (listed : Array Bool), listed.size = l.length → ∀ i, i ∈ Region.ready .any ops listed ↔ inS listed i = false ∧ ∃ t, l[i]? = some t ∧ ∀ e ∈ depsOf t.o, inS listed e = true := by
    intro listed hsz i
    rw [mem_ready]
    constructor
    · rintro ⟨h1, o, ho, h2⟩
      rw [hops] at ho
      obtain ⟨t, ht, rfl⟩ := Option.map_eq_some_iff.1 ho
      have hi : i < l.length := (List.getElem?_eq_some_iff.1 ht).1
      refine ⟨?_, t, ht, fun e he => ?_⟩
      · unfold inS
        rw [Array.getD_eq_getD_getElem?] at h1 ⊢
        rw [Array.getElem?_eq_getElem (by omega)] at h1 ⊢
        exact h1
      · simp only [depsOf, List.mem_map, List.mem_filter] at he
        obtain ⟨e', ⟨he1, he2⟩, rfl⟩ := he
        exact h2 e' (by simpa using he1) he2
    · rintro ⟨h1, t, ht, h2⟩
      have hi : i < l.length := (List.getElem?_eq_some_iff.1 ht).1
      refine ⟨?_, t.o, by rw [hops, ht]; rfl, fun e he hb => h2 e.on ?_⟩
      · unfold inS at h1
        rw [Array.getD_eq_getD_getElem?] at h1 ⊢
        rw [Array.getElem?_eq_getElem (by omega)] at h1 ⊢
        exact h1
      · simp only [depsOf, List.mem_map, List.mem_filter]
        exact ⟨e, ⟨by simpa using he, hb⟩, rfl⟩
  have noneReady : ∀ (listed : Array Bool), listed.size = l.length → Region.ready .any ops listed = [] → ∀ i, i < l.length → inS listed i = true := by
    intro listed hsz hr i
    induction i using Nat.strongRecOn with
    | _ i ih =>
      intro hi
      cases hs : inS listed i with
      | true => rfl
      | false =>
        have : i ∈ Region.ready .any ops listed := (readyOf listed hsz i).2 ⟨hs, l[i], List.getElem?_eq_getElem hi, fun e he => by
          have := hc.back i l[i] (List.getElem?_eq_getElem hi) e he
          exact ih e this (by omega)⟩
        rw [hr] at this; cases this
  intro fuel
  induction fuel with
  | zero =>
    intro listed G F a w hsz s S hfr hcl hcount
    have hall : ∀ i, i < l.length → inS listed i = true := by
      intro i hi
      have h0 : (List.range l.length).countP (fun i => !inS listed i) = 0 := by omega
      rw [List.countP_eq_zero] at h0
      have := h0 i (by simpa using hi)
      simpa using this
    refine ⟨?_, allDone listed G F a w s S hfr hall⟩
    cases hr : Region.ready .any ops listed with
    | nil => rfl
    | cons i rs =>
      have := (readyOf listed hsz i).1 (by rw [hr]; exact List.mem_cons_self)
      obtain ⟨h1, t, ht, _⟩ := this
      rw [hall i (List.getElem?_eq_some_iff.1 ht).1] at h1; cases h1
  | succ fuel ih =>
    intro listed G F a w hsz s S hfr hcl hcount
    refine ⟨fun hr => allDone listed G F a w s S hfr (noneReady listed hsz hr), fun i hi => ?_⟩
    obtain ⟨hSi, t, ht, hdep⟩ := (readyOf listed hsz i).1 hi
    have hil : i < l.length := (List.getElem?_eq_some_iff.1 ht).1
    unfold wpOpIn
    rw [hops, ht]
    simp only [Option.map_some]
    have hadd : ∀ j, inS (listed.setIfInBounds i true) j = addS (inS listed) i j := by
      intro j
      unfold inS addS
      simp only [Array.getD_eq_getD_getElem?, Array.getElem?_setIfInBounds]
      by_cases h : i = j
      · subst h
        simp [show i < listed.size by omega]
      · simp [h, Ne.symm h]
    have hfold : foldS fr (inS (listed.setIfInBounds i true)) 0 l st = foldS fr (addS (inS listed) i) 0 l st := foldS_congr fun m _ => hadd _
    have hlook : ∀ x, look fr (foldS fr (inS (listed.setIfInBounds i true)) 0 l st) x = look fr (run1 fr t.o.dst t.r (foldS fr (inS listed) 0 l st)) x := by
      intro x
      rw [hfold]
      refine foldS_add ht hSi (fun m u hu hlt hSm x hx => ?_) x
      cases hw : wrt u.o.dst u.r x with
      | none => rfl
      | some v =>
        exfalso
        rcases hc.edge i m t u ht hu (by omega) x (.inr (wrt_wl hx)) (wrt_wl (by rw [hw]; rfl)) with h | h
        · have := hc.lt h; omega
        · have := h.closed hcl hSm
          rw [hSi] at this; cases this
    refine his i t ht _ G F a w (nx + l.length) _ _ s (by omega) (hfr _ (by omega) fun i' _ hS' he => ?_) (fun x hx => ?_) (fun G' F' a' w' s' S' hfr' => ?_)
    · have : i = i' := by omega
      subst this
      rw [hSi] at hS'; cases hS'
    · rw [look_foldS, look_foldS]
      refine lastW_agree l 0 _ fun m u hu hw => ?_
      rw [Nat.zero_add]
      by_cases hmi : m = i
      · subst hmi; rw [hSi]; simp
      · rcases hc.edge i m t u ht hu (fun h => hmi h.symm) x (.inl hx) (wrt_wl hw) with h | h
        · have := hc.lt h
          rw [h.ready hcl ht hdep]; simp [this]
        · have h1 := hc.lt h
          cases hSm : inS listed m with
          | false => simp; omega
          | true =>
            have := h.closed hcl hSm
            rw [hSi] at this; cases this
    · refine ih _ G' F' a' w' (by simpa using hsz) (s'.ext hlook) ((S.trans (S'.mono fun _ _ => trivial)).ext (look_mem hlook)) (fun j hj hne => ?_) (fun i' t' ht' hS' e he => ?_) ?_
      · refine hfr' j (hne i hil (by rw [hadd]; simp [addS])) (hfr j hj fun i' hi' hS' => hne i' hi' (by rw [hadd]; simp [addS, hS']))
      · rw [hadd] at hS' ⊢
        simp only [addS, Bool.or_eq_true, decide_eq_true_eq] at hS' ⊢
        rcases hS' with hS' | rfl
        · exact .inl (hcl i' t' ht' hS' e he)
        · rw [ht] at ht'; cases ht'
          exact .inl (hdep e he)
      · have := countP_less (p := fun i => !inS listed i) (q := fun j => !inS (listed.setIfInBounds i true) j) hil (by simp [hSi]) (by simp only [hadd]; simp [addS]) (fun j hj => by
          rw [hadd] at hj
          simp only [addS, Bool.not_or, Bool.and_eq_true] at hj
          exact hj.1)
        omega

/-- A region that draws its order. -/
theorem EvC.drawA {idr : Nat} {l : List Oper} {its : List It} (hm : P.follows .mixedOrders = true) (ht : Tr P fr ro ds l.toArray st.nx l st.clr its st') (hc : confAllA its 0 its = true)
    (hq : Q .normal ⟨st'.vars, st'.tmps, st'.mem, st.nx + its.length⟩) : EvC P fr ro ds (.region idr l.toArray true) st Q := by
  intro G0 F0 M0 w0 G F a w S s
  obtain ⟨h1, h2, h3⟩ := ht.spec
  obtain ⟨hm', S'⟩ := simM_drew (w' := { w with drawn := w.drawn + 1 }) (s.clr.sim.mem.more (Nat.le_add_right _ its.length)) rfl ⟨rfl, rfl, rfl, fun _ => rfl⟩
  have hlen : l.length = its.length := by rw [← h1]; simp
  refine wpIn_region_any hm ?_
  have hnone : ∀ i, inS (Array.replicate l.toArray.size false) i = false := fun i => by
    unfold inS
    simp only [Array.getD_eq_getD_getElem?, Array.getElem?_replicate]
    split <;> rfl
  have e : foldS fr (inS (Array.replicate l.toArray.size false)) 0 its st.clr = st.clr := by
    have : ∀ (l' : List It) (m : Nat) (st : St), foldS fr (inS (Array.replicate l.toArray.size false)) m l' st = st := by
      intro l'
      induction l' with
      | nil => intro m st; rfl
      | cons u l' ih => intro m st; simp only [foldS]; rw [hnone]; exact ih _ _
    exact this _ _ _
  refine drawAnyA (l := its) (nx := st.nx) (st := st.clr) (fun i => by rw [← h1]; simp) (by simp [hlen]) (ConfA.of hc) h2 (fun G F a w s hfr S => ?_) _ _ G F a _ (by simp [hlen]) ?_ ?_ (fun j hj _ => s.fresh j hj) (fun i t _ h => by rw [hnone] at h; cases h) ?_
  · refine ⟨G, F, _, ⟨⟨?_, fun k => ?_, s.size⟩, hfr, s.defers⟩, ?_, hq⟩
    · rw [h3]; exact s.mem
    · have := s.slots k
      rw [← h3] at this
      exact this
    · rw [← h3] at S; exact S
  · rw [e]
    exact ⟨hm', fun k => (s.clr.sim.slots k).step S' (fun _ _ => trivial), s.clr.sim.size, s.clr.defers⟩
  · rw [e]; exact S.trans (S'.mono fun _ _ => trivial)
  · refine Nat.le_trans List.countP_le_length (by simp [hlen])

theorem EvC.drwA {id : Nat} {l : List Oper} {its : List It} (hm : P.follows .mixedOrders = true) (ht : Tr P fr ro ds l.toArray st.nx l st.clr its st') (hc : confAllA its 0 its = true) (hq : Q .normal (st'.fin (st.nx + its.length))) : EvC P fr ro ds (.region id l.toArray true) st Q :=
  .clrQ (.drawA hm ht hc hq)
end
end Go.Avl
namespace Go.Avl
open Go

theorem Imm.nil_inv {F : Nat → Nat → Prop} {w : World} {v : Value} {c : Cp} (h : Imm F w v (.sl true [] c)) : ∃ va, v = .slice va 0 0 ∧ true = isNilSlice v := by
  cases h with
  | nil _ _ => exact ⟨none, rfl, rfl⟩

section
variable {P : Program} {fr : Fr} {ro : Option Nat} {ds : DS} {st st' : St} {Q Q' : Exit → St → Prop} {G G' : Nat → Option Value} {F F' : Nat → Nat → Prop} {a : Act} {w w' : World} {M M' : Mem}
  {ops : Array Oper} {l rest : List Oper} {o : Oper} {N id : Nat} {rd gs : List Nat}

/-- A new object without a block, that came with a call. -/
theorem simM_grownZ {nx : Nat} (hm : SimM P G F M nx w) (g : Grown F w F' w') (hid : G id = none) (hn : id < nx) (h : Value) (ob : RObj) (hb : blkOf h = none)
    (S' : Step All G F M w (upG G id h) F' ((id, ob) :: M) w' → ObjOk P (upG G id h) F' ((id, ob) :: M) w' id ob) :
    SimM P (upG G id h) F' ((id, ob) :: M) nx w' ∧ Step All G F M w (upG G id h) F' ((id, ob) :: M) w' := by
  have hne : ∀ j, G j ≠ none → j ≠ id := fun j hj e => hj (e ▸ hid)
  have S : Step All G F M w (upG G id h) F' ((id, ob) :: M) w' :=
    { kept := g.kept
      size := g.size
      out := fun b hb _ => g.old b hb
      F1 := g.F1
      F2 := fun b o' hF => cell?_same (g.old b (hm.inF b o' hF)) o'
      F3 := fun b o h => (g.F3 b o h).imp (fun h => h) fun h => .inl h
      own := fun b1 ⟨j, o', v, ho, hv, hbv⟩ => by
        by_cases e : j = id
        · subst e
          rw [upG_self] at hv; cases hv
          rw [hb] at hbv; cases hbv
        · rw [mlook_cons, if_neg e] at ho
          rw [upG_other G h e] at hv
          exact .inr ⟨j, o', v, ho, hv, hbv⟩
      some' := fun j _ hj => by rw [upG_other G h (hne j hj)]; exact hj
      same := fun j v _ hj _ => by rw [upG_other G h (hne j (by simp [hj]))]; exact hj
      keep := fun j o' _ hj ho => by
        have e := hne j hj
        rw [mlook_cons, if_neg e] at ho
        cases hv : G j with
        | none => exact absurd hv hj
        | some v => exact ⟨o', v, v, ho, rfl, by rw [upG_other G h e]; exact hv, objKeep.refl v o'⟩ }
  refine ⟨simM_gen hm S (fun j o' ho => ?_) (fun i j v v' b1 hi hj hv hv' hbv hbv' => ?_) g.inF, S⟩
  · by_cases e : j = id
    · subst e
      rw [mlook_cons, if_pos rfl] at ho; cases ho
      exact ⟨hn, .inl (S' S)⟩
    · rw [mlook_cons, if_neg e] at ho
      refine ⟨(hm.obj j o' ho).1, .inr ⟨ho, upG_other G h e, fun b1 v hv hbv => ?_⟩⟩
      have hlt : b1 < w.heap.size := hm.lt ⟨j, o', v, ho, hv, hbv⟩
      exact ⟨g.old b1 hlt, fun o h => by rcases g.F3 b1 o h with h | h; exact h; omega⟩
  · have nn : ∀ {j v b}, upG G id h j = some v → blkOf v = some b → j ≠ id := fun {j v b} hg hb1 e => by
      subst e; rw [upG_self] at hg; cases hg; rw [hb] at hb1; cases hb1
    have e1 := nn hv hbv
    have e2 := nn hv' hbv'
    rw [mlook_cons, if_neg e1] at hi
    rw [mlook_cons, if_neg e2] at hj
    rw [upG_other G _ e1] at hv
    rw [upG_other G _ e2] at hv'
    exact hm.inj i j v v' b1 hi hj hv hv' hbv hbv'

theorem SimD.callZ {f : FuncId} {cs : List AV} {callee : Operand} {args : Array Operand} {tys : Array TypeId} {xs : List AV} {esz : Nat} {nl : Bool} {r : AV} {K : Act → World → Prop} {Q1 : Exit → Act → World → Prop}
    (s : SimD P fr ds G F st N a w) (hN : id < N) (hid : G id = none) (hop : o.op = .call ⟨.value callee, args, tys⟩) (hd : dok fr o.dst = true) (hcal : od fr st true callee = .fn f cs)
    (hxs : callArgs fr st args ++ cs = xs) (hn : AV.norefs xs = true) (hz : ∀ {F w v}, Imm F w v r → ∃ va, v = .slice va 0 0 ∧ nl = isNilSlice v) (hc : PureIs P f xs r)
    (h : ∀ G' F' a' w', SimD P fr ds G' F' (run1 fr o.dst ⟨.tl id 0 nl, some (id, .arr esz [] true)⟩ st) N a' w' → Step All G F st.mem w G' F' (run1 fr o.dst ⟨.tl id 0 nl, some (id, .arr esz [] true)⟩ st).mem w' → (∀ j, j ≠ id → G j = none → G' j = none) → K a' w') : o.wpIn (fc ro) 0 P a w K Q1 := by
  refine ⟨fun _ _ => trivial, ?_⟩
  rw [Oper.semAt_eq _ _ _ (by rw [hop]; intro c h; cases h)]
  have hv := (s.eval callee).unopt
  have hv : RV G F st.mem w (a.eval callee) (.fn f cs) := by unfold od at hcal; rwa [hcal] at hv
  obtain ⟨vs, hev, hl, hcs⟩ := hv.inv_fn
  have hrun : (execOp a.eval o).run P w = .ok (.enter f ((args.toList.map a.eval ++ vs).toArray)) w := by
    obtain ⟨dst, op, ty, pos, after, guard⟩ := o
    simp only at hop
    subst hop
    simp only [execOp, resolve, hev, Deferred.ofValue, Sem.run_bind, Sem.run_pure, Result.andThen_ok, invoke]
    rw [hc.1]
    congr 2
    apply Array.ext'
    simp
  rw [hrun]
  have hi : Imms F w (args.toList.map a.eval ++ vs) xs := by
    subst hxs
    refine .of_rv (G := G) (M := st.mem) (by simp [callArgs, hl]) (fun i h1 h2 => ?_) hn
    by_cases hlt : i < args.toList.length
    · rw [List.getElem_append_left (by simpa using hlt), List.getElem_append_left (by simpa [callArgs] using hlt)]
      simp only [callArgs, List.getElem_map]
      exact ((s.eval _).unopt).snap s.mem
    · rw [List.getElem_append_right (by simpa using hlt), List.getElem_append_right (by simpa [callArgs] using hlt)]
      simp only [List.length_map, callArgs]
      exact hcs _ _ _
  refine ⟨fun h => by simp [fc, Fence.wide] at h, callsIn_fc ((hc.2 F w _ s.mem.fok hi).mono ?_)⟩
  rintro e w' ⟨v, F', rfl, q2, g⟩
  obtain ⟨va, e, hnl⟩ := hz q2
  have hbl : blkOf v = none := by subst e; cases va <;> simp [blkOf]
  obtain ⟨hm', S'⟩ := simM_grownZ (id := id) s.mem g hid hN v (.arr esz [] true) hbl fun S => .inl ⟨rfl, va, by rw [upG_self, e], fun _ _ => rfl⟩
  have hmid : mlook st.mem id = none := s.mem.noM hid
  obtain ⟨s1, S1⟩ := s.put (d := o.dst) (r := ⟨.tl id 0 nl, some (id, .arr esz [] true)⟩) (u := v) hm' (fun i => by
    simp only [Rc.mem]
    rw [mlook_mset, mlook_cons]) S' hd (by
      subst e
      exact .tl id 0 nl _ (by rw [upG_self]; simp) fun esz' es' fz' ho => by
        rw [mlook_cons, if_pos rfl] at ho; cases ho
        exact ⟨Nat.le_refl _, fun _ => ⟨upG_self _ _ _, hnl⟩⟩)
  exact h _ _ _ w' s1 S1 fun j hj hG => by rw [upG_other G _ hj]; exact hG

/-- A call whose result is a slice without room: as an object. -/
theorem OpIs.callZ {f : FuncId} {cs : List AV} {callee : Operand} {args : Array Operand} {tys : Array TypeId} {xs : List AV} {esz : Nat} {nl : Bool} {r : AV} (hg : o.guard = none) (hop : o.op = .call ⟨.value callee, args, tys⟩) (hd : dok fr o.dst = true)
    (hcal : od fr st true callee = .fn f cs) (hxs : callArgs fr st args ++ cs = xs) (hn : AV.norefs xs = true) (hrd : rdOf fr st [] o = rd) (hz : ∀ {F w v}, Imm F w v r → ∃ va, v = .slice va 0 0 ∧ nl = isNilSlice v) (hc : PureIs P f xs r) : OpIs P fr ro ds ops id st ⟨o, ⟨.tl id 0 nl, some (id, .arr esz [] true)⟩, rd⟩ := by
  intro st' G F a w N K Q1 s hN hG hl h
  simp only [Region.wanted, hg, if_true]
  obtain ⟨e1, e2⟩ := callArgs_look (gs := []) (by rw [hrd]; exact hl) hop
  exact s.callZ hN hG hop hd (by rw [e1]; exact hcal) (by rw [e2]; exact hxs) hn hz hc h
end
end Go.Avl
namespace Go.Avl
open Go

theorem Imm.nil_zer {F : Nat → Nat → Prop} {w : World} {v : Value} {c : Cp} (h : Imm F w v (.sl true [] c)) : Imm F w v (.sl true [] .zer) := by
  cases h with
  | nil _ _ => exact .nil _ (.inr (.inl rfl))
theorem PureIs.nilZ {P : Program} {f : FuncId} {args : List AV} {c : Cp} (h : PureIs P f args (.sl true [] c)) : PureIs P f args (.sl true [] .zer) :=
  ⟨h.1, fun F w vals hF hi => (h.2 F w vals hF hi).mono fun e w' ⟨v, F', k1, k2, k3⟩ => ⟨v, F', k1, k2.nil_zer, k3⟩⟩
/-- A nil slice. -/
def nilA (M : Mem) : AV → AV
  | .sl true [] _ => .sl true [] .zer
  | .tl j 0 true => match mlook M j with
    | some (.arr _ [] _) => .sl true [] .zer
    | _ => .tl j 0 true
  | v => v
def St.zerN (st : St) : St := ⟨st.vars, st.tmps, memMap (nilA st.mem) st.mem, st.nx⟩
attribute [go_sem] nilA St.zerN
section
variable {P : Program} {fr : Fr} {ro : Option Nat} {ds : DS} {st st' : St} {Q Q' : Exit → St → Prop} {G G' : Nat → Option Value} {F F' : Nat → Nat → Prop} {a : Act} {w w' : World} {M M' : Mem}
  {ops : Array Oper} {c : Code} {l rest : List Oper} {o : Oper} {N id : Nat} {rd gs : List Nat}

/-- Such a contract, from the body. -/
theorem nilA_rv {M : Mem} {nx : Nat} (hm : SimM P G F M nx w) {v : Value} {y : AV} (h : RV G F M w v y) : RV G F M w v (nilA M y) := by
  unfold nilA
  split
  · exact .imm h.inv_sl.nil_zer
  · rename_i j
    split
    · rename_i esz fz ho
      obtain ⟨_, hh⟩ := h.inv_tl
      obtain ⟨hG, hb⟩ := (hh _ _ _ ho).2 rfl
      rcases (hm.obj j _ ho).2 with ⟨h0, base, h1, _⟩ | ⟨b, c, cc, e, h1, _⟩
      · rw [hG] at h1; cases h1
        cases base with
        | none => exact .imm (.nil _ (.inr (.inl rfl)))
        | some a => simp [isNilSlice] at hb
      · rw [hG] at h1; cases h1
        simp [isNilSlice] at hb
    · exact h
  · exact h
theorem EvC.zerN (hc : EvC P fr ro ds c st.zerN Q) : EvC P fr ro ds c st Q :=
  EvC.conv (fun _ F _ _ s => let ⟨s', S'⟩ := s.memMap (f := nilA st.mem) fun _ _ h => nilA_rv s.sim.mem h; ⟨_, F, s', S'⟩) hc
theorem SimD.callT {f : FuncId} {cs : List AV} {callee : Operand} {args : Array Operand} {tys : Array TypeId} {xs : List AV} {esz : Nat} {es : List (List AV)} {K : Act → World → Prop} {Q1 : Exit → Act → World → Prop}
    (s : SimD P fr ds G F st N a w) (hN : id < N) (hid : G id = none) (hop : o.op = .call ⟨.value callee, args, tys⟩) (hd : dok fr o.dst = true) (hcal : od fr st true callee = .fn f cs)
    (hxs : callArgs fr st args ++ cs = xs) (hn : AV.norefs xs = true) (hc : PureNew P f xs esz es)
    (h : ∀ G' F' a' w', SimD P fr ds G' F' (run1 fr o.dst ⟨.tv id es.length 0 es.length .rest, some (id, .arr esz es false)⟩ st) N a' w' → Step All G F st.mem w G' F' (run1 fr o.dst ⟨.tv id es.length 0 es.length .rest, some (id, .arr esz es false)⟩ st).mem w' → (∀ j, j ≠ id → G j = none → G' j = none) → K a' w') : o.wpIn (fc ro) 0 P a w K Q1 := by
  refine ⟨fun _ _ => trivial, ?_⟩
  rw [Oper.semAt_eq _ _ _ (by rw [hop]; intro c h; cases h)]
  have hv := (s.eval callee).unopt
  have hv : RV G F st.mem w (a.eval callee) (.fn f cs) := by unfold od at hcal; rwa [hcal] at hv
  obtain ⟨vs, hev, hl, hcs⟩ := hv.inv_fn
  have hrun : (execOp a.eval o).run P w = .ok (.enter f ((args.toList.map a.eval ++ vs).toArray)) w := by
    obtain ⟨dst, op, ty, pos, after, guard⟩ := o
    simp only at hop
    subst hop
    simp only [execOp, resolve, hev, Deferred.ofValue, Sem.run_bind, Sem.run_pure, Result.andThen_ok, invoke]
    rw [hc.1]
    congr 2
    apply Array.ext'
    simp
  rw [hrun]
  have hi : Imms F w (args.toList.map a.eval ++ vs) xs := by
    subst hxs
    refine .of_rv (G := G) (M := st.mem) (by simp [callArgs, hl]) (fun i h1 h2 => ?_) hn
    by_cases hlt : i < args.toList.length
    · rw [List.getElem_append_left (by simpa using hlt), List.getElem_append_left (by simpa [callArgs] using hlt)]
      simp only [callArgs, List.getElem_map]
      exact ((s.eval _).unopt).snap s.mem
    · rw [List.getElem_append_right (by simpa using hlt), List.getElem_append_right (by simpa [callArgs] using hlt)]
      simp only [List.length_map, callArgs]
      exact hcs _ _ _
  refine ⟨fun h => by simp [fc, Fence.wide] at h, callsIn_fc ((hc.2 F w _ s.mem.fok hi).mono ?_)⟩
  rintro e w' ⟨b, c, cc, el, F', rfl, q2, qb, q3, q4, q5, q6, q7, q8, g⟩
  obtain ⟨hm', S'⟩ := simM_grownNew (id := id) s.mem g hid hN (.slice (some ⟨b, 0, none⟩) es.length c) (.arr esz es false) (by simp [blkOf, q2]) qb fun S =>
    .inr ⟨b, c, cc, el, upG_self _ _ _, q2, q3, q4, q5, q6, fun i j hi hj => by
      obtain ⟨v, k1, k2, k3⟩ := q7 i j hi hj
      exact ⟨v, k1, k2, .imm k3⟩, fun o hF => absurd hF (q8 o), fun hz => by cases hz⟩
  have hmid : mlook st.mem id = none := s.mem.noM hid
  obtain ⟨s1, S1⟩ := s.put (d := o.dst) (r := ⟨.tv id es.length 0 es.length .rest, some (id, .arr esz es false)⟩) (u := .slice (some ⟨b, 0, none⟩) es.length c) hm' (fun i => by
    simp only [Rc.mem]
    rw [mlook_mset, mlook_cons]) S' hd (.tv id es.length 0 es.length .rest _ (by rw [upG_self]; simp) fun esz' es' fz' ho => by
      rw [mlook_cons, if_pos rfl] at ho; cases ho
      exact ⟨Nat.le_refl _, fun _ => ⟨by omega, b, c, upG_self _ _ _, .inl q2, c, by rw [Nat.zero_mul], q4, .inr (.inr ⟨rfl, by omega⟩)⟩⟩)
  exact h _ _ _ w' s1 S1 fun j hj hG => by rw [upG_other G _ hj]; exact hG

/-- A call whose result is a new object: the whole view of it. -/
theorem OpIs.callT {f : FuncId} {cs : List AV} {callee : Operand} {args : Array Operand} {tys : Array TypeId} {xs : List AV} {esz : Nat} {es : List (List AV)} (hg : o.guard = none) (hop : o.op = .call ⟨.value callee, args, tys⟩) (hd : dok fr o.dst = true)
    (hcal : od fr st true callee = .fn f cs) (hxs : callArgs fr st args ++ cs = xs) (hn : AV.norefs xs = true) (hrd : rdOf fr st [] o = rd) (hc : PureNew P f xs esz es) : OpIs P fr ro ds ops id st ⟨o, ⟨.tv id es.length 0 es.length .rest, some (id, .arr esz es false)⟩, rd⟩ := by
  intro st' G F a w N K Q1 s hN hG hl h
  simp only [Region.wanted, hg, if_true]
  obtain ⟨e1, e2⟩ := callArgs_look (gs := []) (by rw [hrd]; exact hl) hop
  exact s.callT hN hG hop hd (by rw [e1]; exact hcal) (by rw [e2]; exact hxs) hn hc h
end
end Go.Avl
namespace Go.Avl
open Go

def St.mapE (f : AV → AV) (j k : Nat) (st : St) : Option St :=
  match mlook st.mem j with
  | some (.arr esz es false) => match es[k]? with
    | some c => some ⟨st.vars, st.tmps, mset st.mem j (.arr esz (es.set k (c.map f)) false), st.nx⟩
    | none => none
  | _ => none
attribute [go_sem] St.mapE
section
variable {P : Program} {fr : Fr} {ro : Option Nat} {ds : DS} {st st' : St} {Q Q' : Exit → St → Prop} {G G' : Nat → Option Value} {F F' : Nat → Nat → Prop} {a : Act} {w w' : World} {x y c : Code} {M : Mem}
theorem simM_mapE {nx j esz k : Nat} {es : List (List AV)} {c0 : List AV} {f : AV → AV} (hm : SimM P G F M nx w) (ho : mlook M j = some (.arr esz es false)) (hk : es[k]? = some c0) (hf : ∀ v y, RV G F M w v y → RV G F M w v (f y)) :
    SimM P G F (mset M j (.arr esz (es.set k (c0.map (f))) false)) nx w ∧ Step All G F M w G F (mset M j (.arr esz (es.set k (c0.map (f))) false)) w := by
  obtain ⟨es', hes⟩ : ∃ es', es' = es.set k (c0.map (f)) := ⟨_, rfl⟩
  rw [← hes]
  have hle : es'.length = es.length := by rw [hes, List.length_set]
  have hold := (hm.obj j _ ho).2
  have S : Step All G F M w G F (mset M j (.arr esz es' false)) w :=
    { kept := .refl
      size := Nat.le_refl _
      out := fun _ _ _ => rfl
      F1 := fun _ _ h => h
      F2 := fun _ _ _ => rfl
      F3 := fun b o h => .inl h
      own := fun b ⟨id, o, v, h3, h4, h5⟩ => by
        rw [mlook_mset] at h3
        by_cases hi : id = j
        · subst hi; exact .inr ⟨id, _, v, ho, h4, h5⟩
        · rw [if_neg hi] at h3; exact .inr ⟨id, o, v, h3, h4, h5⟩
      some' := fun _ _ h => h
      same := fun _ _ _ h _ => h
      keep := fun id o' _ hG h3 => by
        obtain ⟨v, hv⟩ := Option.ne_none_iff_exists'.1 hG
        rw [mlook_mset] at h3
        by_cases hi : id = j
        · subst hi
          rw [if_pos rfl] at h3; cases h3
          exact ⟨_, v, v, ho, hv, hv, ⟨rfl, .inl ⟨hle, rfl⟩⟩⟩
        · rw [if_neg hi] at h3
          exact ⟨o', v, v, h3, hv, hv, objKeep.refl v o'⟩ }
  have hinj : ∀ id id' v v' b, mlook (mset M j (.arr esz es' false)) id ≠ none → mlook (mset M j (.arr esz es' false)) id' ≠ none → G id = some v → G id' = some v' → blkOf v = some b → blkOf v' = some b → id = id' := by
    intro id id' v v' b h1 h2
    refine hm.inj id id' v v' b ?_ ?_
    · rw [mlook_mset] at h1; by_cases hi : id = j
      · subst hi; rw [ho]; simp
      · rwa [if_neg hi] at h1
    · rw [mlook_mset] at h2; by_cases hi : id' = j
      · subst hi; rw [ho]; simp
      · rwa [if_neg hi] at h2
  refine ⟨simM_gen hm S (fun id o' h => ?_) hinj hm.inF, S⟩
  rw [mlook_mset] at h
  by_cases hi : id = j
  · subst hi; rw [if_pos rfl] at h; cases h
    refine ⟨(hm.obj id _ ho).1, .inl ?_⟩
    have hkl : k < es.length := (List.getElem?_eq_some_iff.1 hk).1
    have hke : es[k] = c0 := by rw [List.getElem?_eq_getElem hkl] at hk; exact Option.some.inj hk
    rcases hold with ⟨h0, _⟩ | ⟨b, c, cc, e, h1, h2, h3, h4, h5, h6, h7, h8, h9⟩
    · rw [h0] at hkl; exact absurd hkl (Nat.not_lt_zero _)
    · refine .inr ⟨b, c, cc, e, by rw [hle]; exact h1, h2, h3, by rw [hle]; exact h4, h5, fun i hi' => ?_, fun i l hi' hl' => ?_, fun o h => absurd (h8 o h).1 (by simp), fun h => (by cases h)⟩
      · have hi2 : i < es.length := by rw [← hle]; exact hi'
        simp only [hes, List.getElem_set]
        split
        · rename_i e1; subst e1; rw [List.length_map, ← hke]; exact h6 _ hi2
        · exact h6 _ hi2
      · have hi2 : i < es.length := by rw [← hle]; exact hi'
        by_cases e1 : k = i
        · subst e1
          have e2 : es'[k] = es[k].map (f) := by simp [hes, hke]
          have hl2 : l < es[k].length := by rw [e2, List.length_map] at hl'; exact hl'
          obtain ⟨v, k1, k2, k3⟩ := h7 k l hi2 hl2
          refine ⟨v, k1, k2, ?_⟩
          have e3 : es'[k][l] = f es[k][l] := by simp [e2]
          rw [e3]
          exact (hf _ _ k3).step S fun _ _ => trivial
        · have e2 : es'[i] = es[i] := by simp [hes, e1]
          have hl2 : l < es[i].length := by rw [e2] at hl'; exact hl'
          obtain ⟨v, k1, k2, k3⟩ := h7 i l hi2 hl2
          have e3 : es'[i][l] = es[i][l] := by simp [e2]
          exact ⟨v, k1, k2, by rw [e3]; exact k3.step S fun _ _ => trivial⟩
  · rw [if_neg hi] at h
    exact ⟨(hm.obj id _ h).1, .inr ⟨h, rfl, fun b v hG hb => ⟨rfl, fun _ h => h⟩⟩⟩
theorem SimA.mapE {j k : Nat} {f : AV → AV} (s : SimA P fr ds G F st a w) (h : st.mapE f j k = some st') (hf : ∀ v y, RV G F st.mem w v y → RV G F st.mem w v (f y)) : SimA P fr ds G F st' a w ∧ Step (· < fr.base) G F st.mem w G F st'.mem w := by
  unfold St.mapE at h
  split at h
  · rename_i esz es ho
    split at h
    · rename_i c0 hk
      cases h
      obtain ⟨hm', S'⟩ := simM_mapE s.sim.mem ho hk hf
      exact ⟨⟨⟨hm', fun k => (s.sim.slots k).step S' (fun _ _ => trivial), s.sim.size⟩, s.fresh, s.defers⟩, S'.mono fun _ _ => trivial⟩
    · cases h
  · cases h
/-- A nil row. -/
theorem EvC.nilE (j k : Nat) (h : st.mapE (nilA st.mem) j k = some st') (hc : EvC P fr ro ds c st' Q) : EvC P fr ro ds c st Q :=
  EvC.conv (fun _ _ _ _ s => let ⟨s', S'⟩ := s.mapE h fun _ _ h => nilA_rv s.sim.mem h; ⟨_, _, s', S'⟩) hc
/-- A row that is all of its object. -/
theorem EvC.tvE (i j k : Nat) (h : st.mapE (tvOf st.mem i) j k = some st') (hc : EvC P fr ro ds c st' Q) : EvC P fr ro ds c st Q :=
  EvC.conv (fun _ _ _ _ s => let ⟨s', S'⟩ := s.mapE h fun _ _ h => tvOf_rv s.sim.mem h; ⟨_, _, s', S'⟩) hc
end
end Go.Avl
namespace Go.Avl
open Go

section
variable {P : Program} {fr : Fr} {ro : Option Nat} {ds : DS} {st st' : St} {G G' : Nat → Option Value} {F F' : Nat → Nat → Prop} {a : Act} {w w' : World} {M M' : Mem}
  {ops : Array Oper} {o : Oper} {N id : Nat} {rd gs : List Nat}

theorem app_zer {t t' e e' ty : TypeId} {ti : TI} {nx : Nat} (hm : SimM P G F M nx w) (ht : telem P t = some e) (ht' : telem P t' = some e') (hti : tinfo P e = some ti) {v u : Value} {nl nl' : Bool} {c : Cp}
    (hv : RV G F M w v (.sl nl [] .zer)) (hu : RV G F M w u (.sl nl' [] c)) :
    ((do pure (Next.value (← Builtin.append_ #[t, t'] ty #[v, u])) : Sem Next).run P w) = .ok (.value v) w := by
  obtain ⟨va, rfl⟩ : ∃ va, v = .slice va 0 0 := by
    cases hv.inv_sl with
    | nil _ _ => exact ⟨none, rfl⟩
    | sz a _ _ => exact ⟨some a, rfl⟩
    | sl b off c esz _ _ vs hc hcap hes hF hi =>
      rcases hcap with h | ⟨_, h⟩ | ⟨h, _⟩ | h
      · cases h
      · subst h; exact ⟨some ⟨b, off, none⟩, rfl⟩
      · cases h
      · cases h
  obtain ⟨_, hlen, cy, hcy, hry⟩ := elems_cells (size := ti.size) hm hu (ys := []) rfl (fun i h => by simp at h)
  have hcy0 : cy = [] := by have := hry.1; simpa using this
  subst hcy0
  exact run_v (run_append_place (w' := w) (ty := ty) ht ht' hti (base := va) (sLen := 0) (sCap := 0) hlen hcy (by simp) (fun a _ => by simp [storeCells]) (fun _ => rfl))

theorem OpIs.appZ {x y : Operand} {t t' e e' : TypeId} {ti : TI} {nl nl' : Bool} {c : Cp} (hg : o.guard = none) (hop : o.op = .call ⟨.builtin .append, #[x, y], #[t, t']⟩) (hd : dok fr o.dst = true)
    (ht : telem P t = some e) (ht' : telem P t' = some e') (hti : tinfo P e = some ti) (hx : od fr st true x = .sl nl [] .zer) (hy : od fr st true y = .sl nl' [] c) (hrd : rdOf fr st [] o = rd) :
    OpIs P fr ro ds ops id st ⟨o, ⟨.sl nl [] .zer, none⟩, rd⟩ := by
  intro st' G F a w N K Q1 s hN hG hl h
  simp only [Region.wanted, hg, if_true]
  have hlk : ∀ z ∈ o.op.operands.toList, opnd fr st' z = opnd fr st z := fun z hz => by
    cases z with
    | tmp k => exact look_slot (hl _ (by rw [← hrd]; unfold rdOf; exact List.mem_append_right _ (List.mem_append_left _ (opSlots_mem hz))))
    | _ => rfl
  rw [hop] at hlk
  have hx' : RV G F st'.mem w (a.eval x) (.sl nl [] .zer) := by
    rw [← hx, od, ← hlk x (by simp [Op.operands, Call.operands])]
    exact od_rv s.eval x
  have hy' : RV G F st'.mem w (a.eval y) (.sl nl' [] c) := by
    rw [← hy, od, ← hlk y (by simp [Op.operands, Call.operands])]
    exact od_rv s.eval y
  refine ⟨fun _ _ => trivial, ?_⟩
  rw [Oper.semAt_eq _ _ _ (by rw [hop]; intro c hc; cases hc)]
  have hrun : (execOp a.eval o).run P w = .ok (.value (a.eval x)) w := by
    obtain ⟨dst, op, ty, pos, after, guard⟩ := o
    simp only at hop
    subst hop
    rw [exec_builtin]
    simp only [List.map_toArray, List.map_cons, List.map_nil]
    exact app_zer (ty := ty) s.mem ht ht' hti hx' hy'
  rw [hrun]
  obtain ⟨s1, S1⟩ := s.put (d := o.dst) (r := ⟨.sl nl [] .zer, none⟩) (u := a.eval x) s.mem (fun _ => rfl) .refl hd hx'
  exact h _ _ _ _ s1 S1 (fun _ _ h => h)
end
end Go.Avl
namespace Go.Avl
open Go Go.Proofs.Tryd
@[go_sem] theorem ty_cellsOf_101 : Program.cellsOf prog 101 = 1 := by kernel_rfl
@[go_sem] theorem ty_cellsOf_107 : Program.cellsOf prog 107 = 1 := by kernel_rfl
@[go_sem] theorem ty_cellsOf_109 : Program.cellsOf prog 109 = 1 := by kernel_rfl
@[go_sem] theorem ty_cellsOf_116 : Program.cellsOf prog 116 = 1 := by kernel_rfl
@[go_sem] theorem ty_cellsOf_118 : Program.cellsOf prog 118 = 2 := by kernel_rfl
@[go_sem] theorem ty_cellsOf_147 : Program.cellsOf prog 147 = 4 := by kernel_rfl
@[go_sem] theorem ty_cellsOf_22 : Program.cellsOf prog 22 = 1 := by kernel_rfl
@[go_sem] theorem ty_cellsOf_23 : Program.cellsOf prog 23 = 1 := by kernel_rfl
@[go_sem] theorem ty_cellsOf_25 : Program.cellsOf prog 25 = 2 := by kernel_rfl
@[go_sem] theorem ty_cellsOf_3 : Program.cellsOf prog 3 = 1 := by kernel_rfl
@[go_sem] theorem ty_cellsOf_32 : Program.cellsOf prog 32 = 1 := by kernel_rfl
@[go_sem] theorem ty_cellsOf_39 : Program.cellsOf prog 39 = 1 := by kernel_rfl
@[go_sem] theorem ty_cellsOf_4 : Program.cellsOf prog 4 = 1 := by kernel_rfl
@[go_sem] theorem ty_cellsOf_41 : Program.cellsOf prog 41 = 5 := by kernel_rfl
@[go_sem] theorem ty_cellsOf_46 : Program.cellsOf prog 46 = 1 := by kernel_rfl
@[go_sem] theorem ty_cellsOf_48 : Program.cellsOf prog 48 = 3 := by kernel_rfl
@[go_sem] theorem ty_cellsOf_49 : Program.cellsOf prog 49 = 1 := by kernel_rfl
@[go_sem] theorem ty_cellsOf_5 : Program.cellsOf prog 5 = 1 := by kernel_rfl
@[go_sem] theorem ty_cellsOf_52 : Program.cellsOf prog 52 = 1 := by kernel_rfl
@[go_sem] theorem ty_cellsOf_54 : Program.cellsOf prog 54 = 1 := by kernel_rfl
@[go_sem] theorem ty_cellsOf_69 : Program.cellsOf prog 69 = 2 := by kernel_rfl
@[go_sem] theorem ty_cellsOf_84 : Program.cellsOf prog 84 = 1 := by kernel_rfl
@[go_sem] theorem ty_cellsOf_88 : Program.cellsOf prog 88 = 6 := by kernel_rfl
@[go_sem] theorem ty_cellsOf_91 : Program.cellsOf prog 91 = 2 := by kernel_rfl
@[go_sem] theorem ty_cellsOf_92 : Program.cellsOf prog 92 = 1 := by kernel_rfl
@[go_sem] theorem ty_cellsOf_94 : Program.cellsOf prog 94 = 4 := by kernel_rfl
@[go_sem] theorem ty_eqKinds_116 : eqKinds prog 116 = none := by kernel_rfl
@[go_sem] theorem ty_eqKinds_23 : eqKinds prog 23 = none := by kernel_rfl
@[go_sem] theorem ty_eqKinds_26 : eqKinds prog 26 = none := by kernel_rfl
@[go_sem] theorem ty_eqKinds_3 : eqKinds prog 3 = none := by kernel_rfl
@[go_sem] theorem ty_eqKinds_5 : eqKinds prog 5 = none := by kernel_rfl
@[go_sem] theorem ty_eqKinds_69 : eqKinds prog 69 = some [Kd.int IntKind.i64, Kd.int IntKind.i64] := by kernel_rfl
@[go_sem] theorem ty_eqKinds_84 : eqKinds prog 84 = none := by kernel_rfl
@[go_sem] theorem ty_eqKinds_91 : eqKinds prog 91 = some [Kd.int IntKind.i64, Kd.int IntKind.i64] := by kernel_rfl
@[go_sem] theorem ty_eqKinds_92 : eqKinds prog 92 = none := by kernel_rfl
@[go_sem] theorem ty_eqKinds_94 : eqKinds prog 94 = some [Kd.int IntKind.u64, Kd.int IntKind.u64, Kd.int IntKind.u64, Kd.int IntKind.u64] := by kernel_rfl
@[go_sem] theorem ty_nilTy_116 : nilTy prog 116 = 0 := by kernel_rfl
@[go_sem] theorem ty_nilTy_23 : nilTy prog 23 = 1 := by kernel_rfl
@[go_sem] theorem ty_nilTy_26 : nilTy prog 26 = 0 := by kernel_rfl
@[go_sem] theorem ty_nilTy_3 : nilTy prog 3 = 0 := by kernel_rfl
@[go_sem] theorem ty_nilTy_5 : nilTy prog 5 = 0 := by kernel_rfl
@[go_sem] theorem ty_nilTy_69 : nilTy prog 69 = 0 := by kernel_rfl
@[go_sem] theorem ty_nilTy_84 : nilTy prog 84 = 1 := by kernel_rfl
@[go_sem] theorem ty_nilTy_91 : nilTy prog 91 = 0 := by kernel_rfl
@[go_sem] theorem ty_nilTy_92 : nilTy prog 92 = 0 := by kernel_rfl
@[go_sem] theorem ty_nilTy_94 : nilTy prog 94 = 0 := by kernel_rfl
@[go_sem] theorem ty_placeOf_103_0 : placeOf prog 103 0 = some (0, 1) := by kernel_rfl
@[go_sem] theorem ty_placeOf_103_2 : placeOf prog 103 2 = some (2, 1) := by kernel_rfl
@[go_sem] theorem ty_placeOf_147_0 : placeOf prog 147 0 = some (0, 1) := by kernel_rfl
@[go_sem] theorem ty_placeOf_147_1 : placeOf prog 147 1 = some (1, 1) := by kernel_rfl
@[go_sem] theorem ty_placeOf_147_2 : placeOf prog 147 2 = some (2, 1) := by kernel_rfl
@[go_sem] theorem ty_placeOf_147_3 : placeOf prog 147 3 = some (3, 1) := by kernel_rfl
@[go_sem] theorem ty_placeOf_148_0 : placeOf prog 148 0 = some (0, 4) := by kernel_rfl
@[go_sem] theorem ty_placeOf_148_1 : placeOf prog 148 1 = some (4, 4) := by kernel_rfl
@[go_sem] theorem ty_placeOf_148_2 : placeOf prog 148 2 = some (8, 4) := by kernel_rfl
@[go_sem] theorem ty_placeOf_148_3 : placeOf prog 148 3 = some (12, 4) := by kernel_rfl
@[go_sem] theorem ty_placeOf_148_4 : placeOf prog 148 4 = some (16, 4) := by kernel_rfl
@[go_sem] theorem ty_placeOf_25_0 : placeOf prog 25 0 = some (0, 1) := by kernel_rfl
@[go_sem] theorem ty_placeOf_25_1 : placeOf prog 25 1 = some (1, 1) := by kernel_rfl
@[go_sem] theorem ty_placeOf_48_0 : placeOf prog 48 0 = some (0, 1) := by kernel_rfl
@[go_sem] theorem ty_placeOf_48_1 : placeOf prog 48 1 = some (1, 1) := by kernel_rfl
@[go_sem] theorem ty_placeOf_48_2 : placeOf prog 48 2 = some (2, 1) := by kernel_rfl
@[go_sem] theorem ty_placeOf_69_0 : placeOf prog 69 0 = some (0, 1) := by kernel_rfl
@[go_sem] theorem ty_placeOf_69_1 : placeOf prog 69 1 = some (1, 1) := by kernel_rfl
@[go_sem] theorem ty_placeOf_88_0 : placeOf prog 88 0 = some (0, 1) := by kernel_rfl
@[go_sem] theorem ty_placeOf_88_1 : placeOf prog 88 1 = some (1, 1) := by kernel_rfl
@[go_sem] theorem ty_placeOf_88_2 : placeOf prog 88 2 = some (2, 1) := by kernel_rfl
@[go_sem] theorem ty_placeOf_88_3 : placeOf prog 88 3 = some (3, 1) := by kernel_rfl
@[go_sem] theorem ty_placeOf_88_4 : placeOf prog 88 4 = some (4, 1) := by kernel_rfl
@[go_sem] theorem ty_placeOf_88_5 : placeOf prog 88 5 = some (5, 1) := by kernel_rfl
@[go_sem] theorem ty_placeOf_91_0 : placeOf prog 91 0 = some (0, 1) := by kernel_rfl
@[go_sem] theorem ty_placeOf_91_1 : placeOf prog 91 1 = some (1, 1) := by kernel_rfl
@[go_sem] theorem ty_tarr_101 : tarr prog 101 = none := by kernel_rfl
@[go_sem] theorem ty_tarr_109 : tarr prog 109 = none := by kernel_rfl
@[go_sem] theorem ty_tarr_148 : tarr prog 148 = some (5, 147) := by kernel_rfl
@[go_sem] theorem ty_tarr_22 : tarr prog 22 = none := by kernel_rfl
@[go_sem] theorem ty_tarr_23 : tarr prog 23 = none := by kernel_rfl
@[go_sem] theorem ty_tarr_32 : tarr prog 32 = none := by kernel_rfl
@[go_sem] theorem ty_tarr_39 : tarr prog 39 = none := by kernel_rfl
@[go_sem] theorem ty_tarr_44 : tarr prog 44 = none := by kernel_rfl
@[go_sem] theorem ty_tarr_45 : tarr prog 45 = some (2, 5) := by kernel_rfl
@[go_sem] theorem ty_tarr_46 : tarr prog 46 = none := by kernel_rfl
@[go_sem] theorem ty_tarr_49 : tarr prog 49 = none := by kernel_rfl
@[go_sem] theorem ty_tarr_52 : tarr prog 52 = none := by kernel_rfl
@[go_sem] theorem ty_tarr_54 : tarr prog 54 = none := by kernel_rfl
@[go_sem] theorem ty_tarr_60 : tarr prog 60 = none := by kernel_rfl
@[go_sem] theorem ty_tarr_69 : tarr prog 69 = some (2, 3) := by kernel_rfl
@[go_sem] theorem ty_tarr_84 : tarr prog 84 = none := by kernel_rfl
@[go_sem] theorem ty_tarr_94 : tarr prog 94 = some (4, 92) := by kernel_rfl
@[go_sem] theorem ty_tarr_95 : tarr prog 95 = none := by kernel_rfl
@[go_sem] theorem ty_tbool_116 : tbool prog 116 = false := by kernel_rfl
@[go_sem] theorem ty_tbool_23 : tbool prog 23 = false := by kernel_rfl
@[go_sem] theorem ty_tbool_26 : tbool prog 26 = false := by kernel_rfl
@[go_sem] theorem ty_tbool_3 : tbool prog 3 = false := by kernel_rfl
@[go_sem] theorem ty_tbool_5 : tbool prog 5 = false := by kernel_rfl
@[go_sem] theorem ty_tbool_69 : tbool prog 69 = false := by kernel_rfl
@[go_sem] theorem ty_tbool_84 : tbool prog 84 = false := by kernel_rfl
@[go_sem] theorem ty_tbool_91 : tbool prog 91 = false := by kernel_rfl
@[go_sem] theorem ty_tbool_92 : tbool prog 92 = false := by kernel_rfl
@[go_sem] theorem ty_tbool_94 : tbool prog 94 = false := by kernel_rfl
@[go_sem] theorem ty_tbuild_103 : tbuild prog 103 = true := by kernel_rfl
@[go_sem] theorem ty_tbuild_147 : tbuild prog 147 = true := by kernel_rfl
@[go_sem] theorem ty_tbuild_148 : tbuild prog 148 = true := by kernel_rfl
@[go_sem] theorem ty_tbuild_25 : tbuild prog 25 = true := by kernel_rfl
@[go_sem] theorem ty_tbuild_48 : tbuild prog 48 = true := by kernel_rfl
@[go_sem] theorem ty_tbuild_69 : tbuild prog 69 = true := by kernel_rfl
@[go_sem] theorem ty_tbuild_88 : tbuild prog 88 = true := by kernel_rfl
@[go_sem] theorem ty_tbuild_91 : tbuild prog 91 = true := by kernel_rfl
@[go_sem] theorem ty_tbuild_94 : tbuild prog 94 = true := by kernel_rfl
@[go_sem] theorem ty_telem_100 : telem prog 100 = none := by kernel_rfl
@[go_sem] theorem ty_telem_101 : telem prog 101 = some 94 := by kernel_rfl
@[go_sem] theorem ty_telem_109 : telem prog 109 = some 48 := by kernel_rfl
@[go_sem] theorem ty_telem_129 : telem prog 129 = none := by kernel_rfl
@[go_sem] theorem ty_telem_133 : telem prog 133 = none := by kernel_rfl
@[go_sem] theorem ty_telem_148 : telem prog 148 = none := by kernel_rfl
@[go_sem] theorem ty_telem_22 : telem prog 22 = some 25 := by kernel_rfl
@[go_sem] theorem ty_telem_23 : telem prog 23 = some 3 := by kernel_rfl
@[go_sem] theorem ty_telem_3 : telem prog 3 = none := by kernel_rfl
@[go_sem] theorem ty_telem_32 : telem prog 32 = some 69 := by kernel_rfl
@[go_sem] theorem ty_telem_39 : telem prog 39 = some 107 := by kernel_rfl
@[go_sem] theorem ty_telem_4 : telem prog 4 = none := by kernel_rfl
@[go_sem] theorem ty_telem_41 : telem prog 41 = none := by kernel_rfl
@[go_sem] theorem ty_telem_43 : telem prog 43 = none := by kernel_rfl
@[go_sem] theorem ty_telem_44 : telem prog 44 = some 54 := by kernel_rfl
@[go_sem] theorem ty_telem_45 : telem prog 45 = none := by kernel_rfl
@[go_sem] theorem ty_telem_46 : telem prog 46 = some 84 := by kernel_rfl
@[go_sem] theorem ty_telem_48 : telem prog 48 = none := by kernel_rfl
@[go_sem] theorem ty_telem_49 : telem prog 49 = some 88 := by kernel_rfl
@[go_sem] theorem ty_telem_52 : telem prog 52 = some 23 := by kernel_rfl
@[go_sem] theorem ty_telem_54 : telem prog 54 = some 5 := by kernel_rfl
@[go_sem] theorem ty_telem_60 : telem prog 60 = some 118 := by kernel_rfl
@[go_sem] theorem ty_telem_69 : telem prog 69 = none := by kernel_rfl
@[go_sem] theorem ty_telem_84 : telem prog 84 = some 91 := by kernel_rfl
@[go_sem] theorem ty_telem_88 : telem prog 88 = none := by kernel_rfl
@[go_sem] theorem ty_telem_91 : telem prog 91 = none := by kernel_rfl
@[go_sem] theorem ty_telem_92 : telem prog 92 = none := by kernel_rfl
@[go_sem] theorem ty_telem_94 : telem prog 94 = none := by kernel_rfl
@[go_sem] theorem ty_telem_95 : telem prog 95 = some 4 := by kernel_rfl
@[go_sem] theorem ty_tfield_103_0 : tfield prog 103 0 = some (0, 22) := by kernel_rfl
@[go_sem] theorem ty_tfield_103_1 : tfield prog 103 1 = some (1, 101) := by kernel_rfl
@[go_sem] theorem ty_tfield_103_2 : tfield prog 103 2 = some (2, 3) := by kernel_rfl
@[go_sem] theorem ty_tfield_103_3 : tfield prog 103 3 = some (3, 23) := by kernel_rfl
@[go_sem] theorem ty_tfield_103_4 : tfield prog 103 4 = some (4, 23) := by kernel_rfl
@[go_sem] theorem ty_tfield_103_5 : tfield prog 103 5 = some (5, 94) := by kernel_rfl
@[go_sem] theorem ty_tfield_103_6 : tfield prog 103 6 = some (9, 3) := by kernel_rfl
@[go_sem] theorem ty_tfield_103_7 : tfield prog 103 7 = some (10, 4) := by kernel_rfl
@[go_sem] theorem ty_tfield_118_0 : tfield prog 118 0 = some (0, 5) := by kernel_rfl
@[go_sem] theorem ty_tfield_118_1 : tfield prog 118 1 = some (1, 116) := by kernel_rfl
@[go_sem] theorem ty_tfield_147_1 : tfield prog 147 1 = some (1, 4) := by kernel_rfl
@[go_sem] theorem ty_tfield_147_2 : tfield prog 147 2 = some (2, 4) := by kernel_rfl
@[go_sem] theorem ty_tfield_147_3 : tfield prog 147 3 = some (3, 4) := by kernel_rfl
@[go_sem] theorem ty_tfield_25_0 : tfield prog 25 0 = some (0, 3) := by kernel_rfl
@[go_sem] theorem ty_tfield_25_1 : tfield prog 25 1 = some (1, 23) := by kernel_rfl
@[go_sem] theorem ty_tfield_41_0 : tfield prog 41 0 = some (0, 5) := by kernel_rfl
@[go_sem] theorem ty_tfield_41_1 : tfield prog 41 1 = some (1, 5) := by kernel_rfl
@[go_sem] theorem ty_tfield_41_2 : tfield prog 41 2 = some (2, 5) := by kernel_rfl
@[go_sem] theorem ty_tfield_41_3 : tfield prog 41 3 = some (3, 4) := by kernel_rfl
@[go_sem] theorem ty_tfield_41_4 : tfield prog 41 4 = some (4, 39) := by kernel_rfl
@[go_sem] theorem ty_tfield_43_0 : tfield prog 43 0 = some (0, 41) := by kernel_rfl
@[go_sem] theorem ty_tfield_43_1 : tfield prog 43 1 = some (5, 39) := by kernel_rfl
@[go_sem] theorem ty_tfield_48_0 : tfield prog 48 0 = some (0, 3) := by kernel_rfl
@[go_sem] theorem ty_tfield_48_1 : tfield prog 48 1 = some (1, 3) := by kernel_rfl
@[go_sem] theorem ty_tfield_48_2 : tfield prog 48 2 = some (2, 46) := by kernel_rfl
@[go_sem] theorem ty_tfield_83_0 : tfield prog 83 0 = some (0, 49) := by kernel_rfl
@[go_sem] theorem ty_tfield_83_1 : tfield prog 83 1 = some (1, 52) := by kernel_rfl
@[go_sem] theorem ty_tfield_83_2 : tfield prog 83 2 = some (2, 3) := by kernel_rfl
@[go_sem] theorem ty_tfield_83_3 : tfield prog 83 3 = some (3, 3) := by kernel_rfl
@[go_sem] theorem ty_tfield_88_0 : tfield prog 88 0 = some (0, 3) := by kernel_rfl
@[go_sem] theorem ty_tfield_88_1 : tfield prog 88 1 = some (1, 3) := by kernel_rfl
@[go_sem] theorem ty_tfield_88_2 : tfield prog 88 2 = some (2, 3) := by kernel_rfl
@[go_sem] theorem ty_tfield_88_3 : tfield prog 88 3 = some (3, 3) := by kernel_rfl
@[go_sem] theorem ty_tfield_88_4 : tfield prog 88 4 = some (4, 3) := by kernel_rfl
@[go_sem] theorem ty_tfield_88_5 : tfield prog 88 5 = some (5, 3) := by kernel_rfl
@[go_sem] theorem ty_tfield_91_0 : tfield prog 91 0 = some (0, 3) := by kernel_rfl
@[go_sem] theorem ty_tfield_91_1 : tfield prog 91 1 = some (1, 3) := by kernel_rfl
@[go_sem] theorem ty_tinf_107 : tinf prog 107 = true := by kernel_rfl
@[go_sem] theorem ty_tinf_118 : tinf prog 118 = true := by kernel_rfl
@[go_sem] theorem ty_tinf_147 : tinf prog 147 = true := by kernel_rfl
@[go_sem] theorem ty_tinf_23 : tinf prog 23 = true := by kernel_rfl
@[go_sem] theorem ty_tinf_25 : tinf prog 25 = true := by kernel_rfl
@[go_sem] theorem ty_tinf_3 : tinf prog 3 = true := by kernel_rfl
@[go_sem] theorem ty_tinf_4 : tinf prog 4 = true := by kernel_rfl
@[go_sem] theorem ty_tinf_48 : tinf prog 48 = true := by kernel_rfl
@[go_sem] theorem ty_tinf_5 : tinf prog 5 = true := by kernel_rfl
@[go_sem] theorem ty_tinf_54 : tinf prog 54 = true := by kernel_rfl
@[go_sem] theorem ty_tinf_69 : tinf prog 69 = true := by kernel_rfl
@[go_sem] theorem ty_tinf_84 : tinf prog 84 = true := by kernel_rfl
@[go_sem] theorem ty_tinf_88 : tinf prog 88 = true := by kernel_rfl
@[go_sem] theorem ty_tinf_91 : tinf prog 91 = true := by kernel_rfl
@[go_sem] theorem ty_tinf_92 : tinf prog 92 = true := by kernel_rfl
@[go_sem] theorem ty_tinf_94 : tinf prog 94 = true := by kernel_rfl
@[go_sem] theorem ty_tinfo_101 : tinfo prog 101 = some { size := 1, agg := false, zero := [Value.slice none 0 0], bytes := 24 } := by kernel_rfl
@[go_sem] theorem ty_tinfo_103 : tinfo prog 103 = some { size := 11, agg := true, zero := [Value.slice none 0 0, Value.slice none 0 0, Value.int IntKind.i64 0, Value.slice none 0 0, Value.slice none 0 0, Value.int IntKind.u64 0, Value.int IntKind.u64 0, Value.int IntKind.u64 0, Value.int IntKind.u64 0, Value.int IntKind.i64 0, Value.bool false], bytes := 152 } := by kernel_rfl
@[go_sem] theorem ty_tinfo_107 : tinfo prog 107 = some { size := 1, agg := false, zero := [Value.int IntKind.u16 0], bytes := 2 } := by kernel_rfl
@[go_sem] theorem ty_tinfo_116 : tinfo prog 116 = some { size := 1, agg := false, zero := [Value.int IntKind.u32 0], bytes := 4 } := by kernel_rfl
@[go_sem] theorem ty_tinfo_118 : tinfo prog 118 = some { size := 2, agg := true, zero := [Value.int IntKind.u8 0, Value.int IntKind.u32 0], bytes := 8 } := by kernel_rfl
@[go_sem] theorem ty_tinfo_147 : tinfo prog 147 = some { size := 4, agg := true, zero := [Value.string { data := { toList := [] } }, Value.bool false, Value.bool false, Value.bool false], bytes := 24 } := by kernel_rfl
@[go_sem] theorem ty_tinfo_148 : tinfo prog 148 = some { size := 20, agg := true, zero := [Value.string { data := { toList := [] } }, Value.bool false, Value.bool false, Value.bool false, Value.string { data := { toList := [] } }, Value.bool false, Value.bool false, Value.bool false, Value.string { data := { toList := [] } }, Value.bool false, Value.bool false, Value.bool false, Value.string { data := { toList := [] } }, Value.bool false, Value.bool false, Value.bool false, Value.string { data := { toList := [] } }, Value.bool false, Value.bool false, Value.bool false], bytes := 120 } := by kernel_rfl
@[go_sem] theorem ty_tinfo_22 : tinfo prog 22 = some { size := 1, agg := false, zero := [Value.slice none 0 0], bytes := 24 } := by kernel_rfl
@[go_sem] theorem ty_tinfo_23 : tinfo prog 23 = some { size := 1, agg := false, zero := [Value.slice none 0 0], bytes := 24 } := by kernel_rfl
@[go_sem] theorem ty_tinfo_25 : tinfo prog 25 = some { size := 2, agg := true, zero := [Value.int IntKind.i64 0, Value.slice none 0 0], bytes := 32 } := by kernel_rfl
@[go_sem] theorem ty_tinfo_3 : tinfo prog 3 = some { size := 1, agg := false, zero := [Value.int IntKind.i64 0], bytes := 8 } := by kernel_rfl
@[go_sem] theorem ty_tinfo_39 : tinfo prog 39 = some { size := 1, agg := false, zero := [Value.slice none 0 0], bytes := 24 } := by kernel_rfl
@[go_sem] theorem ty_tinfo_4 : tinfo prog 4 = some { size := 1, agg := false, zero := [Value.bool false], bytes := 1 } := by kernel_rfl
@[go_sem] theorem ty_tinfo_41 : tinfo prog 41 = some { size := 5, agg := true, zero := [Value.int IntKind.u8 0, Value.int IntKind.u8 0, Value.int IntKind.u8 0, Value.bool false, Value.slice none 0 0], bytes := 32 } := by kernel_rfl
@[go_sem] theorem ty_tinfo_43 : tinfo prog 43 = some { size := 6, agg := true, zero := [Value.int IntKind.u8 0, Value.int IntKind.u8 0, Value.int IntKind.u8 0, Value.bool false, Value.slice none 0 0, Value.slice none 0 0], bytes := 56 } := by kernel_rfl
@[go_sem] theorem ty_tinfo_46 : tinfo prog 46 = some { size := 1, agg := false, zero := [Value.slice none 0 0], bytes := 24 } := by kernel_rfl
@[go_sem] theorem ty_tinfo_48 : tinfo prog 48 = some { size := 3, agg := true, zero := [Value.int IntKind.i64 0, Value.int IntKind.i64 0, Value.slice none 0 0], bytes := 40 } := by kernel_rfl
@[go_sem] theorem ty_tinfo_49 : tinfo prog 49 = some { size := 1, agg := false, zero := [Value.slice none 0 0], bytes := 24 } := by kernel_rfl
@[go_sem] theorem ty_tinfo_5 : tinfo prog 5 = some { size := 1, agg := false, zero := [Value.int IntKind.u8 0], bytes := 1 } := by kernel_rfl
@[go_sem] theorem ty_tinfo_52 : tinfo prog 52 = some { size := 1, agg := false, zero := [Value.slice none 0 0], bytes := 24 } := by kernel_rfl
@[go_sem] theorem ty_tinfo_54 : tinfo prog 54 = some { size := 1, agg := false, zero := [Value.slice none 0 0], bytes := 24 } := by kernel_rfl
@[go_sem] theorem ty_tinfo_69 : tinfo prog 69 = some { size := 2, agg := true, zero := [Value.int IntKind.i64 0, Value.int IntKind.i64 0], bytes := 16 } := by kernel_rfl
@[go_sem] theorem ty_tinfo_84 : tinfo prog 84 = some { size := 1, agg := false, zero := [Value.slice none 0 0], bytes := 24 } := by kernel_rfl
@[go_sem] theorem ty_tinfo_88 : tinfo prog 88 = some { size := 6, agg := true, zero := [Value.int IntKind.i64 0, Value.int IntKind.i64 0, Value.int IntKind.i64 0, Value.int IntKind.i64 0, Value.int IntKind.i64 0, Value.int IntKind.i64 0], bytes := 48 } := by kernel_rfl
@[go_sem] theorem ty_tinfo_91 : tinfo prog 91 = some { size := 2, agg := true, zero := [Value.int IntKind.i64 0, Value.int IntKind.i64 0], bytes := 16 } := by kernel_rfl
@[go_sem] theorem ty_tinfo_92 : tinfo prog 92 = some { size := 1, agg := false, zero := [Value.int IntKind.u64 0], bytes := 8 } := by kernel_rfl
@[go_sem] theorem ty_tinfo_94 : tinfo prog 94 = some { size := 4, agg := true, zero := [Value.int IntKind.u64 0, Value.int IntKind.u64 0, Value.int IntKind.u64 0, Value.int IntKind.u64 0], bytes := 32 } := by kernel_rfl
@[go_sem] theorem ty_tint_3 : tint prog 3 = some IntKind.i64 := by kernel_rfl
@[go_sem] theorem ty_tknown_107 : tknown prog 107 = true := by kernel_rfl
@[go_sem] theorem ty_tknown_5 : tknown prog 5 = true := by kernel_rfl
@[go_sem] theorem ty_tknown_92 : tknown prog 92 = true := by kernel_rfl
@[go_sem] theorem ty_tmap_100 : tmap prog 100 = none := by kernel_rfl
@[go_sem] theorem ty_tmap_101 : tmap prog 101 = none := by kernel_rfl
@[go_sem] theorem ty_tmap_109 : tmap prog 109 = none := by kernel_rfl
@[go_sem] theorem ty_tmap_129 : tmap prog 129 = none := by kernel_rfl
@[go_sem] theorem ty_tmap_133 : tmap prog 133 = none := by kernel_rfl
@[go_sem] theorem ty_tmap_22 : tmap prog 22 = none := by kernel_rfl
@[go_sem] theorem ty_tmap_23 : tmap prog 23 = none := by kernel_rfl
@[go_sem] theorem ty_tmap_3 : tmap prog 3 = none := by kernel_rfl
@[go_sem] theorem ty_tmap_32 : tmap prog 32 = none := by kernel_rfl
@[go_sem] theorem ty_tmap_39 : tmap prog 39 = none := by kernel_rfl
@[go_sem] theorem ty_tmap_4 : tmap prog 4 = none := by kernel_rfl
@[go_sem] theorem ty_tmap_41 : tmap prog 41 = none := by kernel_rfl
@[go_sem] theorem ty_tmap_43 : tmap prog 43 = none := by kernel_rfl
@[go_sem] theorem ty_tmap_44 : tmap prog 44 = none := by kernel_rfl
@[go_sem] theorem ty_tmap_46 : tmap prog 46 = none := by kernel_rfl
@[go_sem] theorem ty_tmap_48 : tmap prog 48 = none := by kernel_rfl
@[go_sem] theorem ty_tmap_49 : tmap prog 49 = none := by kernel_rfl
@[go_sem] theorem ty_tmap_52 : tmap prog 52 = none := by kernel_rfl
@[go_sem] theorem ty_tmap_54 : tmap prog 54 = none := by kernel_rfl
@[go_sem] theorem ty_tmap_60 : tmap prog 60 = none := by kernel_rfl
@[go_sem] theorem ty_tmap_84 : tmap prog 84 = none := by kernel_rfl
@[go_sem] theorem ty_tmap_88 : tmap prog 88 = none := by kernel_rfl
@[go_sem] theorem ty_tmap_91 : tmap prog 91 = none := by kernel_rfl
@[go_sem] theorem ty_tmap_92 : tmap prog 92 = none := by kernel_rfl
@[go_sem] theorem ty_tmap_94 : tmap prog 94 = none := by kernel_rfl
@[go_sem] theorem ty_tstr_100 : tstr prog 100 = false := by kernel_rfl
@[go_sem] theorem ty_tstr_101 : tstr prog 101 = false := by kernel_rfl
@[go_sem] theorem ty_tstr_109 : tstr prog 109 = false := by kernel_rfl
@[go_sem] theorem ty_tstr_129 : tstr prog 129 = false := by kernel_rfl
@[go_sem] theorem ty_tstr_133 : tstr prog 133 = false := by kernel_rfl
@[go_sem] theorem ty_tstr_22 : tstr prog 22 = false := by kernel_rfl
@[go_sem] theorem ty_tstr_23 : tstr prog 23 = false := by kernel_rfl
@[go_sem] theorem ty_tstr_3 : tstr prog 3 = false := by kernel_rfl
@[go_sem] theorem ty_tstr_32 : tstr prog 32 = false := by kernel_rfl
@[go_sem] theorem ty_tstr_39 : tstr prog 39 = false := by kernel_rfl
@[go_sem] theorem ty_tstr_4 : tstr prog 4 = false := by kernel_rfl
@[go_sem] theorem ty_tstr_41 : tstr prog 41 = false := by kernel_rfl
@[go_sem] theorem ty_tstr_43 : tstr prog 43 = false := by kernel_rfl
@[go_sem] theorem ty_tstr_44 : tstr prog 44 = false := by kernel_rfl
@[go_sem] theorem ty_tstr_46 : tstr prog 46 = false := by kernel_rfl
@[go_sem] theorem ty_tstr_48 : tstr prog 48 = false := by kernel_rfl
@[go_sem] theorem ty_tstr_49 : tstr prog 49 = false := by kernel_rfl
@[go_sem] theorem ty_tstr_52 : tstr prog 52 = false := by kernel_rfl
@[go_sem] theorem ty_tstr_54 : tstr prog 54 = false := by kernel_rfl
@[go_sem] theorem ty_tstr_60 : tstr prog 60 = false := by kernel_rfl
@[go_sem] theorem ty_tstr_84 : tstr prog 84 = false := by kernel_rfl
@[go_sem] theorem ty_tstr_88 : tstr prog 88 = false := by kernel_rfl
@[go_sem] theorem ty_tstr_91 : tstr prog 91 = false := by kernel_rfl
@[go_sem] theorem ty_tstr_92 : tstr prog 92 = false := by kernel_rfl
@[go_sem] theorem ty_tstr_94 : tstr prog 94 = false := by kernel_rfl
end Go.Avl
namespace Go.Avl
open Go Go.Proofs.Tryd
set_option maxRecDepth 10000
set_option linter.unusedSimpArgs false
attribute [go_sem] Nat.reduceLT Nat.reduceLeDiff Nat.reduceEqDiff Nat.reduceAdd Nat.reduceSub Nat.reduceMul Nat.reduceBEq Int.reduceToNat Int.reduceEq Int.reduceLT Int.reduceLE Int.reduceAdd reduceCtorEq
attribute [go_sem ↓] reduceIte
theorem mixed : prog.follows .mixedOrders = true := by kernel_rfl
theorem none_is : PureIs prog 77 [] (.ag [.sc (.int .i64 (-1)), .sc (.int .i64 (-1))]) := by
  refine PureIs.of (nv := 1) (hid := []) func77 rfl (by kernel_rfl) (by simp) fun _ => ?_
  rw [ntmps77, results77]
  refine EvC.seq (EvC.rg (by simp only [go_sem]; rfl) rfl ?_)
  refine EvC.seq (EvC.rg (by simp only [go_sem]; rfl) rfl ?_)
  refine EvC.ret ⟨.inl rfl, _, (by simp only [go_sem]; rfl), rfl, rfl⟩
def I (n : Int) : AV := .sc (.int .i64 n)
def B (b : Bool) : AV := .sc (.bool b)
def intC (x : Int) : List AV := [.sc (.int .i64 x)]
@[go_sem] theorem norefs_ints (l : List Int) : (l.map intC).all AV.norefs = true := by simp [List.all_eq_true, intC, AV.norefs, AV.noref]
theorem intC_len (l : List Int) : ((l.map intC).all fun y => decide (y.length = 1)) = true := by simp [List.all_eq_true, intC]
end Go.Avl
namespace Go.Avl
open Go Go.Proofs.Tryd
set_option maxRecDepth 10000
set_option linter.unusedSimpArgs false
def fitsR (n o to out : Int) : Bool := decide (to = -1) && decide (out = -1) || (decide (0 ≤ to) && decide (to < n) && decide (0 ≤ out) && decide (out < o))
theorem fits_is (i o : Int) (nl : Bool) (rows : List (List AV)) (c : Cp) (to out : Int) :
    PureIs prog 70 [.ag [.sc (.int .i64 i), .sc (.int .i64 o), .sl nl rows c], .ag [.sc (.int .i64 to), .sc (.int .i64 out)]] (.sc (.bool (fitsR rows.length o to out))) := by
  refine PureIs.of (nv := 5) (hid := []) func70 rfl (by kernel_rfl) (by simp [ntmps70]) fun _ => ?_
  rw [ntmps70, results70]
  refine EvC.seq (EvC.rg (by simp only [go_sem]; rfl) rfl ?_)
  apply EvC.seq
  apply EvC.drw mixed
  case ht =>
    apply Tr.run
    · (simp only [go_sem]) <;> rfl
    · rfl
    apply Tr.cons
    · exact .call rfl rfl (by (simp only [go_sem]) <;> rfl) (by (simp only [go_sem]) <;> rfl) (by (simp only [go_sem]) <;> rfl) (by (simp only [go_sem]) <;> rfl) (by (simp only [go_sem]) <;> rfl) none_is
    apply Tr.done
    · (simp only [go_sem]) <;> rfl
    · simp
  case hc => kernel_rfl
  case hq =>
    refine EvC.ret ⟨.inl rfl, _, (by (simp only [go_sem]) <;> rfl), ?_, rfl⟩
    simp only [go_sem]
    congr 2
    unfold fitsR
    by_cases h1 : to = -1 <;> by_cases h2 : out = -1 <;> by_cases h3 : 0 ≤ to <;> by_cases h4 : to < rows.length <;> by_cases h5 : 0 ≤ out <;> simp [h1, h2, h3, h4, h5]
end Go.Avl
namespace Go.Avl
open Go Go.Proofs.Tryd
set_option maxRecDepth 10000
set_option linter.unusedSimpArgs false
def edgeC (e : Int × Int) : List AV := [.sc (.int .i64 e.1), .sc (.int .i64 e.2)]
@[go_sem] theorem norefs_edges (l : List (Int × Int)) : (l.map edgeC).all AV.norefs = true := by simp [List.all_eq_true, edgeC, AV.norefs, AV.noref]

theorem check1_is (i o : Int) (nl : Bool) (rows : List (List AV)) (c : Cp) (to out : Int) :
    PureIs prog 69 [.ag [.sc (.int .i64 to), .sc (.int .i64 out)], .ia [.sc (.int .i64 i), .sc (.int .i64 o), .sl nl rows c]] (.sc (.bool (!fitsR rows.length o to out))) := by
  refine PureIs.of (nv := 4) (hid := []) func69 rfl (by kernel_rfl) (by simp [ntmps69]) fun _ => ?_
  rw [ntmps69, results69]
  refine EvC.seq (EvC.rg (by (simp only [go_sem]) <;> rfl) rfl ?_)
  apply EvC.seq
  apply EvC.tr
  · apply Tr.run
    · (simp only [go_sem]) <;> rfl
    · rfl
    apply Tr.cons
    · exact .call rfl rfl (by (simp only [go_sem]) <;> rfl) (by (simp only [go_sem]) <;> rfl) (by (simp only [go_sem]) <;> rfl) (by (simp only [go_sem]) <;> rfl) (by (simp only [go_sem]) <;> rfl) (fits_is _ _ _ _ _ _ _)
    apply Tr.done
    · (simp only [go_sem]) <;> rfl
    · rfl
  refine EvC.ret ⟨.inl rfl, _, (by (simp only [go_sem]) <;> rfl), ?_, rfl⟩
  simp only [go_sem]

def findIdxR (p : Int × Int → Bool) : List (Int × Int) → Int → Int
  | [], _ => -1
  | e :: es, i => if p e = true then i else findIdxR p es (i + 1)

theorem indexFunc_is (nl : Bool) (xs : List (Int × Int)) (c : Cp) (f : FuncId) (cs : List AV) (hcs : AV.norefs cs = true) (p : Int × Int → Bool) (hp : ∀ e ∈ xs, PureIs prog f (.ag (edgeC e) :: cs) (.sc (.bool (p e)))) (hl : xs.length < 1000000) :
    PureIs prog 76 [.sl nl (xs.map edgeC) c, .fn f cs] (.sc (.int .i64 (findIdxR p xs 0))) := by
  refine PureIs.of (nv := 6) (hid := [6, 7, 8, 9, 16]) func76 rfl (by kernel_rfl) (by simp [ntmps76]) fun _ => ?_
  rw [ntmps76, results76]
  refine EvC.seq (EvC.rg (by (simp only [go_sem]) <;> rfl) rfl ?_)
  refine EvC.seq ?_
  refine EvC.seq (EvC.rg (by (simp only [go_sem]) <;> rfl) rfl ?_)
  refine EvC.block (EvC.loopS (σ := Nat) (fun i => ⟨[(0, .sl nl (xs.map edgeC) c), (1, .fn f cs), (7, .sc (.int .i64 xs.length)), (8, .sc (.int .i64 i))], [], [], 0⟩) (fun i => xs.length - i) (fun i => i ≤ xs.length ∧ findIdxR p xs 0 = findIdxR p (xs.drop i) i) [0, 1, 7, 8] 0 ?_ ?_)
  · refine ⟨[], 0, rfl, (by (simp only [go_sem, hcs]) <;> rfl), Nat.zero_le _, by simp⟩
  · rintro i ⟨h1, h2⟩
    refine EvC.seq (EvC.rg (by (simp only [go_sem]) <;> rfl) rfl ?_)
    refine EvC.seq (EvC.cond (by (simp only [go_sem]) <;> rfl) (fun hc => ?_) (fun hc => ?_))
    · refine EvC.skip ?_
      have hi : i < xs.length := by simpa using hc
      have he : xs[i]? = some xs[i] := List.getElem?_eq_getElem hi
      generalize xs[i] = e at he
      have hm : e ∈ xs := List.mem_of_getElem? he
      have hd : xs.drop i = e :: xs.drop (i + 1) := by
        rw [List.drop_eq_getElem_cons hi]; congr 1; rw [List.getElem?_eq_getElem hi] at he; simpa using he
      refine EvC.seq ?_
      refine EvC.block (EvC.seq (EvC.rg (by (simp only [go_sem]) <;> rfl) rfl ?_))
      apply EvC.seq
      apply EvC.tr
      · apply Tr.run
        · (simp only [go_sem, he, edgeC]) <;> rfl
        · simp
        apply Tr.cons
        · exact .call rfl rfl (by (simp only [go_sem]) <;> rfl) (by (simp only [go_sem]) <;> rfl) (by (simp only [go_sem]) <;> rfl) (by (simp only [go_sem, hcs]) <;> rfl) (by (simp only [go_sem]) <;> rfl) (hp e hm)
        apply Tr.done
        · (simp only [go_sem]) <;> rfl
        · rfl
      refine EvC.cond (by (simp only [go_sem]) <;> rfl) (fun hc => ?_) (fun hc => ?_)
      · refine EvC.seq (EvC.rg (by (simp only [go_sem]) <;> rfl) rfl ?_)
        refine EvC.ret ⟨.inl rfl, _, (by (simp only [go_sem]) <;> rfl), ?_, rfl⟩
        simp only [go_sem]
        rw [h2, hd, findIdxR, if_pos hc]
      · refine EvC.skip ?_
        refine EvC.rg (by (simp only [go_sem]) <;> rfl) ?_ ?_
        · exact inI64_of (by omega) (by omega)
        refine ⟨[], i + 1, rfl, ?_, ⟨by omega, ?_⟩, by omega⟩
        · (simp only [go_sem, hcs]) <;> rfl
        · rw [h2, hd, findIdxR, if_neg (by simp [hc])]; rfl
    · refine EvC.exit ?_
      have hi : ¬ i < xs.length := by simpa using hc
      refine EvC.seq (EvC.rg (by (simp only [go_sem]) <;> rfl) rfl ?_)
      refine EvC.ret ⟨.inl rfl, _, (by (simp only [go_sem]) <;> rfl), ?_, rfl⟩
      simp only [go_sem]
      rw [h2, List.drop_of_length_le (by omega)]; rfl
end Go.Avl
namespace Go.Avl
open Go Go.Proofs.Tryd
set_option maxRecDepth 10000
set_option linter.unusedSimpArgs false

theorem findIdxR_any (p : Int × Int → Bool) : ∀ (es : List (Int × Int)) (i : Int), 0 ≤ i → decide (0 ≤ findIdxR p es i) = es.any p
  | [], i, _ => by simp [findIdxR]
  | e :: es, i, h => by
    unfold findIdxR
    split
    · rename_i hp; simp [hp, h]
    · rename_i hp
      rw [findIdxR_any p es (i + 1) (by omega)]
      simp [hp]

theorem containsFunc_is (nl : Bool) (xs : List (Int × Int)) (c : Cp) (f : FuncId) (cs : List AV) (hcs : AV.norefs cs = true) (p : Int × Int → Bool) (hp : ∀ e ∈ xs, PureIs prog f (.ag (edgeC e) :: cs) (.sc (.bool (p e)))) (hl : xs.length < 1000000) :
    PureIs prog 68 [.sl nl (xs.map edgeC) c, .fn f cs] (.sc (.bool (xs.any p))) := by
  refine PureIs.of (nv := 5) (hid := []) func68 rfl (by kernel_rfl) (by simp [ntmps68]) fun _ => ?_
  rw [ntmps68, results68]
  refine EvC.seq (EvC.rg (by (simp only [go_sem]) <;> rfl) rfl ?_)
  apply EvC.seq
  apply EvC.tr
  · apply Tr.run
    · (simp only [go_sem]) <;> rfl
    · rfl
    apply Tr.cons
    · exact .call rfl rfl (by (simp only [go_sem]) <;> rfl) (by (simp only [go_sem]) <;> rfl) (by (simp only [go_sem]) <;> rfl) (by (simp only [go_sem, hcs]) <;> rfl) (by (simp only [go_sem]) <;> rfl) (indexFunc_is _ _ _ _ _ hcs _ hp hl)
    apply Tr.done
    · (simp only [go_sem]) <;> rfl
    · rfl
  refine EvC.ret ⟨.inl rfl, _, (by (simp only [go_sem]) <;> rfl), ?_, rfl⟩
  simp only [go_sem]
  rw [findIdxR_any _ _ _ (Int.le_refl 0)]

abbrev Row := Bool × List (Int × Int)
def rowC (r : Row) : List AV := [.sl r.1 (r.2.map edgeC) .unk]
structure Mach where
  ins : Int
  outs : Int
  nl : Bool
  rows : List Row
def Mach.cells (m : Mach) : List AV := [.sc (.int .i64 m.ins), .sc (.int .i64 m.outs), .sl m.nl (m.rows.map rowC) .unk]
def rowOk (m : Mach) (r : Row) : Bool := decide ((r.2.length : Int) = m.ins) && !(r.2.any fun e => !fitsR m.rows.length m.outs e.1 e.2)
def checkM (m : Mach) : Int :=
  if 16 < m.ins ∨ 16 < m.outs ∨ 64 < (m.rows.length : Int) then 3
  else if m.ins < 1 ∨ m.outs < 1 ∨ (m.rows.length : Int) < 1 then 1
  else if m.rows.all (rowOk m) = true then 0 else 1

theorem check_is (m : Mach) (hr : ∀ r ∈ m.rows, r.2.length < 1000000) : PureIs prog 49 [.ag m.cells] (.sc (.int .i64 (checkM m))) := by
  refine PureIs.of (nv := 5) (hid := [18, 32, 34, 35, 36, 37, 49]) func49 rfl (by kernel_rfl) (by simp [ntmps49]) fun _ => ?_
  rw [ntmps49, results49]
  refine EvC.seq (EvC.rg (by (simp only [go_sem, Mach.cells]) <;> rfl) rfl ?_)
  refine EvC.frzB 0 (by (simp only [go_sem]) <;> rfl) ?_
  refine EvC.seq ?_
  apply EvC.seq
  apply EvC.trd
  · (simp only [go_sem]) <;> rfl
  · simp
  refine EvC.cond (by (simp only [go_sem]) <;> rfl) (fun hc => ?_) (fun hc => ?_)
  · refine EvC.seq (EvC.rg (by (simp only [go_sem]) <;> rfl) rfl ?_)
    refine EvC.ret ⟨.inl rfl, _, (by (simp only [go_sem]) <;> rfl), ?_, rfl⟩
    simp only [go_sem]
    have h : 16 < m.ins ∨ 16 < m.outs ∨ 64 < (m.rows.length : Int) := by
      by_cases h1 : 16 < m.ins <;> by_cases h2 : 16 < m.outs <;> simp_all
    rw [checkM, if_pos h]
  have hn : ¬ (16 < m.ins ∨ 16 < m.outs ∨ 64 < (m.rows.length : Int)) := by
    by_cases h1 : 16 < m.ins <;> by_cases h2 : 16 < m.outs <;> simp_all
  refine EvC.skip ?_
  refine EvC.seq ?_
  apply EvC.seq
  apply EvC.trd
  · (simp only [go_sem]) <;> rfl
  · simp
  refine EvC.cond (by (simp only [go_sem]) <;> rfl) (fun hc => ?_) (fun hc => ?_)
  · refine EvC.seq (EvC.rg (by (simp only [go_sem]) <;> rfl) rfl ?_)
    refine EvC.ret ⟨.inl rfl, _, (by (simp only [go_sem]) <;> rfl), ?_, rfl⟩
    simp only [go_sem]
    have h : m.ins < 1 ∨ m.outs < 1 ∨ (m.rows.length : Int) < 1 := by
      by_cases h1 : m.ins < 1 <;> by_cases h2 : m.outs < 1 <;> simp_all
    rw [checkM, if_neg hn, if_pos h]
  have hn2 : ¬ (m.ins < 1 ∨ m.outs < 1 ∨ (m.rows.length : Int) < 1) := by
    by_cases h1 : m.ins < 1 <;> by_cases h2 : m.outs < 1 <;> simp_all
  refine EvC.skip ?_
  have hlen : (m.rows.length : Int) ≤ 64 := by omega
  refine EvC.seq ?_
  refine EvC.seq (EvC.rg (by (simp only [go_sem]) <;> rfl) (by simp) ?_)
  refine EvC.block (EvC.loopS (σ := Nat) (fun i => ⟨[(1, .ia m.cells), (34, .sl m.nl (m.rows.map rowC) .unk), (35, .sc (.int .i64 m.rows.length)), (36, .sc (.int .i64 i))], [], [], 0⟩) (fun i => m.rows.length - i) (fun i => i ≤ m.rows.length ∧ m.rows.all (rowOk m) = (m.rows.drop i).all (rowOk m)) [1, 34, 35, 36] 0 ?_ ?_)
  · refine ⟨[], 0, rfl, (by (simp only [go_sem, Mach.cells]) <;> rfl), Nat.zero_le _, by simp⟩
  rintro i ⟨h1, h2⟩
  refine EvC.seq (EvC.rg (by (simp only [go_sem]) <;> rfl) rfl ?_)
  refine EvC.seq (EvC.cond (by (simp only [go_sem]) <;> rfl) (fun hc => ?_) (fun hc => ?_))
  · refine EvC.skip ?_
    have hi : i < m.rows.length := by simpa using hc
    have he : m.rows[i]? = some m.rows[i] := List.getElem?_eq_getElem hi
    generalize m.rows[i] = r at he
    have hm : r ∈ m.rows := List.mem_of_getElem? he
    have hd : m.rows.drop i = r :: m.rows.drop (i + 1) := by
      rw [List.drop_eq_getElem_cons hi]; congr 1; rw [List.getElem?_eq_getElem hi] at he; simpa using he
    refine EvC.seq ?_
    refine EvC.block (EvC.seq (EvC.rg (by (simp only [go_sem, he, rowC]) <;> rfl) (by simp) ?_))
    by_cases hl : (r.2.length : Int) = m.ins
    · apply EvC.seq
      apply EvC.tr
      · apply Tr.run
        · (simp only [go_sem, Mach.cells, hl]) <;> rfl
        · simp
        apply Tr.cons
        · exact .callG rfl rfl (by (simp only [go_sem]) <;> rfl) rfl (by (simp only [go_sem]) <;> rfl) (by (simp only [go_sem]) <;> rfl) (by (simp only [go_sem]) <;> rfl) (by (simp only [go_sem]) <;> rfl) (by (simp only [go_sem]) <;> rfl) (containsFunc_is r.1 r.2 .unk 69 [.ia m.cells] rfl (fun e => !fitsR m.rows.length m.outs e.1 e.2) (fun e _ => by simpa [edgeC, Mach.cells] using check1_is m.ins m.outs m.nl (m.rows.map rowC) .unk e.1 e.2) (hr r hm))
        apply Tr.done
        · (simp only [go_sem]) <;> rfl
        · simp
      refine EvC.cond (by (simp only [go_sem]) <;> rfl) (fun hc2 => ?_) (fun hc2 => ?_)
      · refine EvC.seq (EvC.rg (by (simp only [go_sem]) <;> rfl) rfl ?_)
        refine EvC.ret ⟨.inl rfl, _, (by (simp only [go_sem]) <;> rfl), ?_, rfl⟩
        simp only [go_sem]
        rw [checkM, if_neg hn, if_neg hn2, h2, hd, List.all_cons]
        simp [rowOk, hc2]
      · refine EvC.skip ?_
        refine EvC.rg (by (simp only [go_sem]) <;> rfl) ?_ ?_
        · exact inI64_of (by omega) (by omega)
        refine ⟨[], i + 1, rfl, (by (simp only [go_sem, Mach.cells]) <;> rfl), ⟨by omega, ?_⟩, by omega⟩
        rw [h2, hd, List.all_cons]
        simp [rowOk, hl, hc2]
    · apply EvC.seq
      apply EvC.tr
      · apply Tr.run
        · (simp only [go_sem, Mach.cells, hl]) <;> rfl
        · simp
        apply Tr.cons
        · exact .skipv (.sc (.bool false)) rfl rfl (by (simp only [go_sem]) <;> rfl) (by (simp only [go_sem]) <;> rfl)
        apply Tr.done
        · (simp only [go_sem]) <;> rfl
        · simp
      refine EvC.cond_true (by (simp only [go_sem]) <;> rfl) ?_
      refine EvC.seq (EvC.rg (by (simp only [go_sem]) <;> rfl) rfl ?_)
      refine EvC.ret ⟨.inl rfl, _, (by (simp only [go_sem]) <;> rfl), ?_, rfl⟩
      simp only [go_sem]
      rw [checkM, if_neg hn, if_neg hn2, h2, hd, List.all_cons]
      simp [rowOk, hl]
  · refine EvC.exit ?_
    have hi : ¬ i < m.rows.length := by simpa using hc
    refine EvC.seq (EvC.rg (by (simp only [go_sem]) <;> rfl) rfl ?_)
    refine EvC.ret ⟨.inl rfl, _, (by (simp only [go_sem]) <;> rfl), ?_, rfl⟩
    simp only [go_sem]
    rw [checkM, if_neg hn, if_neg hn2, h2, List.drop_of_length_le (by omega)]; rfl
end Go.Avl
