/-
  A call that cuts the room behind a slice of an object of the caller's.
  Regions that draw their order: operations that wait for each other through others.
  Nil slices, read as such; calls whose result is a view of a new object.
  Nothing appended to a slice without room: that slice.
  Ranging over a map that the loop does not write: in whatever order the entries come.
  A slot, read with nothing known of capacities.
  Calls of functions that follow and change a list of numbers in an object: what they leave, in whatever memory they are called.
  Calls by body in a part of the memory: the other objects stay as they are.
  Slices in boxes, their capacity forgotten; whole ones as views.
  Many objects at once: those with the numbers from 2000000 on (less than 1000000 of them). Tables whose rows are such objects.
  Calls that lend objects, and whose result is a new object of plain values.
  A slot that holds a whole object, as a view of it from its front.
  Facts of the types, printed by a program of this claim's own.
  Lemmas.
  Lemmas.
  Lemmas.
  Lemmas.
  Lemmas.
  Lemmas.
  Lemmas.
  Lemmas.
-/
import Derived.Laws.IdiomRangeMap
import Derived.Test.YtkfpnkpomjmpeaaProg
import Derived.KernelRfl
import Derived.Test.YtkfpnkpomjmpeaaPart4
set_option linter.unusedSimpArgs false
set_option linter.unusedVariables false
set_option linter.unnecessarySimpa false
set_option linter.deprecated false
namespace Go.Avl
open Go
section
variable {P : Program} {fr : Fr} {ro : Option Nat} {ds : DS} {st st' : St} {Q Q' : Exit → St → Prop} {G G' : Nat → Option Value} {F F' : Nat → Nat → Prop} {a : Act} {w w' : World} {M M' : Mem}
 {ops : Array Oper} {l rest : List Oper} {o : Oper} {N id : Nat} {rd gs : List Nat}
def Clips (P : Program) (f : FuncId) : Prop := ∀ (a : Addr) (n c : Nat), n ≤ c → (n : Int) < 1000000 → PureIs P f [.sc (.slice (some a) n c)] (.sc (.slice (some a) n n))
theorem OpIs.clip {f : FuncId} {callee x : Operand} {tys : Array TypeId} {i n esz : Nat} {nl fz : Bool} {es : List (List AV)} (hg : o.guard = none) (hop : o.op = .call ⟨.value callee, #[x], tys⟩) (hd : dok fr o.dst = true)
  (hcal : od fr st true callee = .fn f []) (hx : od fr st true x = .tl i n nl) (ho : mlook st.mem i = some (.arr esz es fz)) (hn : n = es.length) (h0 : n ≠ 0) (hlt : (n : Int) < 1000000) (hrd : rdOf fr st [] o = rd) (hc : Clips P f) :
  OpIs P fr ro ds ops id st ⟨o, ⟨.tv i n 0 n (.val n), none⟩, rd⟩ := by
 intro st' G F a w N K Q1 s hN hG hl h
 simp only [Region.wanted, hg, if_true]
 have hs := opSame_look (gs := []) (by rw [hrd]; exact hl) (by rw [hop]; rfl) (by rw [hop]; rfl)
 rw [hop] at hs
 have e1 : od fr st' true callee = .fn f [] := by rw [(hs.od (x := callee) (by simp [Op.operands, Call.operands]) true).1, hcal]
 obtain ⟨e2, e3⟩ := hs.od (x := x) (by simp [Op.operands, Call.operands]) true
 have e4 : mlook st'.mem i = some (.arr esz es fz) := by rw [e3 i (by rw [hx]; simp [AV.ids])]; exact ho
 rw [hx] at e2
 refine ⟨fun _ _ => trivial, ?_⟩
 rw [Oper.semAt_eq _ _ _ (by rw [hop]; intro c h; cases h)]
 have hv := (s.eval callee).unopt
 have hv : RV G F st'.mem w (a.eval callee) (.fn f []) := by unfold od at e1; rwa [e1] at hv
 obtain ⟨vs, hev, hl2, _⟩ := hv.inv_fn
 have hvs : vs = [] := by cases vs with
  | nil => rfl
  | cons a l => simp at hl2
 subst hvs
 have hxv := (s.eval x).unopt
 have hxv : RV G F st'.mem w (a.eval x) (.tl i n nl) := by unfold od at e2; rwa [e2] at hxv
 obtain ⟨hGi, hnl, va, vc, hval, hcase⟩ := tl_handle s.mem hxv e4 hn
 rcases hcase with ⟨h1, _⟩ | ⟨b, cc, el, rfl, k2, k3, k4, _⟩
 ·subst h1; exact absurd hn h0
 have hrun : (execOp a.eval o).run P w = .ok (.enter f #[a.eval x]) w := by
  obtain ⟨dst, op, ty, pos, after, guard⟩ := o
  simp only at hop
  subst hop
  simp only [execOp, resolve, hev, Deferred.ofValue, Sem.run_bind, Sem.run_pure, Result.andThen_ok, invoke]
  rw [(hc ⟨b, 0, none⟩ n vc (by omega) hlt).1]
  congr 2
  all_goals (apply Array.ext'; simp)
 rw [hrun]
 rw [← hn] at hval
 have hi : Imms F w [a.eval x] [.sc (.slice (some ⟨b, 0, none⟩) n vc)] := ⟨rfl, fun j h1 h2 => by
  have : j = 0 := by simp at h1; omega
  subst this
  simp only [List.getElem_cons_zero]
  rw [hval, hn]; exact .sc _⟩
 refine ⟨fun h => by simp [fc, Fence.wide] at h, callsIn_fc (((hc ⟨b, 0, none⟩ n vc (by omega) hlt).2 F w _ s.mem.fok hi).mono ?_)⟩
 rintro e w' ⟨u, F', rfl, hu, g⟩
 obtain ⟨hm', S'⟩ := simM_grown s.mem g
 have hu' : u = .slice (some ⟨b, 0, none⟩) n n := by cases hu; rfl
 subst hu'
 obtain ⟨s1, S1⟩ := s.put (d := o.dst) (r := ⟨.tv i n 0 n (.val n), none⟩) (u := .slice (some ⟨b, 0, none⟩) n n) hm' (fun _ => rfl) S' hd (.tv i n 0 n _ _ (by rw [hGi]; simp) fun esz' es' fz' ho' => by
  rw [e4] at ho'; cases ho'
  exact ⟨by omega, fun _ => ⟨by omega, b, vc, by rw [hGi, hval, hn], .inl k2, n, by rw [Nat.zero_mul], Nat.le_refl _, .inr (.inl rfl)⟩⟩)
 exact h G F' _ w' s1 S1 (fun _ _ h => h)
end
end Go.Avl
namespace Go.Avl
open Go
inductive Anc (l : List It) : Nat → Nat → Prop
 | base {i m : Nat} {t : It} (h : l[i]? = some t) (hm : m ∈ depsOf t.o) : Anc l i m
 | step {i e m : Nat} {t : It} (h : l[i]? = some t) (he : e ∈ depsOf t.o) (h2 : Anc l e m) : Anc l i m
def ancB (l : List It) : Nat → Nat → Nat → Bool
 | 0, _, _ => false
 | k + 1, i, m => match l[i]? with
   | none => false
   | some t => (depsOf t.o).contains m || (depsOf t.o).any fun e => ancB l k e m
theorem ancB_spec {l : List It} : ∀ {k i m : Nat}, ancB l k i m = true → Anc l i m
 | 0, _, _, h => by cases h
 | k + 1, i, m, h => by
   simp only [ancB] at h
   split at h
   ·cases h
   ·rename_i t ht
    rw [Bool.or_eq_true] at h
    rcases h with h | h
    ·exact .base ht (by simpa using h)
    ·rw [List.any_eq_true] at h
     obtain ⟨e, he, h⟩ := h
     exact .step ht he (ancB_spec h)
structure ConfA (l : List It) : Prop where
 back : ∀ i t, l[i]? = some t → ∀ e ∈ depsOf t.o, e < i
 edge : ∀ i m t u, l[i]? = some t → l[m]? = some u → i ≠ m → ∀ x, (x ∈ t.rd ∨ x ∈ wl t.o.dst t.r) → x ∈ wl u.o.dst u.r → Anc l i m ∨ Anc l m i
theorem ConfA.lt {l : List It} (hc : ConfA l) {i m : Nat} (h : Anc l i m) : m < i := by
 induction h with
 | base h hm => exact hc.back _ _ h _ hm
 | step h he _ ih => have := hc.back _ _ h _ he; omega
theorem Anc.closed {l : List It} {p : Nat → Bool} (hcl : ∀ i t, l[i]? = some t → p i = true → ∀ e ∈ depsOf t.o, p e = true) {i m : Nat} (h : Anc l i m) (hi : p i = true) : p m = true := by
 induction h with
 | base h hm => exact hcl _ _ h hi _ hm
 | step h he _ ih => exact ih (hcl _ _ h hi _ he)
theorem Anc.ready {l : List It} {p : Nat → Bool} (hcl : ∀ i t, l[i]? = some t → p i = true → ∀ e ∈ depsOf t.o, p e = true) {i m : Nat} {t : It} (h : Anc l i m) (ht : l[i]? = some t) (hd : ∀ e ∈ depsOf t.o, p e = true) : p m = true := by
 cases h with
 | base h hm => rw [ht] at h; cases h; exact hd _ hm
 | step h he h2 => rw [ht] at h; cases h; exact h2.closed hcl (hd _ he)
def confOneA (all : List It) (i : Nat) (t : It) : Nat → List It → Bool
 | _, [] => true
 | m, u :: l => (i == m || !((t.rd ++ wl t.o.dst t.r).any fun x => (wl u.o.dst u.r).contains x) || ancB all 4 i m || ancB all 4 m i) && confOneA all i t (m + 1) l
def confAllA (all : List It) : Nat → List It → Bool
 | _, [] => true
 | i, t :: l => (depsOf t.o).all (fun e => decide (e < i)) && confOneA all i t 0 all && confAllA all (i + 1) l
section
variable {P : Program} {fr : Fr} {ro : Option Nat} {ds : DS} {st st' : St} {Q : Exit → St → Prop} {G G' : Nat → Option Value} {F F' : Nat → Nat → Prop} {a : Act} {w w' : World}
 {M M' : Mem} {ops : Array Oper} {o : Oper} {id N : Nat} {S S' : Nat → Bool} {d : Option Nat} {r : Rc} {x y : Nat} {l : List It}
theorem confOneA_spec {all : List It} {i : Nat} {t : It} : ∀ (l : List It) (m0 : Nat), confOneA all i t m0 l = true → ∀ m u, l[m]? = some u → i ≠ m0 + m → ∀ x, (x ∈ t.rd ∨ x ∈ wl t.o.dst t.r) → x ∈ wl u.o.dst u.r → Anc all i (m0 + m) ∨ Anc all (m0 + m) i := by
 intro l
 induction l with
 | nil => intro m0 _ m u hm; simp at hm
 | cons u0 l ih =>
   intro m0 h m u hm hne x hx hu
   simp only [confOneA, Bool.and_eq_true] at h
   cases m with
   | zero =>
     have e : u0 = u := by simpa using hm
     subst e
     have h1 := h.1
     simp only [Bool.or_eq_true, beq_iff_eq, Bool.not_eq_true'] at h1
     rcases h1 with ((h1 | h1) | h1) | h1
     ·exact absurd h1 (by simpa using hne)
     ·rw [List.any_eq_false] at h1
      exact absurd (by simpa using hu) (h1 x (List.mem_append.2 hx))
     ·exact .inl (ancB_spec h1)
     ·exact .inr (ancB_spec h1)
   | succ m =>
     have := ih (m0 + 1) h.2 m u (by simpa using hm) (by omega) x hx hu
     rwa [show m0 + 1 + m = m0 + (m + 1) by omega] at this
theorem confAllA_spec {all : List It} : ∀ (l : List It) (i0 : Nat), confAllA all i0 l = true → ∀ i t, l[i]? = some t → (∀ e ∈ depsOf t.o, e < i0 + i) ∧ confOneA all (i0 + i) t 0 all = true := by
 intro l
 induction l with
 | nil => intro i0 _ i t ht; simp at ht
 | cons t0 l ih =>
   intro i0 h i t ht
   simp only [confAllA, Bool.and_eq_true, List.all_eq_true, decide_eq_true_eq] at h
   cases i with
   | zero =>
     have e : t0 = t := by simpa using ht
     subst e
     exact ⟨h.1.1, h.1.2⟩
   | succ i =>
     have := ih (i0 + 1) h.2 i t (by simpa using ht)
     rwa [show i0 + 1 + i = i0 + (i + 1) by omega] at this
theorem ConfA.of (h : confAllA l 0 l = true) : ConfA l where
 back := fun i t ht => by simpa using (confAllA_spec l 0 h i t ht).1
 edge := fun i m t u ht hu hne x hx hxu => by
  have := confOneA_spec l 0 (by simpa using (confAllA_spec l 0 h i t ht).2) m u hu (by simpa using hne) x hx hxu
  simpa using this
theorem drawAnyA {nx : Nat} {l : List It} {st : St} {G0 : Nat → Option Value} {F0 : Nat → Nat → Prop} {M0 : Mem} {w0 : World} (hops : ∀ i : Nat, (ops[i]? : Option Oper) = (l[i]?).map fun t => t.o) (hn : ops.size = l.length) (hc : ConfA l)
  (his : ∀ i t, l[i]? = some t → OpIs P fr ro ds ops (nx + i) (foldS fr (fun j => decide (j < i)) 0 l st) t)
  (hQ : ∀ G F a w, SimD P fr ds G F (foldS fr (fun _ => true) 0 l st) (nx + l.length) a w → (∀ j, nx + l.length ≤ j → G j = none) → Step (· < fr.base) G0 F0 M0 w0 G F (foldS fr (fun _ => true) 0 l st).mem w → Post P fr ds G0 F0 M0 w0 Q .normal a w) :
  ∀ (fuel : Nat) (listed : Array Bool) (G : Nat → Option Value) (F : Nat → Nat → Prop) (a : Act) (w : World), listed.size = l.length →
    SimD P fr ds G F (foldS fr (inS listed) 0 l st) (nx + l.length) a w → Step (· < fr.base) G0 F0 M0 w0 G F (foldS fr (inS listed) 0 l st).mem w →
    (∀ j, nx ≤ j → (∀ i, i < l.length → inS listed i = true → j ≠ nx + i) → G j = none) →
    (∀ i t, l[i]? = some t → inS listed i = true → ∀ e ∈ depsOf t.o, inS listed e = true) →
    (List.range l.length).countP (fun i => !inS listed i) ≤ fuel →
    wpAnyIn (fc ro) 0 P .any ops (Post P fr ds G0 F0 M0 w0 Q) fuel listed a w := by
 have allDone : ∀ (listed : Array Bool) (G : Nat → Option Value) (F : Nat → Nat → Prop) (a : Act) (w : World), SimD P fr ds G F (foldS fr (inS listed) 0 l st) (nx + l.length) a w → Step (· < fr.base) G0 F0 M0 w0 G F (foldS fr (inS listed) 0 l st).mem w →
   (∀ j, nx ≤ j → (∀ i, i < l.length → inS listed i = true → j ≠ nx + i) → G j = none) → (∀ i, i < l.length → inS listed i = true) → Post P fr ds G0 F0 M0 w0 Q .normal a w := by
  intro listed G F a w s S hfr hall
  have e : foldS fr (inS listed) 0 l st = foldS fr (fun _ => true) 0 l st := foldS_congr fun m hm => by rw [Nat.zero_add]; exact hall m hm
  rw [e] at s S
  exact hQ G F a w s (fun j hj => hfr j (by omega) fun i hi _ => by omega) S
 have readyOf : ∀ (listed : Array Bool), listed.size = l.length → ∀ i, i ∈ Region.ready .any ops listed ↔ inS listed i = false ∧ ∃ t, l[i]? = some t ∧ ∀ e ∈ depsOf t.o, inS listed e = true := by
  intro listed hsz i
  rw [mem_ready]
  constructor
  ·rintro ⟨h1, o, ho, h2⟩
   rw [hops] at ho
   obtain ⟨t, ht, rfl⟩ := Option.map_eq_some_iff.1 ho
   have hi : i < l.length := (List.getElem?_eq_some_iff.1 ht).1
   refine ⟨?_, t, ht, fun e he => ?_⟩
   ·unfold inS
    rw [Array.getD_eq_getD_getElem?] at h1 ⊢
    rw [Array.getElem?_eq_getElem (by omega)] at h1 ⊢
    exact h1
   ·simp only [depsOf, List.mem_map, List.mem_filter] at he
    obtain ⟨e', ⟨he1, he2⟩, rfl⟩ := he
    exact h2 e' (by simpa using he1) he2
  ·rintro ⟨h1, t, ht, h2⟩
   have hi : i < l.length := (List.getElem?_eq_some_iff.1 ht).1
   refine ⟨?_, t.o, by rw [hops, ht]; rfl, fun e he hb => h2 e.on ?_⟩
   ·unfold inS at h1
    rw [Array.getD_eq_getD_getElem?] at h1 ⊢
    rw [Array.getElem?_eq_getElem (by omega)] at h1 ⊢
    exact h1
   ·simp only [depsOf, List.mem_map, List.mem_filter]
    exact ⟨e, ⟨by simpa using he, hb⟩, rfl⟩
 have noneReady : ∀ (listed : Array Bool), listed.size = l.length → Region.ready .any ops listed = [] → ∀ i, i < l.length → inS listed i = true := by
  intro listed hsz hr i
  induction i using Nat.strongRecOn with
  | _ i ih =>
    intro hi
    cases hs : inS listed i with
    | true => rfl
    | false =>
      have : i ∈ Region.ready .any ops listed := (readyOf listed hsz i).2 ⟨hs, l[i], List.getElem?_eq_getElem hi, fun e he => by
       have := hc.back i l[i] (List.getElem?_eq_getElem hi) e he
       exact ih e this (by omega)⟩
      rw [hr] at this; cases this
 intro fuel
 induction fuel with
 | zero =>
   intro listed G F a w hsz s S hfr hcl hcount
   have hall : ∀ i, i < l.length → inS listed i = true := by
    intro i hi
    have h0 : (List.range l.length).countP (fun i => !inS listed i) = 0 := by omega
    rw [List.countP_eq_zero] at h0
    have := h0 i (by simpa using hi)
    simpa using this
   refine ⟨?_, allDone listed G F a w s S hfr hall⟩
   cases hr : Region.ready .any ops listed with
   | nil => rfl
   | cons i rs =>
     have := (readyOf listed hsz i).1 (by rw [hr]; exact List.mem_cons_self)
     obtain ⟨h1, t, ht, _⟩ := this
     rw [hall i (List.getElem?_eq_some_iff.1 ht).1] at h1; cases h1
 | succ fuel ih =>
   intro listed G F a w hsz s S hfr hcl hcount
   refine ⟨fun hr => allDone listed G F a w s S hfr (noneReady listed hsz hr), fun i hi => ?_⟩
   obtain ⟨hSi, t, ht, hdep⟩ := (readyOf listed hsz i).1 hi
   have hil : i < l.length := (List.getElem?_eq_some_iff.1 ht).1
   unfold wpOpIn
   rw [hops, ht]
   simp only [Option.map_some]
   have hadd : ∀ j, inS (listed.setIfInBounds i true) j = addS (inS listed) i j := by
    intro j
    unfold inS addS
    simp only [Array.getD_eq_getD_getElem?, Array.getElem?_setIfInBounds]
    by_cases h : i = j
    ·subst h
     simp [show i < listed.size by omega]
    ·simp [h, Ne.symm h]
   have hfold : foldS fr (inS (listed.setIfInBounds i true)) 0 l st = foldS fr (addS (inS listed) i) 0 l st := foldS_congr fun m _ => hadd _
   have hlook : ∀ x, look fr (foldS fr (inS (listed.setIfInBounds i true)) 0 l st) x = look fr (run1 fr t.o.dst t.r (foldS fr (inS listed) 0 l st)) x := by
    intro x
    rw [hfold]
    refine foldS_add ht hSi (fun m u hu hlt hSm x hx => ?_) x
    cases hw : wrt u.o.dst u.r x with
    | none => rfl
    | some v =>
      exfalso
      rcases hc.edge i m t u ht hu (by omega) x (.inr (wrt_wl hx)) (wrt_wl (by rw [hw]; rfl)) with h | h
      ·have := hc.lt h; omega
      ·have := h.closed hcl hSm
       rw [hSi] at this; cases this
   refine his i t ht _ G F a w (nx + l.length) _ _ s (by omega) (hfr _ (by omega) fun i' _ hS' he => ?_) (fun x hx => ?_) (fun G' F' a' w' s' S' hfr' => ?_)
   ·have : i = i' := by omega
    subst this
    rw [hSi] at hS'; cases hS'
   ·rw [look_foldS, look_foldS]
    refine lastW_agree l 0 _ fun m u hu hw => ?_
    rw [Nat.zero_add]
    by_cases hmi : m = i
    ·subst hmi; rw [hSi]; simp
    ·rcases hc.edge i m t u ht hu (fun h => hmi h.symm) x (.inl hx) (wrt_wl hw) with h | h
     ·have := hc.lt h
      rw [h.ready hcl ht hdep]; simp [this]
     ·have h1 := hc.lt h
      cases hSm : inS listed m with
      | false => simp; omega
      | true =>
        have := h.closed hcl hSm
        rw [hSi] at this; cases this
   ·refine ih _ G' F' a' w' (by simpa using hsz) (s'.ext hlook) ((S.trans (S'.mono fun _ _ => trivial)).ext (look_mem hlook)) (fun j hj hne => ?_) (fun i' t' ht' hS' e he => ?_) ?_
    ·refine hfr' j (hne i hil (by rw [hadd]; simp [addS])) (hfr j hj fun i' hi' hS' => hne i' hi' (by rw [hadd]; simp [addS, hS']))
    ·rw [hadd] at hS' ⊢
     simp only [addS, Bool.or_eq_true, decide_eq_true_eq] at hS' ⊢
     rcases hS' with hS' | rfl
     ·exact .inl (hcl i' t' ht' hS' e he)
     ·rw [ht] at ht'; cases ht'
      exact .inl (hdep e he)
    ·have := countP_less (p := fun i => !inS listed i) (q := fun j => !inS (listed.setIfInBounds i true) j) hil (by simp [hSi]) (by simp only [hadd]; simp [addS]) (fun j hj => by
       rw [hadd] at hj
       simp only [addS, Bool.not_or, Bool.and_eq_true] at hj
       exact hj.1)
     omega
theorem EvC.drawA {idr : Nat} {l : List Oper} {its : List It} (hm : P.follows .mixedOrders = true) (ht : Tr P fr ro ds l.toArray st.nx l st.clr its st') (hc : confAllA its 0 its = true)
  (hq : Q .normal ⟨st'.vars, st'.tmps, st'.mem, st.nx + its.length⟩) : EvC P fr ro ds (.region idr l.toArray true) st Q := by
 intro G0 F0 M0 w0 G F a w S s
 obtain ⟨h1, h2, h3⟩ := ht.spec
 obtain ⟨hm', S'⟩ := simM_drew (w' := { w with drawn := w.drawn + 1 }) (s.clr.sim.mem.more (Nat.le_add_right _ its.length)) rfl ⟨rfl, rfl, rfl, fun _ => rfl, .refl⟩
 have hlen : l.length = its.length := by rw [← h1]; simp
 refine wpIn_region_any hm ?_
 have hnone : ∀ i, inS (Array.replicate l.toArray.size false) i = false := fun i => by
  unfold inS
  simp only [Array.getD_eq_getD_getElem?, Array.getElem?_replicate]
  split <;> rfl
 have e : foldS fr (inS (Array.replicate l.toArray.size false)) 0 its st.clr = st.clr := by
  have : ∀ (l' : List It) (m : Nat) (st : St), foldS fr (inS (Array.replicate l.toArray.size false)) m l' st = st := by
   intro l'
   induction l' with
   | nil => intro m st; rfl
   | cons u l' ih => intro m st; simp only [foldS]; rw [hnone]; exact ih _ _
  exact this _ _ _
 refine drawAnyA (l := its) (nx := st.nx) (st := st.clr) (fun i => by rw [← h1]; simp) (by simp [hlen]) (ConfA.of hc) h2 (fun G F a w s hfr S => ?_) _ _ G F a _ (by simp [hlen]) ?_ ?_ (fun j hj _ => s.fresh j hj) (fun i t _ h => by rw [hnone] at h; cases h) ?_
 ·refine ⟨G, F, _, ⟨⟨?_, fun k => ?_, s.size⟩, hfr, s.defers⟩, ?_, hq⟩
  ·rw [h3]; exact s.mem
  ·have := s.slots k
   rw [← h3] at this
   exact this
  ·rw [← h3] at S; exact S
 ·rw [e]
  exact ⟨hm', fun k => (s.clr.sim.slots k).step S' (fun _ _ => trivial), s.clr.sim.size, s.clr.defers⟩
 ·rw [e]; exact S.trans (S'.mono fun _ _ => trivial)
 ·refine Nat.le_trans List.countP_le_length (by simp [hlen])
theorem EvC.drwA {id : Nat} {l : List Oper} {its : List It} (hm : P.follows .mixedOrders = true) (ht : Tr P fr ro ds l.toArray st.nx l st.clr its st') (hc : confAllA its 0 its = true) (hq : Q .normal (st'.fin (st.nx + its.length))) : EvC P fr ro ds (.region id l.toArray true) st Q :=
 .clrQ (.drawA hm ht hc hq)
end
end Go.Avl
namespace Go.Avl
open Go
theorem Imm.nil_zer {F : Nat → Nat → Prop} {w : World} {v : Value} {c : Cp} (h : Imm F w v (.sl true [] c)) : Imm F w v (.sl true [] .zer) := by
 cases h with
 | nil _ _ => exact .nil _ (.inr (.inl rfl))
def nilA (M : Mem) : AV → AV
 | .sl true [] _ => .sl true [] .zer
 | .tl j 0 true => match mlook M j with
   | some (.arr _ [] _) => .sl true [] .zer
   | _ => .tl j 0 true
 | v => v
def St.zerN (st : St) : St := ⟨st.vars, st.tmps, memMap (nilA st.mem) st.mem, st.nx⟩
attribute [go_sem] nilA St.zerN
section
variable {P : Program} {fr : Fr} {ro : Option Nat} {ds : DS} {st st' : St} {Q Q' : Exit → St → Prop} {G G' : Nat → Option Value} {F F' : Nat → Nat → Prop} {a : Act} {w w' : World} {M M' : Mem}
 {ops : Array Oper} {c : Code} {l rest : List Oper} {o : Oper} {N id : Nat} {rd gs : List Nat}
theorem nilA_rv {M : Mem} {nx : Nat} (hm : SimM P G F M nx w) {v : Value} {y : AV} (h : RV G F M w v y) : RV G F M w v (nilA M y) := by
 unfold nilA
 split
 ·exact .imm h.inv_sl.nil_zer
 ·rename_i j
  split
  ·rename_i esz fz ho
   obtain ⟨_, hh⟩ := h.inv_tl
   obtain ⟨hG, hb⟩ := (hh _ _ _ ho).2 rfl
   rcases (hm.obj j _ ho).2 with ⟨h0, base, h1, _⟩ | ⟨b, c, cc, e, h1, _⟩
   ·rw [hG] at h1; cases h1
    cases base with
    | none => exact .imm (.nil _ (.inr (.inl rfl)))
    | some a => simp [isNilSlice] at hb
   ·rw [hG] at h1; cases h1
    simp [isNilSlice] at hb
  ·exact h
 ·exact h
theorem EvC.zerN (hc : EvC P fr ro ds c st.zerN Q) : EvC P fr ro ds c st Q :=
 EvC.conv (fun _ F _ _ s => let ⟨s', S'⟩ := s.memMap (f := nilA st.mem) fun _ _ h => nilA_rv s.sim.mem h; ⟨_, F, s', S'⟩) hc
end
end Go.Avl
namespace Go.Avl
open Go
section
variable {P : Program} {fr : Fr} {ro : Option Nat} {ds : DS} {st st' : St} {G G' : Nat → Option Value} {F F' : Nat → Nat → Prop} {a : Act} {w w' : World} {M M' : Mem}
 {ops : Array Oper} {o : Oper} {N id : Nat} {rd gs : List Nat}
theorem app_zer {t t' e e' ty : TypeId} {ti : TI} {nx : Nat} (hm : SimM P G F M nx w) (ht : telem P t = some e) (ht' : telem P t' = some e') (hti : tinfo P e = some ti) {v u : Value} {nl nl' : Bool} {c : Cp}
  (hv : RV G F M w v (.sl nl [] .zer)) (hu : RV G F M w u (.sl nl' [] c)) :
  ((do pure (Next.value (← Builtin.append_ #[t, t'] ty #[v, u])) : Sem Next).run P w) = .ok (.value v) w := by
 obtain ⟨va, rfl⟩ : ∃ va, v = .slice va 0 0 := by
  cases hv.inv_sl with
  | nil _ _ => exact ⟨none, rfl⟩
  | sz a _ _ => exact ⟨some a, rfl⟩
  | sl b off c esz _ _ vs hc hcap hes hF hi =>
    rcases hcap with h | ⟨_, h⟩ | ⟨h, _⟩ | h
    ·cases h
    ·subst h; exact ⟨some ⟨b, off, none⟩, rfl⟩
    ·cases h
    ·cases h
 obtain ⟨_, hlen, cy, hcy, hry⟩ := elems_cells (size := ti.size) hm hu (ys := []) rfl (fun i h => by simp at h)
 have hcy0 : cy = [] := by have := hry.1; simpa using this
 subst hcy0
 exact run_v (run_append_place (w' := w) (ty := ty) ht ht' hti (base := va) (sLen := 0) (sCap := 0) hlen hcy (by simp) (fun a _ => by simp [storeCells]) (fun _ => rfl))
theorem OpIs.appZ {x y : Operand} {t t' e e' : TypeId} {ti : TI} {nl nl' : Bool} {c : Cp} (hg : o.guard = none) (hop : o.op = .call ⟨.builtin .append, #[x, y], #[t, t']⟩) (hd : dok fr o.dst = true)
  (ht : telem P t = some e) (ht' : telem P t' = some e') (hti : tinfo P e = some ti) (hx : od fr st true x = .sl nl [] .zer) (hy : od fr st true y = .sl nl' [] c) (hrd : rdOf fr st [] o = rd) :
  OpIs P fr ro ds ops id st ⟨o, ⟨.sl nl [] .zer, none⟩, rd⟩ := by
 intro st' G F a w N K Q1 s hN hG hl h
 simp only [Region.wanted, hg, if_true]
 have hlk : ∀ z ∈ o.op.operands.toList, opnd fr st' z = opnd fr st z := fun z hz => by
  cases z with
  | tmp k => exact look_slot (hl _ (by rw [← hrd]; unfold rdOf; exact List.mem_append_right _ (List.mem_append_left _ (opSlots_mem hz))))
  | _ => rfl
 rw [hop] at hlk
 have hx' : RV G F st'.mem w (a.eval x) (.sl nl [] .zer) := by
  rw [← hx, od, ← hlk x (by simp [Op.operands, Call.operands])]
  exact od_rv s.eval x
 have hy' : RV G F st'.mem w (a.eval y) (.sl nl' [] c) := by
  rw [← hy, od, ← hlk y (by simp [Op.operands, Call.operands])]
  exact od_rv s.eval y
 refine ⟨fun _ _ => trivial, ?_⟩
 rw [Oper.semAt_eq _ _ _ (by rw [hop]; intro c hc; cases hc)]
 have hrun : (execOp a.eval o).run P w = .ok (.value (a.eval x)) w := by
  obtain ⟨dst, op, ty, pos, after, guard⟩ := o
  simp only at hop
  subst hop
  rw [exec_builtin]
  simp only [List.map_toArray, List.map_cons, List.map_nil]
  exact app_zer (ty := ty) s.mem ht ht' hti hx' hy'
 rw [hrun]
 obtain ⟨s1, S1⟩ := s.put (d := o.dst) (r := ⟨.sl nl [] .zer, none⟩) (u := a.eval x) s.mem (fun _ => rfl) .refl hd hx'
 exact h _ _ _ _ s1 S1 (fun _ _ h => h)
end
end Go.Avl
namespace Go.Avl
open Go
section
variable {P : Program}
theorem test_false (seen : Array Nat) (es : Array MapEntry) (c0 : Nat) (h2 : ∀ x ∈ es.toList, x.born < c0) : (!seen.isEmpty && !es.isEmpty && es.all (fun x => decide (x.born ≥ c0))) = false := by
 cases he : es.isEmpty with
 | true => simp
 | false =>
   have hall : es.all (fun x => decide (x.born ≥ c0)) = false := by
    rw [Bool.eq_false_iff]
    intro h
    rw [Array.all_eq_true_iff_forall_mem] at h
    have h0 : 0 < es.size := by
     rcases Nat.eq_zero_or_pos es.size with h0 | h0
     ·simp [Array.isEmpty, h0] at he
     ·exact h0
    have h1 := h _ (Array.getElem_mem h0)
    have h2 := h2 es[0] (by simp)
    simp at h1
    omega
   simp [hall]
theorem run_setIt {w : World} {r : Nat} {x1 x2 x3 x4} (o : Obj) (h : w.heap[r]? = some (.mapIter x1 x2 x3 x4)) : (setObj r o).run P w = .ok () (w.putObj r o) := by
 simp only [setObj, Sem.run, h]; rfl
theorem run_range_iter {w : World} {t : TypeId} {bm : Nat} {es : Array MapEntry} {clock : Nat} (ht : (tmap P t).isSome = true) (hb : w.heap[bm]? = some (.map es clock)) :
  (Instr.range t (.map (some bm))).run P w = .ok (.pointer (some ⟨w.heap.size, 0, none⟩)) (w.alloc (.mapIter (some bm) clock #[] clock)) := by
 obtain ⟨⟨k, e⟩, h⟩ := Option.isSome_iff_exists.1 ht
 exact run_range_map w t k e bm es clock (tmap_inv h) hb
theorem run_next_iter {w : World} {ty : TypeId} {r bm since c0 : Nat} {seen : Array Nat} {es : Array MapEntry} {clock : Nat} (hr : w.heap[r]? = some (.mapIter (some bm) since seen c0)) (hb : w.heap[bm]? = some (.map es clock))
  (h1 : ∀ x ∈ es.toList, x.born < since) (h2 : ∀ x ∈ es.toList, x.born < c0) :
  ((∀ x ∈ es.toList, seen.contains x.born = true) ∧ (Instr.next (.pointer (some ⟨r, 0, none⟩)) false ty).run P w = .ok (.tuple #[.bool false]) w) ∨
  ∃ (j : Nat) (hj : j < es.size) (w1 : World), seen.contains es[j].born = false ∧ (w1 = w ∨ w1 = drew1 w) ∧
    (Instr.next (.pointer (some ⟨r, 0, none⟩)) false ty).run P w = .ok (.tuple #[.bool true, es[j].key, es[j].val]) (w1.putObj r (.mapIter (some bm) since (seen.push es[j].born) clock)) := by
 simp only [Instr.next, getObj, Sem.run_bind, Sem.run, hr, hb, Result.andThen, test_false seen es c0 h2, Bool.false_eq_true, if_false]
 have hmem : ∀ x ∈ (Array.filter (fun e => !seen.contains e.born) es).toList, x ∈ es.toList ∧ seen.contains x.born = false := fun x hx => by
  have h := Array.mem_filter.1 (Array.mem_toList_iff.1 hx)
  exact ⟨Array.mem_toList_iff.2 h.1, by simpa using h.2⟩
 have hnone : (Array.filter (fun e => !seen.contains e.born) es).size = 0 → ∀ x ∈ es.toList, seen.contains x.born = true := fun h0 x hx => by
  cases hc : seen.contains x.born with
  | true => rfl
  | false =>
    have : x ∈ Array.filter (fun e => !seen.contains e.born) es := Array.mem_filter.2 ⟨Array.mem_toList_iff.1 hx, by rw [hc]; rfl⟩
    rw [Array.eq_empty_of_size_eq_zero h0] at this
    simp at this
 generalize Array.filter (fun e => !seen.contains e.born) es = L at hmem hnone ⊢
 have e1 : L.filter (fun x => decide (x.born < since)) = L := Array.filter_eq_self.2 (fun x hx => by simpa using h1 x (hmem x (by simpa using hx)).1)
 have e2 : L.filter (fun x => decide (x.born ≥ since)) = #[] := by
  rw [Array.filter_eq_empty_iff]
  intro x hx
  have := h1 x (hmem x (by simpa using hx)).1
  simp
  omega
 simp only [e1, e2, Array.append_empty]
 by_cases h0 : L.size = 0
 ·left
  refine ⟨hnone h0, ?_⟩
  have : L = #[] := Array.eq_empty_of_size_eq_zero h0
  subst this
  simp [choose, Sem.run, Question.forced]
 ·right
  have hne : L.isEmpty = false := by simp [Array.isEmpty, h0]
  simp only [hne, Bool.false_eq_true, if_false, Array.empty_append, Array.size_map]
  have hch : ∃ (k : Nat) (w1 : World), k < L.size ∧ (w1 = w ∨ w1 = drew1 w) ∧ (choose (Question.mapNext L.size)).run P w = .ok k w1 := by
   by_cases hf : L.size ≤ 1
   ·exact ⟨0, w, by omega, .inl rfl, by simp [choose, Sem.run, Question.forced, hf]⟩
   ·exact ⟨_, drew1 w, Nat.mod_lt _ (by omega), .inr rfl, by
     simp only [choose, Sem.run, Question.forced, decide_eq_true_eq, hf, if_false, Question.cut]
     rfl⟩
  obtain ⟨k, w1, hk, hw, hrun⟩ := hch
  obtain ⟨h3, h4⟩ := hmem L[k] (by simp)
  obtain ⟨j, hj, hje⟩ := Array.mem_iff_getElem.1 (Array.mem_toList_iff.1 h3)
  refine ⟨j, hj, w1, by rw [hje]; exact h4, hw, ?_⟩
  have hr1 : w1.heap[r]? = some (.mapIter (some bm) since seen c0) := by rcases hw with rfl | rfl <;> exact hr
  have hset : ∀ o' : Obj, (setObj r o').run P w1 = .ok () (w1.putObj r o') := fun o' => run_setIt _ hr1
  simp only [hrun, Array.getElem?_map, Array.getElem?_eq_getElem hk, Option.map_some, Sem.run_bind, hset, Result.andThen, hje]
  rfl
theorem run_entry_iter {w : World} {r bm since : Nat} {seen : Array Nat} {es : Array MapEntry} {clock j : Nat} (hj : j < es.size) (hr : w.heap[r]? = some (.mapIter (some bm) since (seen.push es[j].born) clock)) (hb : w.heap[bm]? = some (.map es clock))
  (hn : (bornsOf es).Nodup) : (Instr.entry (.pointer (some ⟨r, 0, none⟩))).run P w = .ok (.tuple #[es[j].key, es[j].val]) w := by
 have hf : es.find? (·.born == es[j].born) = some es[j] := by rw [← Array.find?_toList]; exact find_born es[j] es.toList hn (by simp)
 simp only [Instr.entry, getObj, Sem.run_bind, Sem.run, hr, hb, Result.andThen, Array.back?_push, bne_self_eq_false, Bool.false_eq_true, if_false, hf]
 rfl
end
section
variable {P : Program} {fr : Fr} {ro : Option Nat} {ds : DS} {st st1 : St} {Q : Exit → St → Prop} {G : Nat → Option Value} {F : Nat → Nat → Prop} {a : Act} {w w' : World}
theorem SimA.putJ {d : Nat} (s : SimA P fr ds G F st a w) (hj : st.get fr d = .junk) (u : Value) : SimA P fr ds G F st (a.put (some d) u) w :=
 ⟨⟨s.sim.mem, fun k => by
   rw [getD_put]
   split
   ·rename_i h; rw [h.1, hj]; exact .imm (.junk _)
   ·exact s.sim.slots k, by simp only [Act.put, Array.size_setIfInBounds]; exact s.sim.size⟩, s.fresh, s.defers⟩
theorem SimA.putV {d : Nat} {u : Value} {v : AV} (s : SimA P fr ds G F st a w) (hd : d < fr.sz) (h : RV G F st.mem w u v) : SimA P fr ds G F (st.put fr (some d) v) (a.put (some d) u) w :=
 s.step_put (st1 := st) .refl s.sim.mem rfl rfl s.fresh (fun k hk => by cases hk; exact hd) h
theorem Marks.putIt {l : List Deferred} {r : Nat} {x1 x2 x3 x4} (h : Marks ds l w) (hr : w.heap[r]? = some (.mapIter x1 x2 x3 x4)) (o : Obj) : Marks ds l (w.putObj r o) := by
 obtain ⟨⟨Ds, h1, h2, h3⟩, h4, h5, h6⟩ := h
 refine ⟨⟨Ds, h1, h2, fun D hD => ⟨(h3 D hD).1, ?_⟩⟩, fun l0 hl => ?_, h5, by rw [World.putObj_size]; exact h6⟩
 ·rw [World.putObj_heap_other (by rintro rfl; have := (h3 _ hD).2; rw [hr] at this; cases this)]; exact (h3 D hD).2
 ·obtain ⟨r0, hr0⟩ := h4 l0 hl
  exact ⟨r0, by rw [World.putObj_heap_other (by rintro rfl; rw [hr] at hr0; cases hr0)]; exact hr0⟩
theorem Marks.drew {l : List Deferred} (h : Marks ds l w) : Marks ds l (drew1 w) := h
theorem Step.drew {B : Nat → Prop} {G0 : Nat → Option Value} {F0 : Nat → Nat → Prop} {M0 M : Mem} {w0 : World} (S : Step B G0 F0 M0 w0 G F M w) (hF : ∀ b o, F b o → b < w.heap.size) : Step B G0 F0 M0 w0 G F M (drew1 w) :=
 S.allocs (Nat.le_refl _) (fun _ _ => rfl) hF ⟨rfl, rfl, rfl, fun _ => rfl, .refl⟩
theorem wpOp {o : Oper} {K : Act → World → Prop} {Q1 : Exit → Act → World → Prop} (hd : ∀ c, o.op ≠ .defer c) {u : Value} (hrun : (execOp a.eval o).run P w = .ok (.value u) w') (h : K (a.put o.dst u) w') : o.wpIn (fc ro) 0 P a w K Q1 := by
 refine ⟨fun _ _ => trivial, ?_⟩
 rw [Oper.semAt_eq _ _ _ hd, hrun]
 exact h
theorem nodup_inj {l : List Nat} (h : l.Nodup) {i j : Nat} (hi : i < l.length) (hj : j < l.length) (e : l[i] = l[j]) : i = j := by
 rcases Nat.lt_trichotomy i j with h1 | h1 | h1
 ·exact absurd e (List.pairwise_iff_getElem.1 h i j hi hj h1)
 ·exact h1
 ·exact absurd e.symm (List.pairwise_iff_getElem.1 h j i hj hi h1)
def remOf (n : Nat) (dn : List Nat) : List Nat := (List.range n).filter fun j => !dn.contains j
theorem rem_lt {n j : Nat} {dn : List Nat} (hj : j < n) (hn : j ∉ dn) : (remOf n (j :: dn)).length < (remOf n dn).length :=
 filter_lt (fun i => !dn.contains i) (fun i => !(j :: dn).contains i) (fun i hi => by simp at hi ⊢; exact hi.2) j (by simpa using hn) (by simp) _ (by simpa using hj)
theorem EvC.rangeMap {σ : Type} {i1 i2 i3 out nb id it m' p q pair nxn : Nat} {t t2 t3 kt : TypeId} {ty1 ty2 ty3 ty4 : TypeId} {ps1 ps2 ps3 ps4 : String} {af1 af2 af3 af4 : Array Edge} {mv : Oper} {rest3 : List Oper} {body : Code} {ok : Bool} {es : List (Value × AV)}
  (sh : Nat → σ → St) (inv : σ → List Nat → Prop) (L : List Nat)
  (hg : mv.guard = none) (hmv : st.clr.eff fr mv.dst (xop P fr st.clr true st.clr.nx mv) = some (ok, st1)) (hok : ok = true) (hd : dok fr mv.dst = true)
  (hm : opnd fr st1 (.tmp m') = .mp id) (hmm : mlook st1.mem id = some (.map kt es)) (hid : id < fr.base) (ht : (tmap P t).isSome = true) (hsz : it < fr.sz ∧ p < fr.sz ∧ q < fr.sz ∧ pair < fr.sz)
  (hpq : p ≠ q ∧ it ≠ p ∧ it ≠ q)
  (h0 : ∀ r, ∃ K s, gcOk fr.base nxn K = true ∧ (st1.put fr (some it) (.sc (.pointer (some ⟨r, 0, none⟩)))).gc L K nxn = sh r s ∧ inv s [])
  (hj : ∀ r s dn, inv s dn → (sh r s).get fr it = .sc (.pointer (some ⟨r, 0, none⟩)) ∧ (sh r s).get fr p = .junk ∧ (sh r s).get fr q = .junk ∧ mlook (sh r s).mem id = some (.map kt es))
  (round : ∀ r s dn j (h : j < es.length), inv s dn → j ∉ dn → XR P fr ro ds (⟨some pair, .entry (.tmp it), ty4, ps4, af4, none⟩ :: rest3).toArray rest3 ((sh r s).clr.put fr (some pair) (.tu [.sc es[j].1, es[j].2]))
   (thenE (fun st' => EvC P fr ro ds body st' (inBlockE nb (thenE (fun st'' => ∃ K s', gcOk fr.base nxn K = true ∧ st''.gc L K nxn = sh r s' ∧ inv s' (j :: dn)) (inBlockE out Q))))
    (inBlockE nb (thenE (fun st'' => ∃ K s', gcOk fr.base nxn K = true ∧ st''.gc L K nxn = sh r s' ∧ inv s' (j :: dn)) (inBlockE out Q)))))
  (fin : ∀ r s dn, inv s dn → (∀ j, j < es.length → j ∈ dn) → Q .normal (sh r s)) :
  EvC P fr ro ds (.seq (.region i1 #[mv, ⟨some it, .range t (.tmp m'), ty1, ps1, af1, none⟩] false)
   (.block out (.loop (.seq (.region i2 #[⟨some p, .next (.tmp it) false, ty2, ps2, af2, none⟩, ⟨some q, .extract (.tmp p) 0, ty3, ps3, af3, none⟩] false)
    (.seq (.cond (.tmp q) .skip (.exit out)) (.block nb (.seq (.region i3 (⟨some pair, .entry (.tmp it), ty4, ps4, af4, none⟩ :: rest3).toArray false) body))))))) st Q := by
 intro G0 F0 M0 w0 G F a w S s
 refine wpIn_seq (wpIn_region_lit (l := [mv, _]) ?_)
 refine wpListIn_plain hg fun K hK => s.clr.wp hmv hok (dok_spec hd) fun G1 F1 a1 w1 s1 S1 => hK _ _ ?_
 have hmp : ∃ bm, G1 id = some (.map (some bm)) ∧ a1.eval (.tmp m') = .map (some bm) := by
  have := s1.eval (.tmp m')
  rw [hm] at this
  exact this.inv_mp
 obtain ⟨bm, hG1, hval⟩ := hmp
 obtain ⟨ents1, clock1, hb1, hsz1, hent1, _⟩ := map_of s1.sim.mem hG1 hmm
 have S01 : Step (· < fr.base) G0 F0 M0 w0 G1 F1 st1.mem w1 := S.trans (S1.mono fun _ _ => trivial)
 refine wpListIn_plain rfl fun K hK => wpOp (u := .pointer (some ⟨w1.heap.size, 0, none⟩)) (fun c => by simp) (by
  refine run_v ?_
  rw [hval]; exact run_range_iter ht hb1) (hK _ _ (wpListIn_nil ?_))
 have hr1 : (w1.alloc (.mapIter (some bm) clock1 #[] clock1)).heap[w1.heap.size]? = some (.mapIter (some bm) clock1 #[] clock1) := World.alloc_heap_new w1 _
 have hold : ∀ b, b < w1.heap.size → (w1.alloc (.mapIter (some bm) clock1 #[] clock1)).heap[b]? = w1.heap[b]? := fun b hb => RowKit.Below.heap_alloc _ _ _ hb
 have hkd : ∀ (b : Nat) (o : Obj), w1.heap[b]? = some o → (w1.alloc (.mapIter (some bm) clock1 #[] clock1)).heap[b]? = some o := fun b o hb => by
  rw [hold _ (Array.getElem?_eq_some_iff.1 hb).1]; exact hb
 have hs2 : w1.heap.size ≤ (w1.alloc (.mapIter (some bm) clock1 #[] clock1)).heap.size := by rw [World.size_alloc]; omega
 have s2 := s1.keepData (fun b o hb _ => hkd b o hb) hs2 (s1.defers.keep (fun b o hb _ => hkd b o hb) hs2)
 have S02 := S01.allocs hs2 hold s1.sim.mem.inF (.push rfl)
 have s3 := s2.putV (u := .pointer (some ⟨w1.heap.size, 0, none⟩)) hsz.1 (.imm (.sc _))
 have hb2 := hkd bm _ hb1
 have hrw : w0.heap.size ≤ w1.heap.size := S01.size
 have hrbm : bm ≠ w1.heap.size := by have := (Array.getElem?_eq_some_iff.1 hb1).1; omega
 show Code.wpIn (fc ro) 0 P _ _ _ _
 generalize hw2 : w1.alloc (.mapIter (some bm) clock1 #[] clock1) = w2 at *
 generalize hr : w1.heap.size = r at *
 obtain ⟨K0, σ0, hK0, hsh0, hinv0⟩ := h0 r
 have S03 : Step (· < fr.base) G0 F0 M0 w0 G1 F1 (st1.put fr (some it) (.sc (.pointer (some ⟨r, 0, none⟩)))).mem w2 := by rw [St.put_mem]; exact S02
 obtain ⟨s4, S4⟩ := s3.gc (L := L) (nx := nxn) hK0
 rw [hsh0] at s4 S4
 have hG4 : gcG fr.base K0 G1 id = some (.map (some bm)) := by unfold gcG; rw [if_pos hid]; exact hG1
 have hbl : (bornsOf ents1).length = es.length := by simp [bornsOf, hsz1.1]
 obtain ⟨hb3, hb4⟩ := hsz1.2
 have hb3' : ∀ x ∈ bornsOf ents1, x < clock1 := fun x hx => by
  obtain ⟨y, hy, rfl⟩ := List.mem_map.1 hx; exact hb3 y hy
 have hb4 : (bornsOf ents1).Nodup := hb4
 generalize hbs : bornsOf ents1 = bs at *
 let J : Act → World → List Nat → Prop := fun a w dn => ∃ s G F seen c0 ents clock, Step (· < fr.base) G0 F0 M0 w0 G F (sh r s).mem w ∧ SimA P fr ds G F (sh r s) a w ∧ inv s dn ∧ G id = some (.map (some bm)) ∧
  w.heap[r]? = some (.mapIter (some bm) clock1 seen c0) ∧ w.heap[bm]? = some (.map ents clock) ∧ bornsOf ents = bs ∧ (∀ x ∈ bs, x < c0) ∧ ∀ j (h : j < bs.length), seen.contains bs[j] = true ↔ j ∈ dn
 refine wpIn_block (wpIn_loop (fun a w => ∃ dn, J a w dn) (fun a w => leastOf fun n => ∃ dn, J a w dn ∧ (remOf es.length dn).length = n) ⟨[], σ0, _, _, #[], clock1, ents1, clock1, S03.trans S4, s4, hinv0, hG4, hr1, hb2, hbs, hb3', fun j h => by simp⟩ ?_)
 rintro a3 w3 ⟨dn1, h1⟩
 obtain ⟨dn, hJ, hμ⟩ := leastOf_spec (p := fun n => ∃ dn, J a3 w3 dn ∧ (remOf es.length dn).length = n) ⟨_, dn1, h1, rfl⟩
 rw [← hμ]
 clear hμ h1 dn1
 obtain ⟨s, G, F, seen, c0, ents, clock, S, s', hinv, hG, hr3, hb, hbe, hc0, hseen⟩ := hJ
 obtain ⟨hj1, hj2, hj3, hj4⟩ := hj r s dn hinv
 obtain ⟨ents', clock', hb', hsz3, hent3, _⟩ := map_of s'.sim.mem hG hj4
 rw [hb] at hb'; cases hb'
 have hmemb : ∀ x ∈ ents.toList, x.born ∈ bs := fun x hx => by rw [← hbe]; exact List.mem_map.2 ⟨x, hx, rfl⟩
 have hit : a3.eval (.tmp it) = .pointer (some ⟨r, 0, none⟩) := by
  have := s'.sim.slots it
  rw [hj1] at this
  exact this.inv_sc
 refine wpIn_seq (wpIn_region_lit (l := [_, _]) ?_)
 have hpx : ∀ (u : Value), (a3.put (some p) u).eval (.tmp p) = u := fun u => by
  show (a3.put (some p) u).tmps.getD p undef = u
  rw [getD_put, if_pos ⟨rfl, by rw [s'.sim.size]; exact hsz.2.1⟩]
 have hqx : ∀ (u v : Value), ((a3.put (some p) u).put (some q) v).eval (.tmp q) = v := fun u v => by
  show ((a3.put (some p) u).put (some q) v).tmps.getD q undef = v
  rw [getD_put, if_pos ⟨rfl, by simp only [Act.put, Array.size_setIfInBounds]; rw [s'.sim.size]; exact hsz.2.2.1⟩]
 rcases run_next_iter (P := P) (ty := ty2) hr3 hb (fun x hx => hb3' _ (hmemb x hx)) (fun x hx => hc0 _ (hmemb x hx)) with ⟨hall, hrun⟩ | ⟨j, hjn, w4, hns, hw4, hrun⟩
 ·refine wpListIn_plain rfl fun K hK => wpOp (u := .tuple #[.bool false]) (fun c => by simp) (by
    refine run_v ?_
    rw [hit]; exact hrun) (hK _ _ ?_)
  refine wpListIn_plain rfl fun K hK => wpOp (u := .bool false) (fun c => by simp) (by
   refine run_v ?_
   rw [hpx]; rfl) (hK _ _ (wpListIn_nil ?_))
  refine wpIn_seq (wpIn_cond_split (hqx _ _) (fun h => by cases h) fun _ => wpIn_exit ?_)
  show Exit.inBlock out _ (.exit out) _ _
  simp only [Exit.inBlock, if_true]
  refine ⟨G, F, sh r s, (s'.putJ hj2 _).putJ hj3 _, S, fin r s dn hinv fun j hjl => ?_⟩
  have hjb : j < bs.length := by omega
  rw [← hseen j hjb]
  have hjs : j < ents.toList.length := by rw [← hbe] at hjb; simpa [bornsOf] using hjb
  have := hall ents.toList[j] (List.getElem_mem hjs)
  have e : bs[j] = ents.toList[j].born := by simp only [← hbe, bornsOf, List.getElem_map]
  rw [e]; exact this
 ·have hjb : j < bs.length := by rw [← hbe]; simpa [bornsOf] using hjn
  have ejb : bs[j] = ents[j].born := by simp only [← hbe, bornsOf, List.getElem_map, Array.getElem_toList]
  have hjl : j < es.length := by omega
  have hjd : j ∉ dn := fun h => by
   have := (hseen j hjb).2 h
   rw [ejb, hns] at this; cases this
  have h4 : w4.heap = w3.heap ∧ Step (· < fr.base) G0 F0 M0 w0 G F (sh r s).mem w4 ∧ Marks ds a3.defers w4 := by
   rcases hw4 with rfl | rfl
   ·exact ⟨rfl, S, s'.defers⟩
   ·exact ⟨rfl, S.drew s'.sim.mem.inF, s'.defers⟩
  obtain ⟨h4h, S4', m4⟩ := h4
  have hr4 : w4.heap[r]? = some (.mapIter (some bm) clock1 seen c0) := by rw [h4h]; exact hr3
  have hrl : r < w4.heap.size := (Array.getElem?_eq_some_iff.1 hr4).1
  have S5 := S4'.putAbove hrw hr4 rfl (o2 := .mapIter (some bm) clock1 (seen.push ents[j].born) clock) rfl
  have hkd5 : ∀ (b : Nat) (o : Obj), w3.heap[b]? = some o → isData o = true → (w4.putObj r (.mapIter (some bm) clock1 (seen.push ents[j].born) clock)).heap[b]? = some o := fun b o hb ho => keep_put hr4 rfl _ b o (by rw [h4h]; exact hb) ho
  have s5 := s'.keepData (w' := w4.putObj r (.mapIter (some bm) clock1 (seen.push ents[j].born) clock)) hkd5 (by rw [World.putObj_size, h4h]; exact Nat.le_refl _) (m4.putIt hr4 _)
  have hr5 := World.putObj_heap_same (o := .mapIter (some bm) clock1 (seen.push ents[j].born) clock) hrl
  have hb5 : (w4.putObj r (.mapIter (some bm) clock1 (seen.push ents[j].born) clock)).heap[bm]? = some (.map ents clock) := by rw [World.putObj_heap_other hrbm, h4h]; exact hb
  generalize w4.putObj r (.mapIter (some bm) clock1 (seen.push ents[j].born) clock) = w5 at *
  refine wpListIn_plain rfl fun K hK => wpOp (u := .tuple #[.bool true, ents[j].key, ents[j].val]) (w' := w5) (fun c => by simp) (by
   refine run_v ?_
   rw [hit]; exact hrun) (hK _ _ ?_)
  refine wpListIn_plain rfl fun K hK => wpOp (u := .bool true) (fun c => by simp) (by
   refine run_v ?_
   rw [hpx]; rfl) (hK _ _ (wpListIn_nil ?_))
  have s6 := ((s5.putJ hj2 (.tuple #[.bool true, ents[j].key, ents[j].val])).putJ hj3 (.bool true))
  refine wpIn_seq (wpIn_cond_split (hqx _ _) (fun _ => wpIn_skip ?_) fun h => by cases h)
  have hit6 := s6.sim.slots it
  rw [hj1] at hit6
  have hit6 := hit6.inv_sc
  obtain ⟨k1, k2, _⟩ := hent3 j hjn hjl
  let B : Exit → St → Prop := inBlockE nb (thenE (fun st'' => ∃ K s', gcOk fr.base nxn K = true ∧ st''.gc L K nxn = sh r s' ∧ inv s' (j :: dn)) (inBlockE out Q))
  have hreg : (Code.region i3 (⟨some pair, .entry (.tmp it), ty4, ps4, af4, none⟩ :: rest3).toArray false).wpIn (fc ro) 0 P (Post P fr ds G F (sh r s).mem w5 (thenE (fun st' => EvC P fr ro ds body st' B) B))
    ((a3.put (some p) (.tuple #[.bool true, ents[j].key, ents[j].val])).put (some q) (.bool true)) w5 := by
   refine wpIn_region_lit ?_
   refine wpListIn_plain rfl fun K hK => wpOp (u := .tuple #[ents[j].key, ents[j].val]) (fun c => by simp) (by
    refine run_v ?_
    show (Instr.entry (((a3.put _ _).put _ _).tmps.getD it undef)).run P _ = _
    rw [hit6]; exact run_entry_iter hjn hr5 hb5 (by rw [hbe]; exact hb4)) (hK _ _ ?_)
   have s7 := s6.clr.putV (d := pair) (u := .tuple #[ents[j].key, ents[j].val]) (v := .tu [.sc es[j].1, es[j].2]) hsz.2.2.2 (.tu [ents[j].key, ents[j].val] _ rfl fun i h1 h2 => by
    rcases i with _ | _ | i
    ·simp only [List.getElem_cons_zero, k1]; exact .imm (.sc _)
    ·simp only [List.getElem_cons_succ, List.getElem_cons_zero]
     exact k2.keepData hkd5
    ·simp at h1; omega)
   exact round r s dn j hjl hinv hjd _ _ _ _ _ _ _ _ (by rw [St.put_mem]; exact .refl) s7
  have hB : ∀ e a' w', Post P fr ds G F (sh r s).mem w5 B e a' w' → Exit.inBlock nb (Exit.then (fun a' w' => (∃ dn, J a' w' dn) ∧ (leastOf fun n => ∃ dn, J a' w' dn ∧ (remOf es.length dn).length = n) < (remOf es.length dn).length) (Exit.inBlock out (Post P fr ds G0 F0 M0 w0 Q))) e a' w' := by
   rintro e a' w' ⟨G', F', st', h1, h2, h3⟩
   have hS0 := S5.trans h2
   have norm : (∃ K s', gcOk fr.base nxn K = true ∧ st'.gc L K nxn = sh r s' ∧ inv s' (j :: dn)) → (∃ dn, J a' w' dn) ∧ (leastOf fun n => ∃ dn, J a' w' dn ∧ (remOf es.length dn).length = n) < (remOf es.length dn).length := by
    rintro ⟨K', s2, hK', hsh', hinv'⟩
    obtain ⟨t1, T1⟩ := h1.gc (L := L) (nx := nxn) hK'
    rw [hsh'] at t1 T1
    have hG' : G' id = some (.map (some bm)) := h2.same id _ hid hG (fun a n c h => by cases h)
    have hG'' : gcG fr.base K' G' id = some (.map (some bm)) := by unfold gcG; rw [if_pos hid]; exact hG'
    obtain ⟨_, _, _, hj4'⟩ := hj r s2 (j :: dn) hinv'
    obtain ⟨ents2, clock2, q1, q2, _, _⟩ := map_of t1.sim.mem hG'' hj4'
    obtain ⟨ents3, clock3, q3, q4⟩ := h2.kept.maps bm ents clock hb5
    rw [q1] at q3; cases q3
    have hbe2 : bornsOf ents2 = bs := by
     rw [hbe] at q4
     exact (q4.eq_of_length (by rw [hbl]; simp [bornsOf, q2.1])).symm
    have hJ' : J a' w' (j :: dn) := ⟨s2, _, _, seen.push ents[j].born, clock, ents2, clock2, hS0.trans T1, t1, hinv', hG'', h2.keepObj s5.sim.mem hr5 rfl, q1, hbe2, fun x hx => by
     rw [← hbe] at hx
     obtain ⟨y, hy, rfl⟩ := List.mem_map.1 hx
     exact hsz3.2.1 y hy, fun i hi => by
     rw [contains_push, Bool.or_eq_true, hseen i hi, ← ejb, List.mem_cons, beq_iff_eq]
     constructor
     ·rintro (h | h)
      ·exact .inr h
      ·exact .inl (nodup_inj hb4 _ _ h)
     ·rintro (rfl | h)
      ·exact .inr rfl
      ·exact .inl h⟩
    exact ⟨⟨_, hJ'⟩, Nat.lt_of_le_of_lt (leastOf_le (p := fun n => ∃ dn, J a' w' dn ∧ (remOf es.length dn).length = n) ⟨_, hJ', rfl⟩) (rem_lt hjl hjd)⟩
   cases e with
   | normal => exact norm h3
   | exit id' =>
     simp only [Exit.inBlock]
     simp only [B, inBlockE] at h3
     split
     ·rename_i hi; rw [if_pos hi] at h3; exact norm h3
     ·rename_i hi; rw [if_neg hi] at h3
      simp only [Exit.then, Exit.inBlock]
      simp only [thenE, inBlockE] at h3
      split
      ·rename_i hi; rw [if_pos hi] at h3; exact ⟨G', F', st', h1, hS0, h3⟩
      ·rename_i hi; rw [if_neg hi] at h3; exact ⟨G', F', st', h1, hS0, h3⟩
   | _ => exact ⟨G', F', st', h1, hS0, h3⟩
  refine wpIn_block (wpIn_seq (wpIn_mono hreg fun e a' w' h => ?_))
  cases e with
  | normal =>
    obtain ⟨G', F', st', h1, h2, h3⟩ := h
    exact wpIn_mono (h3 _ _ _ _ _ _ _ _ h2 h1) hB
  | exit i => obtain ⟨G', F', st', h1, h2, h3⟩ := h; exact hB (.exit i) _ _ ⟨G', F', st', h1, h2, h3⟩
  | goto l => obtain ⟨G', F', st', h1, h2, h3⟩ := h; exact hB (.goto l) _ _ ⟨G', F', st', h1, h2, h3⟩
  | ret => obtain ⟨G', F', st', h1, h2, h3⟩ := h; exact hB .ret _ _ ⟨G', F', st', h1, h2, h3⟩
  | panic c => obtain ⟨G', F', st', h1, h2, h3⟩ := h; exact hB (.panic c) _ _ ⟨G', F', st', h1, h2, h3⟩
  | outgrown => obtain ⟨G', F', st', h1, h2, h3⟩ := h; exact hB .outgrown _ _ ⟨G', F', st', h1, h2, h3⟩
end
end Go.Avl
namespace Go.Avl
open Go
def St.unkV (fr : Fr) (k : Nat) (st : St) : Option St :=
 match (st.get fr k).noref with
 | true => some (st.put fr (some k) (st.get fr k).unk)
 | false => none
attribute [go_sem] St.unkV
section
variable {P : Program} {fr : Fr} {ro : Option Nat} {ds : DS} {st st' : St} {Q : Exit → St → Prop} {G : Nat → Option Value} {F : Nat → Nat → Prop} {a : Act} {w : World} {c : Code}
theorem SimA.unkV {k : Nat} (s : SimA P fr ds G F st a w) (h : st.unkV fr k = some st') : SimA P fr ds G F st' a w ∧ st'.mem = st.mem := by
 unfold St.unkV at h
 split at h
 ·rename_i hn
  cases h
  refine ⟨⟨⟨by rw [St.put_mem, St.put_nx]; exact s.sim.mem, fun j => ?_, s.sim.size⟩, fun j hj => s.fresh j (by rw [St.put_nx] at hj; exact hj), s.defers⟩, St.put_mem ..⟩
  rw [St.put_mem, St.get_put]
  split
  ·rename_i hj; subst hj
   exact .imm ((s.sim.slots j).imm_of hn).unk
  ·exact s.sim.slots j
 ·cases h
theorem EvC.unkV (k : Nat) (h : st.unkV fr k = some st') (hc : EvC P fr ro ds c st' Q) : EvC P fr ro ds c st Q :=
 EvC.conv (fun G F _ _ s => ⟨G, F, (s.unkV h).1, by rw [(s.unkV h).2]; exact .refl⟩) hc
end
end Go.Avl
namespace Go.Avl
open Go
section
variable {P : Program} {fr : Fr} {ro : Option Nat} {ds : DS} {st st' : St} {Q Q' : Exit → St → Prop} {G G' : Nat → Option Value} {F F' : Nat → Nat → Prop} {a : Act} {w w' : World} {c : Code}
 {M : Mem} {ops : Array Oper} {l rest : List Oper} {o : Oper} {id N : Nat} {rd : List Nat}
theorem BodyIs.calls {f : FuncId} {xs : List AV} {nx : Nat} {R : AV → Mem → Nat → Prop} (hb : BodyIs P f xs M nx R) :
  callable P f ∧ ∀ G F w (vals : List Value), SimM P G F M nx w → (∀ j, nx ≤ j → G j = none) → (vals.length = xs.length ∧ ∀ i (h1 : i < vals.length) (h2 : i < xs.length), RV G F M w vals[i] xs[i]) →
   CallsIn Fence.wide 0 P f vals.toArray w fun e w2 => ∃ u G' F' r M' nx', e = .returned u ∧ R r M' nx' ∧ RV G' F' M' w2 u r ∧ SimM P G' F' M' nx' w2 ∧ (∀ j, nx' ≤ j → G' j = none) ∧ Step All G F M w G' F' M' w2 := by
 obtain ⟨fn, c, nv, hid, hf, hb, hnm, hsz, hbody⟩ := hb
 refine ⟨callable_of hf hnm (by rw [hb]; rfl), fun G F w vals hm hfr hi => ?_⟩
 have s0 : SimA P ⟨nx, nv, hid, fn.ntmps⟩ ⟨w.heap.size, none, false⟩ G F ⟨vars0 0 xs, [], M, nx⟩ { tmps := vals.toArray ++ Array.replicate (fn.ntmps - vals.toArray.size) undef, defers := [] } w := by
  refine ⟨⟨hm, fun k => ?_, by simp; omega⟩, hfr, Marks.none _ _ _ (Nat.le_refl _)⟩
  have key : ∀ x, (x = .junk ∨ ∃ h : k < xs.length, x = xs[k]) → RV G F M w ((vals.toArray ++ Array.replicate (fn.ntmps - vals.toArray.size) undef).getD k undef) x := by
   rintro x (rfl | ⟨hk, rfl⟩)
   ·exact .imm (.junk _)
   ·have : (vals.toArray ++ Array.replicate (fn.ntmps - vals.toArray.size) undef).getD k undef = vals[k]'(by omega) := by
      rw [Array.getD_eq_getD_getElem?, Array.getElem?_append_left (by simp; omega)]
      simp [List.getElem?_eq_getElem (show k < vals.length by omega)]
    rw [this]
    exact hi.2 k (by omega) hk
  refine key _ ?_
  unfold St.get
  split
  ·rcases alook_vars0 xs 0 k with h | ⟨h1, h2, h3⟩
   ·exact .inl h
   ·exact .inr ⟨by simpa using h1, by simpa using h3⟩
  ·exact .inl rfl
 refine callsIn_of_wp_marks (F := Fence.wide) hf hb trivial (wpIn_mono (hbody _ _ _ _ _ _ _ _ _ .refl s0) ?_)
 rintro e a' w' ⟨G', F', st', s', S', he, rs, hrs, hR⟩
 have SA := S'.all hfr
 have hfin : ∀ (Ds : List Nat) (w2 : World), Ds.Nodup → (∀ D ∈ Ds, w.heap.size ≤ D ∧ w2.heap[D]? = some (.deferred (some []))) → SimA P ⟨nx, nv, hid, fn.ntmps⟩ ⟨w.heap.size, none, false⟩ G' F' st' { a' with defers := [] } w2 → Step All G F M w G' F' st'.mem w2 →
   LeavesInM Fence.wide 0 P fn a'.tmps (fun e w2 => ∃ u G' F' r M' nx', e = .returned u ∧ R r M' nx' ∧ RV G' F' M' w2 u r ∧ SimM P G' F' M' nx' w2 ∧ (∀ j, nx' ≤ j → G' j = none) ∧ Step All G F M w G' F' M' w2) (Ds.map dmark) .returning w2 := by
  intro Ds
  induction Ds with
  | nil =>
    intro w2 _ _ s2 S2
    obtain ⟨u, hu, hru⟩ := resultsR_ok s2 hrs
    exact ⟨u, hu, u, G', F', mkRes rs, st'.mem, st'.nx, rfl, hR, hru, s2.sim.mem, s'.fresh, S2⟩
  | cons D Ds ih =>
    intro w2 hnd hD s2 S2
    obtain ⟨h1, h2⟩ := hD D List.mem_cons_self
    have hnd := List.nodup_cons.1 hnd
    have hk : ∀ (b : Nat) (o : Obj), w2.heap[b]? = some o → isData o = true → (w2.putObj D (.deferred none)).heap[b]? = some o := fun b o hb ho => by
     rw [World.putObj_heap_other (by rintro rfl; rw [h2] at hb; cases hb; cases ho)]; exact hb
    refine ⟨(by intro h; cases h), .inl ⟨D, _, rfl, run_takeDeferred h2, ih _ hnd.2 (fun D' hD' => ?_) ⟨⟨s2.sim.mem.keepData hk (by rw [World.putObj_size]; exact Nat.le_refl _), fun k => (s2.sim.slots k).keepData hk, s2.sim.size⟩, s2.fresh, Marks.none _ _ _ (by rw [World.putObj_size]; exact S2.size)⟩ ?_⟩⟩
    ·refine ⟨(hD D' (List.mem_cons_of_mem _ hD')).1, ?_⟩
     rw [World.putObj_heap_other (by rintro rfl; exact hnd.1 hD')]; exact (hD D' (List.mem_cons_of_mem _ hD')).2
    ·exact S2.putAbove h1 h2 rfl rfl
 obtain ⟨⟨Ds, hDs, hnd, hD⟩, _⟩ := s'.defers
 have := hfin Ds w' hnd hD ⟨⟨s'.sim.mem, s'.sim.slots, s'.sim.size⟩, s'.fresh, Marks.none _ _ _ SA.size⟩ SA
 rw [← hDs] at this
 rcases he with rfl | rfl
 ·exact this
 ·exact this
def prM (n : Nat) (es : List (List AV)) (x : AV) : Mem := [(0, .cells [.tv 1 n 0 n .unk, x]), (1, .arr 1 es false)]
def WrIs (P : Program) (f : FuncId) (n : Nat) (es : List (List AV)) (y r : AV) (es' : List (List AV)) : Prop :=
 ∀ v : Value, BodyIs P f [.rf 0 0, y] (prM n es (.sc v)) 2 fun r' M' _ => r' = r ∧ M' = prM n es' (.sc v)
theorem simM_wr {i u n : Nat} {e r y : AV} {es es' : List (List AV)} {f : FuncId} {x1 : Value} (hm : SimM P G F M N w) (hi : mlook M i = some (.cells [.tv u n 0 n .unk, e])) (hu : mlook M u = some (.arr 1 es false))
  (hn : n = es.length) (h0 : n ≠ 0) (hl : es'.length = es.length) (hes : es.all AV.norefs = true) (hes' : es'.all AV.norefs = true) (hy : y.noref = true) (hr : r.noref = true) (hc : WrIs P f n es y r es') {b : Nat} (hG : G i = some (.pointer (some ⟨b, 0, none⟩))) (hx1 : Imm F w x1 y) :
  callable P f ∧ CallsIn Fence.wide 0 P f #[.pointer (some ⟨b, 0, none⟩), x1] w fun ed w2 => ∃ v F', ed = .returned v ∧ Imm F' w2 v r ∧ SimM P G F' (mset M u (.arr 1 es' false)) N w2 ∧ Step All G F M w G F' (mset M u (.arr 1 es' false)) w2 := by
 subst hn
 have hui : u ≠ i := by rintro rfl; rw [hi] at hu; cases hu
 obtain ⟨hiN, hio⟩ := hm.obj i _ hi
 obtain ⟨huN, huo⟩ := hm.obj u _ hu
 obtain ⟨b', c, el, k1, k2, k3, k4, k5⟩ := hio
 rw [hG] at k1; cases k1
 rcases huo with ⟨q0, _⟩ | ⟨bu, cu, ccu, eu, q1, q2, q3, q4, q5, q6, q7, q8, q9⟩
 ·rw [q0] at h0; exact absurd rfl h0
 have hc2 : c.size = 2 := by rw [k3]; rfl
 have hv0 := k4 0 (by omega) (by simp)
 have hv1 := k4 1 (by omega) (by simp)
 simp only [List.getElem_cons_zero, List.getElem_cons_succ] at hv0 hv1
 have hbne : b ≠ bu := fun he => hui (hm.inj u i _ _ bu (by simp [hu]) (by simp [hi]) q1 hG (by simp [blkOf, q2]) (by simp [blkOf, he]))
 obtain ⟨gG, hgG⟩ : ∃ gG : Nat → Option Value, gG = fun j => if j = 0 then G i else if j = 1 then G u else none := ⟨_, rfl⟩
 have g0 : gG 0 = some (.pointer (some ⟨b, 0, none⟩)) := by rw [hgG]; exact hG
 have g1 : gG 1 = some (.slice (some ⟨bu, 0, none⟩) es.length cu) := by rw [hgG]; exact q1
 have g2 : ∀ j, 2 ≤ j → gG j = none := fun j hj => by rw [hgG]; simp only; rw [if_neg (by omega), if_neg (by omega)]
 have m0 : ∀ (es2 : List (List AV)) (x : AV), mlook (prM es.length es2 x) 0 = some (.cells [.tv 1 es.length 0 es.length .unk, x]) := fun _ _ => rfl
 have m1 : ∀ (es2 : List (List AV)) (x : AV), mlook (prM es.length es2 x) 1 = some (.arr 1 es2 false) := fun _ _ => rfl
 have m2 : ∀ (es2 : List (List AV)) (x : AV) j, 2 ≤ j → mlook (prM es.length es2 x) j = none := fun _ _ j hj => by
  simp only [prM, mlook]; rw [if_neg (by omega), if_neg (by omega)]
 obtain ⟨v, hv⟩ : ∃ v, v = c[1]'(by omega) := ⟨_, rfl⟩
 have imm_row : ∀ {x : Value} {k j : Nat} (hk : k < es.length) (hj : j < es[k].length), RV G F M w x es[k][j] → Imm F w x es[k][j] := fun hk hj h => h.imm_of (all_norefs hes _ _ hk hj)
 have hm1 : SimM P gG F (prM es.length es (.sc v)) 2 w := by
  refine ⟨fun j ob hj => ?_, fun j j' z z' bb h1 h2 h3 h4 h5 h6 => ?_, hm.inF, hm.gl⟩
  ·by_cases hj0 : j = 0
   ·subst hj0
    rw [m0] at hj; cases hj
    refine ⟨by omega, b, c, el, g0, k2, by rw [hc2]; rfl, fun t h1 h2 => ?_, k5⟩
    match t with
    | 0 =>
      obtain ⟨_, hh⟩ := hv0.inv_tv
      obtain ⟨h3, h4⟩ := hh _ _ _ hu
      obtain ⟨h5, b2, c2, h6, h7, h8⟩ := h4 rfl
      rw [q1] at h6; cases h6
      refine .tv 1 es.length 0 es.length .unk _ (by rw [g1]; simp) fun esz es1 fz ho => ?_
      rw [m1] at ho; cases ho
      rw [g1]
      exact ⟨h3, fun _ => ⟨h5, bu, cu, rfl, h7, h8⟩⟩
    | 1 =>
      simp only [List.getElem_cons_zero, List.getElem_cons_succ]
      rw [hv]; exact .imm (.sc _)
   ·by_cases hj1 : j = 1
    ·subst hj1
     rw [m1] at hj; cases hj
     refine ⟨by omega, .inr ⟨bu, cu, ccu, eu, g1, q2, q3, q4, q5, q6, fun k j hk hj => ?_, q8, q9⟩⟩
     obtain ⟨z, z1, z2, z3⟩ := q7 k j hk hj
     exact ⟨z, z1, z2, .imm (imm_row hk hj z3)⟩
    ·rw [m2 _ _ j (by omega)] at hj; cases hj
  ·have lt : ∀ j, mlook (prM es.length es (.sc v)) j ≠ none → j = 0 ∨ j = 1 := fun j hj => by
     by_cases h : 2 ≤ j
     ·exact absurd (m2 _ _ j h) hj
     ·omega
   rcases lt j h1 with rfl | rfl <;> rcases lt j' h2 with rfl | rfl
   ·rfl
   ·rw [g0] at h3; rw [g1] at h4; cases h3; cases h4
    simp only [blkOf, Option.some.injEq] at h5; simp only [blkOf, if_neg q2, Option.some.injEq] at h6
    omega
   ·rw [g1] at h3; rw [g0] at h4; cases h3; cases h4
    simp only [blkOf, Option.some.injEq] at h6; simp only [blkOf, if_neg q2, Option.some.injEq] at h5
    omega
   ·rfl
 obtain ⟨hca, hcalls⟩ := (hc v).calls
 refine ⟨hca, (hcalls gG F w [.pointer (some ⟨b, 0, none⟩), x1] hm1 g2 ⟨rfl, fun k h1 h2 => ?_⟩).mono ?_⟩
 ·match k with
  | 0 => exact .rf 0 0 b g0
  | 1 => exact .imm hx1
 rintro ed w2 ⟨z, G', F', r', M', nx', rfl, ⟨rfl, rfl⟩, hz, hm', hfr', S1⟩
 have e1 : G' 1 = gG 1 := by
  obtain ⟨ob, w1, w1', h1, h2, h3, h4⟩ := S1.keep 1 _ trivial (by rw [g1]; simp) (m1 es' (.sc v))
  rw [m1] at h1; cases h1
  obtain ⟨_, h5⟩ := h4
  rcases h5 with ⟨_, h5⟩ | h5
  ·rw [h3, h2, h5]
  ·omega
 have e0 : G' 0 = gG 0 := by
  obtain ⟨ob, w1, w1', h1, h2, h3, h4⟩ := S1.keep 0 _ trivial (by rw [g0]; simp) (m0 es' (.sc v))
  rw [m0] at h1; cases h1
  rw [h3, h2]
  exact congrArg some h4
 have ownM : ∀ bb, Owned gG (prM es.length es (.sc v)) bb → Owned G M bb := fun bb ⟨j, ob, z, h1, h2, h3⟩ => by
  have : j = 0 ∨ j = 1 := by
   by_cases h : 2 ≤ j
   ·rw [m2 _ _ j h] at h1; cases h1
   ·omega
  rcases this with rfl | rfl
  ·exact ⟨i, _, z, hi, by rw [hG, ← g0]; exact h2, h3⟩
  ·exact ⟨u, _, z, hu, by rw [q1, ← g1]; exact h2, h3⟩
 have S : Step All G F M w G F' (mset M u (.arr 1 es' false)) w2 :=
  { kept := S1.kept
    size := S1.size
    out := fun bb hb ho => S1.out bb hb fun h => ho (ownM bb h)
    F1 := S1.F1
    F2 := S1.F2
    F3 := fun bb o h => by rcases S1.F3 bb o h with h | h | h
                           ·exact .inl h
                           ·exact .inr (.inl h)
                           ·exact .inr (.inr (ownM bb h))
    own := fun bb ⟨j, ob, z, h1, h2, h3⟩ => by
     rw [mlook_mset] at h1
     by_cases hj : j = u
     ·subst hj; exact .inr ⟨j, _, z, hu, h2, h3⟩
     ·rw [if_neg hj] at h1; exact .inr ⟨j, ob, z, h1, h2, h3⟩
    some' := fun _ _ h => h
    same := fun _ _ _ h _ => h
    keep := fun j o' _ hj ho => by
     cases hg : G j with
     | none => exact absurd hg hj
     | some z =>
       rw [mlook_mset] at ho
       by_cases hju : j = u
       ·subst hju
        rw [if_pos rfl] at ho; cases ho
        exact ⟨_, z, z, hu, rfl, rfl, rfl, .inl ⟨hl, rfl⟩⟩
       ·rw [if_neg hju] at ho
        exact ⟨o', z, z, ho, rfl, rfl, objKeep.refl z o'⟩ }
 refine ⟨z, F', rfl, hz.imm_of hr, simM_gen hm S (fun j o' ho => ?_) (fun j j' z z' bb h1 h2 h3 h4 h5 h6 => ?_) hm'.inF, S⟩
 ·rw [mlook_mset] at ho
  by_cases hju : j = u
  ·subst hju
   rw [if_pos rfl] at ho; cases ho
   refine ⟨huN, .inl ?_⟩
   rcases (hm'.obj 1 _ (m1 es' (.sc v))).2 with ⟨p0, _⟩ | ⟨bu', cu', ccu', eu', p1, p2, p3, p4, p5, p6, p7, p8, p9⟩
   ·rw [p0] at hl; simp at hl; omega
   ·refine .inr ⟨bu', cu', ccu', eu', by rw [q1, ← g1, ← e1]; exact p1, p2, p3, p4, p5, p6, fun k t hk ht => ?_, p8, p9⟩
    obtain ⟨y1, y2, y3, y4⟩ := p7 k t hk ht
    exact ⟨y1, y2, y3, .imm (y4.imm_of (all_norefs hes' k t hk ht))⟩
  ·rw [if_neg hju] at ho
   by_cases hji : j = i
   ·subst hji
    rw [hi] at ho; cases ho
    refine ⟨hiN, .inl ?_⟩
    obtain ⟨b2, c2, el2, p1, p2, p3, p4, p5⟩ := (hm'.obj 0 _ (m0 es' (.sc v))).2
    rw [e0, g0] at p1; cases p1
    refine ⟨b, c2, el2, hG, p2, p3, fun t h1 h2 => ?_, p5⟩
    have h1' : t < 2 := by simpa using h2
    match t with
    | 0 =>
      have hp := p4 0 h1 (by simp)
      simp only [List.getElem_cons_zero] at hp ⊢
      obtain ⟨_, hh⟩ := hp.inv_tv
      obtain ⟨h3, h4⟩ := hh _ _ _ (m1 es' (.sc v))
      obtain ⟨h5, b3, c3, h6, h7, h8⟩ := h4 (by omega)
      refine .tv u es.length 0 es.length .unk _ (by rw [q1]; simp) fun esz es1 fz ho => ?_
      rw [mlook_mset, if_pos rfl] at ho; cases ho
      rw [e1, g1, ← q1] at h6
      exact ⟨h3, fun _ => ⟨h5, b3, c3, h6, h7, h8⟩⟩
    | 1 =>
      have hp := p4 1 h1 (by simp)
      simp only [List.getElem_cons_zero, List.getElem_cons_succ] at hp ⊢
      rw [hp.inv_sc, hv]
      exact hv1.step S fun _ _ => trivial
   ·refine ⟨(hm.obj j o' ho).1, .inr ⟨ho, rfl, fun bb z hz hb => ?_⟩⟩
    have hno : ¬ Owned gG (prM es.length es (.sc v)) bb := fun ⟨t, ob, z', h1, h2, h3⟩ => by
     have : t = 0 ∨ t = 1 := by
      by_cases h : 2 ≤ t
      ·rw [m2 _ _ t h] at h1; cases h1
      ·omega
     rcases this with rfl | rfl
     ·exact hji (hm.inj j i z z' bb (by simp [ho]) (by simp [hi]) hz (by rw [hG, ← g0]; exact h2) hb h3)
     ·exact hju (hm.inj j u z z' bb (by simp [ho]) (by simp [hu]) hz (by rw [q1, ← g1]; exact h2) hb h3)
    have hlt := hm.lt ⟨j, o', z, ho, hz, hb⟩
    refine ⟨S1.out bb hlt hno, fun o hF => ?_⟩
    rcases S1.F3 bb o hF with h | h | h
    ·exact h
    ·omega
    ·exact absurd h hno
 ·have ne : ∀ j, mlook (mset M u (.arr 1 es' false)) j ≠ none → mlook M j ≠ none := fun j hj => by
    rw [mlook_mset] at hj
    by_cases hju : j = u
    ·subst hju; rw [hu]; simp
    ·rwa [if_neg hju] at hj
  exact hm.inj j j' z z' bb (ne j h1) (ne j' h2) h3 h4 h5 h6
theorem OpIs.callW {f : FuncId} {callee x y : Operand} {tys : Array TypeId} {i u n : Nat} {e r ya : AV} {es es' : List (List AV)} (hg : o.guard = none) (hop : o.op = .call ⟨.value callee, #[x, y], tys⟩) (hd : dok fr o.dst = true)
  (hcal : od fr st true callee = .fn f []) (hx : od fr st true x = .rf i 0) (hya : od fr st true y = ya) (hi : mlook st.mem i = some (.cells [.tv u n 0 n .unk, e])) (hu : mlook st.mem u = some (.arr 1 es false))
  (hn : n = es.length) (h0 : n ≠ 0) (hl : es'.length = es.length) (hes : es.all AV.norefs = true) (hes' : es'.all AV.norefs = true) (hy : ya.noref = true) (hr : r.noref = true)
  (hrd : opSlots o.op.operands.toList ++ [2 * i + 1, 2 * u + 1] = rd) (hc : WrIs P f n es ya r es') : OpIs P fr ro ds ops id st ⟨o, ⟨r, some (u, .arr 1 es' false)⟩, rd⟩ := by
 intro st' G F a w N K Q1 s hN hG hlk h
 simp only [Region.wanted, hg, if_true]
 have hslot : ∀ x ∈ o.op.operands.toList, opnd fr st' x = opnd fr st x := fun x hx => by
  cases x with
  | tmp t => exact look_slot (hlk _ (by simp only; rw [← hrd]; exact List.mem_append_left _ (opSlots_mem hx)))
  | _ => rfl
 rw [hop] at hslot
 have hod : ∀ z, z ∈ [callee, x, y] → od fr st' true z = od fr st true z := fun z hz => by
  unfold od; rw [hslot z (by simpa [Op.operands, Call.operands] using hz)]
 have hi' : mlook st'.mem i = some (.cells [.tv u n 0 n .unk, e]) := by rw [← hi]; exact look_obj (hlk _ (by simp only; rw [← hrd]; simp))
 have hu' : mlook st'.mem u = some (.arr 1 es false) := by rw [← hu]; exact look_obj (hlk _ (by simp only; rw [← hrd]; simp))
 refine ⟨fun _ _ => trivial, ?_⟩
 rw [Oper.semAt_eq _ _ _ (by rw [hop]; intro c h; cases h)]
 have hv := (s.eval callee).unopt
 have hv : RV G F st'.mem w (a.eval callee) (.fn f []) := by have := hod callee (by simp); unfold od at this hcal; rwa [this, hcal] at hv
 have hvx := (s.eval x).unopt
 have hvx : RV G F st'.mem w (a.eval x) (.rf i 0) := by have := hod x (by simp); unfold od at this hx; rwa [this, hx] at hvx
 have hvy := (s.eval y).unopt
 have hvy : RV G F st'.mem w (a.eval y) ya := by have := hod y (by simp); unfold od at this hya; rwa [this, hya] at hvy
 obtain ⟨vs, hev, hll, _⟩ := hv.inv_fn
 have hvs : vs = [] := by cases vs with
  | nil => rfl
  | cons a l => simp at hll
 subst hvs
 obtain ⟨b, hGb, hex⟩ := hvx.inv_rf
 obtain ⟨hca, hcalls⟩ := simM_wr s.mem hi' hu' hn h0 hl hes hes' hy hr hc hGb (hvy.imm_of hy)
 have hrun : (execOp a.eval o).run P w = .ok (.enter f #[.pointer (some ⟨b, 0, none⟩), a.eval y]) w := by
  obtain ⟨dst, op, ty, pos, after, guard⟩ := o
  simp only at hop
  subst hop
  simp only [execOp, resolve, hev, Deferred.ofValue, Sem.run_bind, Sem.run_pure, Result.andThen_ok, invoke]
  rw [hca]
  congr 2
  apply Array.ext'
  simp [hex]
 rw [hrun]
 refine ⟨fun h => by simp [fc, Fence.wide] at h, callsIn_fc (hcalls.mono ?_)⟩
 rintro ed w' ⟨v, F', rfl, hv, hm', S'⟩
 obtain ⟨s1, S1⟩ := s.put (d := o.dst) (r := ⟨r, some (u, .arr 1 es' false)⟩) (u := v) hm' (fun _ => rfl) S' hd (.imm hv)
 exact h G _ _ w' s1 S1 (fun _ _ h => h)
end
end Go.Avl
namespace Go.Avl
open Go
theorem mlook_append : ∀ (A B : Mem) (i : Nat), mlook (A ++ B) i = match mlook A i with
  | some o => some o
  | none => mlook B i
 | [], B, i => rfl
 | (k, o) :: A, B, i => by
   simp only [List.cons_append, mlook]
   split
   ·rfl
   ·exact mlook_append A B i
def Framed (X : Mem) (r : AV) (M : Mem) (nx : Nat) : Prop :=
 ∃ K : List (Nat × Nat), gcOk 0 nx K = true ∧ renMem M K K = M ∧ r.ren K = r ∧ (K.all fun p => decide (p.1 = p.2) && (mlook X p.1).isNone) = true
section
variable {P : Program} {fr : Fr} {ro : Option Nat} {ds : DS} {st st' : St} {Q Q' : Exit → St → Prop} {G G' Gs : Nat → Option Value} {F F' : Nat → Nat → Prop} {a : Act} {w w' : World} {c : Code}
 {M M0 Ms X : Mem} {ops : Array Oper} {l rest : List Oper} {o : Oper} {id N nx : Nat} {rd : List Nat} {v : Value} {y : AV}
theorem RV.sub (h : RV G F M w v y) (hs : ∀ id o, mlook M0 id = some o → mlook M id = some o) : RV G F M0 w v y := by
 induction h with
 | imm h => exact .imm h
 | ag vs cs hl _ ih => exact .ag vs cs hl ih
 | tu vs cs hl _ ih => exact .tu vs cs hl ih
 | ifc t v x _ ih => exact .ifc t v x ih
 | fn f vs cs hl _ ih => exact .fn f vs cs hl ih
 | opt b v x _ h' ih => exact .opt b v x ih h'
 | rf id off b h => exact .rf id off b h
 | mp id b h => exact .mp id b h
 | tl id len nl v hG h => exact .tl id len nl v hG fun esz es fz hm => h esz es fz (hs _ _ hm)
 | tv id n off len cap v hG h => exact .tv id n off len cap v hG fun esz es fz hm => h esz es fz (hs _ _ hm)
 | ea id n i off v hG h => exact .ea id n i off v hG fun esz es fz hm => h esz es fz (hs _ _ hm)
theorem ObjOk.map_rv {id : Nat} {o : RObj} (h : ObjOk P G F M w id o) (hG : G' id = G id) (hr : ∀ v y, RV G F M w v y → RV G' F M0 w v y) : ObjOk P G' F M0 w id o := by
 cases o with
 | cells cs =>
   obtain ⟨b, c, e, h1, h2, h3, h4, h5⟩ := h
   exact ⟨b, c, e, hG.trans h1, h2, h3, fun i a b => hr _ _ (h4 i a b), h5⟩
 | arr esz es fz =>
   rcases h with ⟨h0, base, h1, hsp⟩ | ⟨b, c, cc, e, h1, h2, h3, h4, h5, h6, h7, h8, h9⟩
   ·exact .inl ⟨h0, base, hG.trans h1, hsp⟩
   ·exact .inr ⟨b, c, cc, e, hG.trans h1, h2, h3, h4, h5, h6, fun i j a b => by
     obtain ⟨v, hv, h1, hr'⟩ := h7 i j a b
     exact ⟨v, hv, h1, hr _ _ hr'⟩, h8, h9⟩
 | map kt es =>
   obtain ⟨b, ents, clock, h1, h2, h3, h4, h5⟩ := h
   exact ⟨b, ents, clock, hG.trans h1, h2, h3, fun i a b => ⟨(h4 i a b).1, hr _ _ (h4 i a b).2.1, (h4 i a b).2.2⟩, h5⟩
theorem SimM.sub (h : SimM P G F M N w) (hs : ∀ id o, mlook M0 id = some o → mlook M id = some o) : SimM P G F M0 N w where
 obj := fun id o ho => ⟨(h.obj id o (hs _ _ ho)).1, (h.obj id o (hs _ _ ho)).2.map_rv rfl fun _ _ hr => hr.sub hs⟩
 inj := fun id id' v v' b h1 h2 => by
  obtain ⟨o, h1⟩ := Option.ne_none_iff_exists'.1 h1
  obtain ⟨o', h2⟩ := Option.ne_none_iff_exists'.1 h2
  exact h.inj id id' v v' b (by rw [hs _ _ h1]; simp) (by rw [hs _ _ h2]; simp)
 inF := h.inF
 gl := h.gl
theorem RV.up (h : RV Gs F Ms w v y) (hs : ∀ j u, Gs j = some u → G j = some u ∧ ∀ o, mlook M j = some o → mlook Ms j = some o) : RV G F M w v y := by
 have hne : ∀ j, Gs j ≠ none → G j ≠ none := fun j hj => by
  obtain ⟨u, hu⟩ := Option.ne_none_iff_exists'.1 hj
  rw [(hs j u hu).1]; simp
 have hl : ∀ j o, Gs j ≠ none → mlook M j = some o → mlook Ms j = some o := fun j o hj ho => by
  obtain ⟨u, hu⟩ := Option.ne_none_iff_exists'.1 hj
  exact (hs j u hu).2 o ho
 induction h with
 | imm h => exact .imm h
 | ag vs cs hl _ ih => exact .ag vs cs hl ih
 | tu vs cs hl _ ih => exact .tu vs cs hl ih
 | ifc t v x _ ih => exact .ifc t v x ih
 | fn f vs cs hl _ ih => exact .fn f vs cs hl ih
 | opt b v x _ h' ih => exact .opt b v x ih h'
 | rf id off b h => exact .rf id off b (hs _ _ h).1
 | mp id b h => exact .mp id b (hs _ _ h).1
 | tl id len nl v hG h =>
   refine .tl id len nl v (hne _ hG) fun esz es fz hm => ?_
   obtain ⟨h1, h2⟩ := h esz es fz (hl _ _ hG hm)
   exact ⟨h1, fun e => ⟨(hs _ _ (h2 e).1).1, (h2 e).2⟩⟩
 | tv id n off len cap v hG h =>
   refine .tv id n off len cap v (hne _ hG) fun esz es fz hm => ?_
   obtain ⟨h1, h2⟩ := h esz es fz (hl _ _ hG hm)
   refine ⟨h1, fun e => ?_⟩
   obtain ⟨h3, b, c, h4, h5⟩ := h2 e
   exact ⟨h3, b, c, (hs _ _ h4).1, h5⟩
 | ea id n i off v hG h =>
   refine .ea id n i off v (hne _ hG) fun esz es fz hm => ?_
   obtain ⟨h1, h2⟩ := h esz es fz (hl _ _ hG hm)
   refine ⟨h1, fun e => ?_⟩
   obtain ⟨h3, b, c, h4, h5⟩ := h2 e
   exact ⟨h3, b, c, (hs _ _ h4).1, h5⟩
theorem simM_frame {M' : Mem} {nx' : Nat} {r : AV} {u : Value} (hm : SimM P G F (M ++ X) nx w) (hX : ∀ p ∈ X, mlook M p.1 = none) (hfr : ∀ j, nx ≤ j → G j = none) (hn : nx ≤ nx')
  (S1 : Step All G F M w G' F' M' w') (hm' : SimM P G' F' M' nx' w') (hfr' : ∀ j, nx' ≤ j → G' j = none) (hr : RV G' F' M' w' u r) (hF : Framed X r M' nx') :
  ∃ G2, SimM P G2 F' (M' ++ X) nx' w' ∧ (∀ j, nx' ≤ j → G2 j = none) ∧ Step All G F (M ++ X) w G2 F' (M' ++ X) w' ∧ RV G2 F' (M' ++ X) w' u r := by
 obtain ⟨K, hk, hMK, hrK, hKX⟩ := hF
 rw [List.all_eq_true] at hKX
 have hX' : ∀ i o, mlook X i = some o → mlook M i = none := fun i o hi => by
  have : ∀ (Y : Mem), mlook Y i = some o → ∃ p ∈ Y, p.1 = i := fun Y => by
   induction Y with
   | nil => intro h; cases h
   | cons p Y ih =>
     intro h
     obtain ⟨k, o'⟩ := p
     simp only [mlook] at h
     split at h
     ·rename_i hik; exact ⟨_, List.mem_cons_self, hik.symm⟩
     ·obtain ⟨p, h1, h2⟩ := ih h
      exact ⟨p, List.mem_cons_of_mem _ h1, h2⟩
  obtain ⟨p, h1, h2⟩ := this X hi
  rw [← h2]; exact hX p h1
 have hsub : ∀ id o, mlook M id = some o → mlook (M ++ X) id = some o := fun id o h => by rw [mlook_append, h]
 have hsubX : ∀ id o, mlook X id = some o → mlook (M ++ X) id = some o := fun id o h => by rw [mlook_append, hX' id o h]; exact h
 have gk : ∀ j u, gcG 0 K G' j = some u → G' j = some u ∧ mlook X j = none ∧ (j, j) ∈ K := fun j u h => by
  unfold gcG at h
  rw [if_neg (by omega)] at h
  cases hb : blook K j with
  | none => rw [hb] at h; cases h
  | some i =>
    rw [hb] at h
    have hmem := blook_mem' hb
    have h1 := hKX _ hmem
    simp only [Bool.and_eq_true, decide_eq_true_eq, Option.isNone_iff_eq_none] at h1
    obtain ⟨rfl, h2⟩ := h1
    exact ⟨h, h2, hmem⟩
 obtain ⟨G2, hG2⟩ : ∃ G2 : Nat → Option Value, G2 = fun j => match mlook X j with
  | some _ => G j
  | none => G' j := ⟨_, rfl⟩
 have g2X : ∀ j o, mlook X j = some o → G2 j = G j := fun j o h => by rw [hG2]; simp only [h]
 have g2N : ∀ j, mlook X j = none → G2 j = G' j := fun j h => by rw [hG2]; simp only [h]
 have M'X : ∀ j o, mlook M' j = some o → mlook X j = none ∧ (j, j) ∈ K := fun j o h => by
  rw [← hMK] at h
  obtain ⟨i, o', h1, h2, h3⟩ := renMem_look hk (fun _ h => h) h
  have h4 := hKX _ h1
  simp only [Bool.and_eq_true, decide_eq_true_eq, Option.isNone_iff_eq_none] at h4
  obtain ⟨rfl, h4⟩ := h4
  exact ⟨h4, h1⟩
 have up : ∀ v y, RV G' F' M' w' v y → y.ren K = y → RV G2 F' (M' ++ X) w' v y := fun v y h hy => by
  have h1 := h.ren hk
  rw [hMK, hy] at h1
  refine h1.up fun j u hj => ?_
  obtain ⟨h2, h3, h4⟩ := gk j u hj
  exact ⟨by rw [g2N j h3]; exact h2, fun o ho => by
   rw [mlook_append] at ho
   cases hM : mlook M' j with
   | some o1 => rw [hM] at ho; exact ho
   | none => rw [hM] at ho; simp only at ho; rw [h3] at ho; cases ho⟩
 have lt : ∀ id, G id ≠ none → id < nx := fun id h => Nat.lt_of_not_le fun hle => h (hfr id hle)
 have ownM : ∀ b, Owned G M b → Owned G (M ++ X) b := fun b ⟨i, o, v, h1, h2, h3⟩ => ⟨i, o, v, hsub i o h1, h2, h3⟩
 have S : Step All G F (M ++ X) w G2 F' (M' ++ X) w' :=
  { kept := S1.kept
    size := S1.size
    out := fun b hb ho => S1.out b hb fun h => ho (ownM b h)
    F1 := S1.F1
    F2 := S1.F2
    F3 := fun b o h => by
     rcases S1.F3 b o h with h | h | h
     ·exact .inl h
     ·exact .inr (.inl h)
     ·exact .inr (.inr (ownM b h))
    own := fun b ⟨j, o, v, h1, h2, h3⟩ => by
     rw [mlook_append] at h1
     cases hM : mlook M' j with
     | some o1 =>
       obtain ⟨k1, k2⟩ := M'X j o1 hM
       rw [g2N j k1] at h2
       rcases S1.own b ⟨j, o1, v, hM, h2, h3⟩ with h | h
       ·exact .inl h
       ·exact .inr (ownM b h)
     | none =>
       rw [hM] at h1
       rw [g2X j o h1] at h2
       exact .inr ⟨j, o, v, hsubX j o h1, h2, h3⟩
    some' := fun id _ h => by
     cases hx : mlook X id with
     | some o => rw [g2X id o hx]; exact h
     | none => rw [g2N id hx]; exact S1.some' id trivial h
    same := fun id v _ h hns => by
     cases hx : mlook X id with
     | some o => rw [g2X id o hx]; exact h
     | none => rw [g2N id hx]; exact S1.same id v trivial h hns
    keep := fun id o' _ hg ho => by
     rw [mlook_append] at ho
     cases hM : mlook M' id with
     | some o1 =>
       rw [hM] at ho; cases ho
       obtain ⟨k1, k2⟩ := M'X id o' hM
       obtain ⟨o, v, v', h1, h2, h3, h4⟩ := S1.keep id o' trivial hg hM
       exact ⟨o, v, v', hsub id o h1, h2, by rw [g2N id k1]; exact h3, h4⟩
     | none =>
       rw [hM] at ho
       obtain ⟨v, hv⟩ := Option.ne_none_iff_exists'.1 hg
       exact ⟨o', v, v, hsubX id o' ho, hv, by rw [g2X id o' ho]; exact hv, objKeep.refl v o'⟩ }
 refine ⟨G2, simM_gen (hm.more hn) S (fun j o' ho => ?_) (fun j j' z z' b h1 h2 h3 h4 h5 h6 => ?_) hm'.inF, fun j hj => ?_, S, up _ _ hr hrK⟩
 ·rw [mlook_append] at ho
  cases hM : mlook M' j with
  | some o1 =>
    rw [hM] at ho; cases ho
    obtain ⟨k1, k2⟩ := M'X j o' hM
    obtain ⟨h1, h2⟩ := hm'.obj j o' hM
    refine ⟨h1, .inl ?_⟩
    have h3 : ObjOk P (gcG 0 K G') F' (renMem M' K K) w' j (o'.ren K) := h2.ren hk k2
    have e : o'.ren K = o' := by
     have h4 : mlook (renMem M' K K) j = some o' := by rw [hMK]; exact hM
     obtain ⟨i, o2, h5, h6, h7⟩ := renMem_look hk (fun _ h => h) h4
     have h8 := hKX _ h5
     simp only [Bool.and_eq_true, decide_eq_true_eq] at h8
     obtain ⟨rfl, _⟩ := h8
     rw [hM] at h6; cases h6
     exact h7.symm
    rw [e, hMK] at h3
    refine h3.map_rv ?_ fun v y h => h.up fun i u hi => ?_
    ·rw [g2N j k1, gcG_ren hk k2]
    ·obtain ⟨q1, q2, q3⟩ := gk i u hi
     exact ⟨by rw [g2N i q2]; exact q1, fun o ho => by
      rw [mlook_append] at ho
      cases hM2 : mlook M' i with
      | some o1 => rw [hM2] at ho; exact ho
      | none => rw [hM2] at ho; simp only at ho; rw [q2] at ho; cases ho⟩
  | none =>
    rw [hM] at ho
    have hb := hsubX j o' ho
    have hj := lt j (hm.hasG hb)
    refine ⟨by omega, .inr ⟨hb, g2X j o' ho, fun b v hv hbv => ?_⟩⟩
    have hlt := hm.lt ⟨j, o', v, hb, hv, hbv⟩
    have hno : ¬ Owned G M b := fun ⟨i, o, v', h1, h2, h3⟩ => by
     have := hm.inj j i v v' b (by rw [hb]; simp) (by rw [hsub i o h1]; simp) hv h2 hbv h3
     subst this
     rw [hX' j o' ho] at h1; cases h1
    refine ⟨S1.out b hlt hno, fun o hF => ?_⟩
    rcases S1.F3 b o hF with h | h | h
    ·exact h
    ·omega
    ·exact absurd h hno
 ·have key : ∀ j z b, mlook (M' ++ X) j ≠ none → G2 j = some z → blkOf z = some b → (mlook X j = none ∧ mlook M' j ≠ none ∧ G' j = some z ∧ (w.heap.size ≤ b ∨ Owned G M b)) ∨ (mlook X j ≠ none ∧ G j = some z ∧ b < w.heap.size ∧ ¬ Owned G M b) := fun j z b h1 h2 h3 => by
    rw [mlook_append] at h1
    cases hM : mlook M' j with
    | some o1 =>
      obtain ⟨k1, k2⟩ := M'X j o1 hM
      rw [g2N j k1] at h2
      exact .inl ⟨k1, by simp, h2, S1.own b ⟨j, o1, z, hM, h2, h3⟩⟩
    | none =>
      rw [hM] at h1
      obtain ⟨o, ho⟩ := Option.ne_none_iff_exists'.1 h1
      rw [g2X j o ho] at h2
      have hb := hsubX j o ho
      refine .inr ⟨by simpa using h1, h2, hm.lt ⟨j, o, z, hb, h2, h3⟩, fun ⟨i, o1, v', q1, q2, q3⟩ => ?_⟩
      have := hm.inj j i z v' b (by rw [hb]; simp) (by rw [hsub i o1 q1]; simp) h2 q2 h3 q3
      subst this
      rw [hX' j o ho] at q1; cases q1
  rcases key j z b h1 h3 h5 with ⟨a1, a2, a3, a4⟩ | ⟨a1, a2, a3, a4⟩ <;> rcases key j' z' b h2 h4 h6 with ⟨b1, b2, b3, b4⟩ | ⟨b1, b2, b3, b4⟩
  ·exact hm'.inj j j' z z' b a2 b2 a3 b3 h5 h6
  ·rcases a4 with a4 | a4
   ·omega
   ·exact absurd a4 b4
  ·rcases b4 with b4 | b4
   ·omega
   ·exact absurd b4 a4
  ·obtain ⟨o, ho⟩ := Option.ne_none_iff_exists'.1 a1
   obtain ⟨o', ho'⟩ := Option.ne_none_iff_exists'.1 b1
   exact hm.inj j j' z z' b (by rw [hsubX j o ho]; simp) (by rw [hsubX j' o' ho']; simp) a2 b2 h5 h6
 ·cases hx : mlook X j with
  | some o => rw [g2X j o hx]; exact hfr j (by omega)
  | none => rw [g2N j hx]; exact hfr' j hj
def bodyArgsS (fr : Fr) (st : St) (args : Array Operand) : List AV := args.toList.map fun x => snap st.mem (od fr st true x)
theorem XR.callF {f : FuncId} {cs : List AV} {callee : Operand} {args : Array Operand} {tys : Array TypeId} {xs : List AV} (M X : Mem) (hg : o.guard = none) (hop : o.op = .call ⟨.value callee, args, tys⟩) (hd : dok fr o.dst = true)
  (hcal : od fr st true callee = .fn f cs) (hxs : bodyArgsS fr st args ++ cs = xs) (hM : st.mem = M ++ X) (hX : (X.all fun p => (mlook M p.1).isNone) = true)
  (hb : BodyIs P f xs M st.nx fun r M' nx' => st.nx ≤ nx' ∧ Framed X r M' nx' ∧ XR P fr ro ds ops rest ((⟨st.vars, st.tmps, M' ++ X, nx'⟩ : St).put fr o.dst r) Q) : XR P fr ro ds ops (o :: rest) st Q :=
 fun _ _ _ _ G F a w S s => wpListIn_plain hg fun K hK => by
  have hX' : ∀ p ∈ X, mlook M p.1 = none := fun p hp => by
   rw [List.all_eq_true] at hX
   exact Option.isNone_iff_eq_none.1 (hX p hp)
  have hsub : ∀ id o, mlook M id = some o → mlook st.mem id = some o := fun id o h => by rw [hM, mlook_append, h]
  refine ⟨fun _ _ => trivial, ?_⟩
  rw [Oper.semAt_eq _ _ _ (by rw [hop]; intro c h; cases h)]
  have hv := (s.eval callee).unopt
  have hv : RV G F st.mem w (a.eval callee) (.fn f cs) := by unfold od at hcal; rwa [hcal] at hv
  obtain ⟨vs, hev, hl, hcs⟩ := hv.inv_fn
  obtain ⟨hca, hcalls⟩ := hb.calls
  have hrun : (execOp a.eval o).run P w = .ok (.enter f ((args.toList.map a.eval ++ vs).toArray)) w := by
   obtain ⟨dst, op, ty, pos, after, guard⟩ := o
   simp only at hop
   subst hop
   simp only [execOp, resolve, hev, Deferred.ofValue, Sem.run_bind, Sem.run_pure, Result.andThen_ok, invoke]
   rw [hca]
   congr 2
   apply Array.ext'
   simp
  rw [hrun]
  have hi : (args.toList.map a.eval ++ vs).length = xs.length ∧ ∀ i (h1 : i < (args.toList.map a.eval ++ vs).length) (h2 : i < xs.length), RV G F M w (args.toList.map a.eval ++ vs)[i] xs[i] := by
   subst hxs
   refine ⟨by simp [bodyArgsS, hl], fun i h1 h2 => RV.sub ?_ hsub⟩
   by_cases hlt : i < args.toList.length
   ·rw [List.getElem_append_left (by simpa using hlt), List.getElem_append_left (by simpa [bodyArgsS] using hlt)]
    simp only [bodyArgsS, List.getElem_map]
    exact ((s.eval _).unopt).snap s.sim.mem
   ·rw [List.getElem_append_right (by simpa using hlt), List.getElem_append_right (by simpa [bodyArgsS] using hlt)]
    simp only [List.length_map, bodyArgsS]
    exact hcs _ _ _
  refine ⟨fun h => by simp [fc, Fence.wide] at h, callsIn_fc ((hcalls G F w _ (s.sim.mem.sub hsub) s.fresh hi).mono ?_)⟩
  rintro e w2 ⟨u, G', F', r, M', nx', rfl, ⟨hn, hF, hR⟩, hru, hm', hfr', S1⟩
  have hm0 : SimM P G F (M ++ X) st.nx w := by rw [← hM]; exact s.sim.mem
  obtain ⟨G2, hm2, hf2, S2, hr2⟩ := simM_frame hm0 hX' s.fresh hn S1 hm' hfr' hru hF
  have S2' : Step All G F st.mem w G2 F' (M' ++ X) w2 := by rw [hM]; exact S2
  exact hK _ _ (hR _ _ _ _ _ _ _ _ (S.trans (by rw [St.put_mem]; exact S2'.mono fun _ _ => trivial)) (s.step_put (st1 := ⟨st.vars, st.tmps, M' ++ X, nx'⟩) S2' hm2 rfl rfl hf2 (dok_spec hd) hr2))
end
attribute [go_sem] bodyArgsS
end Go.Avl
namespace Go.Avl
open Go
def unkOf (M : Mem) : AV → AV
 | .tv i n off len c => if n ≠ 0 then .tv i n off len .unk else .tv i n off len c
 | .tl j n b => if n ≠ 0 then match mlook M j with
   | some (.arr _ es _) => if n = es.length then .tv j n 0 n .unk else .tl j n b
   | _ => .tl j n b else .tl j n b
 | v => v
def St.unkC (st : St) : St := ⟨st.vars, st.tmps, memMap (unkOf st.mem) st.mem, st.nx⟩
section
variable {P : Program} {fr : Fr} {ro : Option Nat} {ds : DS} {st st' : St} {Q Q' : Exit → St → Prop} {G G' : Nat → Option Value} {F F' : Nat → Nat → Prop} {a : Act} {w w' : World} {c : Code}
theorem RV.tvUnk {M : Mem} {v : Value} {i n off len : Nat} {cap : Cp} (h : RV G F M w v (.tv i n off len cap)) (h0 : n ≠ 0) : RV G F M w v (.tv i n off len .unk) := by
 obtain ⟨hG, hh⟩ := h.inv_tv
 refine .tv i n off len .unk v hG fun esz es fz ho => ?_
 obtain ⟨h1, h2⟩ := hh _ _ _ ho
 refine ⟨h1, fun e => ?_⟩
 obtain ⟨h3, b, c, h4, h5, c', h6, h7, _⟩ := h2 e
 refine ⟨h3, b, c, h4, ?_, c', h6, h7, .inl rfl⟩
 rcases h5 with h5 | ⟨k1, k2, k3⟩
 ·exact .inl h5
 ·exact absurd k1 h0
theorem unkOf_rv {M : Mem} {nx : Nat} (hm : SimM P G F M nx w) {v : Value} {y : AV} (h : RV G F M w v y) : RV G F M w v (unkOf M y) := by
 unfold unkOf
 split
 ·split
  ·rename_i h0
   exact h.tvUnk h0
  ·exact h
 ·rename_i j n b
  split
  ·rename_i h0
   split
   ·rename_i esz es fz ho
    split
    ·rename_i hn
     exact (h.tl_tv hm ho hn h0).tvUnk h0
    ·exact h
   ·exact h
  ·exact h
 ·exact h
theorem EvC.unkC (hc : EvC P fr ro ds c st.unkC Q) : EvC P fr ro ds c st Q :=
 EvC.conv (fun _ F _ _ s => let ⟨s', S'⟩ := s.memMap (f := unkOf st.mem) fun _ _ h => unkOf_rv s.sim.mem h; ⟨_, F, s', S'⟩) hc
end
attribute [go_sem] St.unkC unkOf
end Go.Avl
namespace Go.Avl
open Go
def notO (k : Nat) : Bool := decide (k < 2000000) || decide (3000000 ≤ k)
theorem notO_ne {k s : Nat} (hk : notO k = true) (hs : s < 1000000) : k ≠ 2000000 + s := by
 unfold notO at hk; simp at hk; omega
theorem o_ne {s : Nat} (hs : s < 1000000) (k : Nat) (hk : notO k = true) : (2000000 + s = k) = False := eq_false (fun h => notO_ne hk hs h.symm)
def oK (n : Nat) : List (Nat × Nat) := (List.range n).map fun i => (2000000 + i, 2000000 + i)
def osegK (A : List (Nat × Nat)) (n : Nat) (B : List (Nat × Nat)) : List (Nat × Nat) := A ++ (oK n ++ B)
theorem oK_succ (n : Nat) : oK (n + 1) = oK n ++ [(2000000 + n, 2000000 + n)] := by simp [oK, List.range_succ]
theorem mem_oK {n : Nat} {p : Nat × Nat} (h : p ∈ oK n) : ∃ i, i < n ∧ p = (2000000 + i, 2000000 + i) := by
 obtain ⟨i, h1, rfl⟩ := List.mem_map.1 h
 exact ⟨i, List.mem_range.1 h1, rfl⟩
theorem rlook_oK (n k : Nat) : rlook (oK n) k = if 2000000 ≤ k ∧ k < 2000000 + n then some k else none := by
 induction n with
 | zero => simp [oK, rlook]
 | succ n ih =>
   rw [oK_succ, rlook_append, ih]
   by_cases h : 2000000 ≤ k ∧ k < 2000000 + n
   ·rw [if_pos h, if_pos (by omega)]; rfl
   ·rw [if_neg h]
    by_cases h2 : k = 2000000 + n
    ·subst h2; simp [rlook]
    ·rw [if_neg (by omega)]; simp [rlook, h2]
theorem blook_oK (n k : Nat) : blook (oK n) k = if 2000000 ≤ k ∧ k < 2000000 + n then some k else none := by
 induction n with
 | zero => simp [oK, blook]
 | succ n ih =>
   rw [oK_succ, blook_append, ih]
   by_cases h : 2000000 ≤ k ∧ k < 2000000 + n
   ·rw [if_pos h, if_pos (by omega)]; rfl
   ·rw [if_neg h]
    by_cases h2 : k = 2000000 + n
    ·subst h2; simp [blook]
    ·rw [if_neg (by omega)]; simp [blook, h2]
theorem rlook_osegK_hi {n : Nat} (hn : n ≤ 1000000) (A B : List (Nat × Nat)) (k : Nat) (hk : notO k = true) : rlook (osegK A n B) k = rlook (A ++ B) k := by
 rw [osegK, rlook_append, rlook_append, rlook_append, rlook_oK, if_neg (by unfold notO at hk; simp at hk; omega)]; simp
theorem rlook_notO : ∀ {A : List (Nat × Nat)} {s : Nat}, s < 1000000 → (A.all fun p => notO p.1) = true → rlook A (2000000 + s) = none
 | [], _, _, _ => rfl
 | (i, j) :: A, s, hs, h => by
   simp only [List.all_cons, Bool.and_eq_true] at h
   simp only [rlook]
   rw [if_neg (fun e => notO_ne h.1 hs e.symm)]
   exact rlook_notO hs h.2
theorem rlook_osegK_lo {n s : Nat} (hs : s < n) (hn : n ≤ 1000000) {A B : List (Nat × Nat)} (hA : (A.all fun p => notO p.1) = true) : rlook (osegK A n B) (2000000 + s) = some (2000000 + s) := by
 rw [osegK, rlook_append, rlook_append, rlook_oK, if_pos (by omega), rlook_notO (by omega) hA]; rfl
theorem mset_msegO {l : List RObj} {b i : Nat} (o : RObj) (h : i < l.length) : mset (msegA b l) (b + i) o = msegA b (l.set i o) := by
 rw [mset_msegA l b (b + i) o (by omega) (by omega), Nat.add_sub_cancel_left]
theorem mlook_msegO (l : List RObj) (b i : Nat) : mlook (msegA b l) (b + i) = l[i]? := by rw [mlook_msegA, if_pos (by omega), Nat.add_sub_cancel_left]
theorem renMem_oK_congr {M M' : Mem} {n : Nat} (hn : n ≤ 1000000) (K : List (Nat × Nat)) (h : ∀ i, i < n → mlook M (2000000 + i) = mlook M' (2000000 + i)) : renMem M K (oK n) = renMem M' K (oK n) :=
 renMem_congr K fun p hp => by obtain ⟨i, h1, rfl⟩ := mem_oK hp; exact h i h1
theorem renMem_oK_cons {n : Nat} (hn : n ≤ 1000000) (k : Nat) (hk : notO k = true) (o : RObj) (M : Mem) (K : List (Nat × Nat)) : renMem ((k, o) :: M) K (oK n) = renMem M K (oK n) :=
 renMem_oK_congr hn K fun i hi => by simp only [mlook]; rw [if_neg (fun e => notO_ne hk (by omega) e.symm)]
theorem renMem_oK_mset {n : Nat} (hn : n ≤ 1000000) (k : Nat) (hk : notO k = true) (o : RObj) (M : Mem) (K : List (Nat × Nat)) : renMem (mset M k o) K (oK n) = renMem M K (oK n) :=
 renMem_oK_congr hn K fun i hi => by rw [mlook_mset, if_neg (fun e => notO_ne hk (by omega) e.symm)]
theorem renMem_osegK (M : Mem) (A B : List (Nat × Nat)) (n : Nat) : renMem M (osegK A n B) (osegK A n B) = renMem M (osegK A n B) A ++ (renMem M (osegK A n B) (oK n) ++ renMem M (osegK A n B) B) := by
 conv => lhs; arg 3; rw [osegK]
 rw [renMem_append, renMem_append]
theorem renMem_oK (K : List (Nat × Nat)) (l : List RObj) (X : Mem) : ∀ n, n ≤ l.length → renMem (msegA 2000000 l ++ X) K (oK n) = msegA 2000000 ((l.take n).map (RObj.ren K))
 | 0, _ => rfl
 | n + 1, h => by
   have hl : mlook (msegA 2000000 l ++ X) (2000000 + n) = some (l[n]'(by omega)) := by rw [mlook_append, mlook_msegO, List.getElem?_eq_getElem (by omega)]
   rw [oK_succ, renMem_append, renMem_oK K l X n (by omega), List.take_add_one, List.getElem?_eq_getElem (by omega), List.map_append, Option.toList_some, List.map_singleton, msegA_append]
   congr 1
   simp only [renMem, hl, msegA]
   congr 2
   simp; omega
theorem osegK_ok {base nx n : Nat} {A : List (Nat × Nat)} (hA : gcOk base nx A = true) (h1 : (A.all fun p => notO p.1) = true) (h2 : (A.all fun p => notO p.2) = true) (hn : n ≤ 1000000) (hx : 3000000 ≤ nx) : gcOk base nx (osegK A n []) = true := by
 have hb := gcOk_base hA
 have key : ∀ n, n ≤ 1000000 → gcOk base nx (oK n) = true := by
  intro n
  induction n with
  | zero => intro _; simp [oK, gcOk, hb]
  | succ n ih =>
    intro hn
    rw [oK_succ]
    refine gcOk_append (ih (by omega)) ?_ fun p hp => ?_
    ·simp [gcOk, blook, rlook, hb]; omega
    ·obtain ⟨i, hi, rfl⟩ := mem_oK hp
     have hne : ¬ 2000000 + i = 2000000 + n := by omega
     simp only [blook, rlook, if_neg hne]
     exact ⟨trivial, trivial⟩
 rw [osegK, List.append_nil]
 refine gcOk_append hA (key n hn) fun p hp => ?_
 rw [List.all_eq_true] at h1 h2
 have a1 := h1 p hp
 have a2 := h2 p hp
 unfold notO at a1 a2
 simp at a1 a2
 rw [blook_oK, rlook_oK, if_neg (by omega), if_neg (by omega)]; exact ⟨rfl, rfl⟩
theorem osegK_ok1 {base nx n k : Nat} {A : List (Nat × Nat)} (hA : gcOk base nx A = true) (h1 : (A.all fun p => notO p.1) = true) (h2 : (A.all fun p => notO p.2) = true) (hk : notO k = true) (hkA : rlook A k = none) (hkb : base ≤ k) (hb2 : base ≤ 2000000) (hn : n < 1000000) (hx : 3000000 ≤ nx) : gcOk base nx (osegK A n [(k, 2000000 + n)]) = true := by
 have h0 := osegK_ok hA h1 h2 (Nat.le_of_lt hn) hx
 have hb := gcOk_base hA
 have e : osegK A n [(k, 2000000 + n)] = osegK A n [] ++ [(k, 2000000 + n)] := by simp [osegK]
 rw [e]
 refine gcOk_append h0 ?_ fun p hp => ?_
 ·simp [gcOk, blook, rlook, hb, hkb]; omega
 ·have hb : p.2 ≠ 2000000 + n ∧ p.1 ≠ k := by
    rw [osegK, List.append_nil] at hp
    rcases List.mem_append.1 hp with hp | hp
    ·rw [List.all_eq_true] at h2
     refine ⟨notO_ne (h2 p hp) hn, fun hk2 => ?_⟩
     have := rlook_ne (show (p.1, p.2) ∈ A from hp)
     rw [hk2] at this; exact this hkA
    ·obtain ⟨i, hi, rfl⟩ := mem_oK hp
     exact ⟨by simp only; omega, fun e => notO_ne hk (show i < 1000000 by omega) e.symm⟩
  simp only [blook, rlook]
  rw [if_neg hb.1, if_neg hb.2]; exact ⟨rfl, rfl⟩
theorem osegK_okB {base nx n : Nat} {A B : List (Nat × Nat)} (hA : gcOk base nx A = true) (hB : gcOk base nx B = true) (h1 : (A.all fun p => notO p.1) = true) (h2 : (A.all fun p => notO p.2) = true) (h3 : (B.all fun p => notO p.1) = true) (h4 : (B.all fun p => notO p.2) = true)
  (hAB : (A.all fun p => (blook B p.2).isNone && (rlook B p.1).isNone) = true) (hn : n ≤ 1000000) (hx : 3000000 ≤ nx) : gcOk base nx (osegK A n B) = true := by
 have e : osegK A n B = osegK A n [] ++ B := by simp [osegK]
 have key : ∀ (B : List (Nat × Nat)) (i : Nat), i < 1000000 → (B.all fun p => notO p.1) = true → (B.all fun p => notO p.2) = true → blook B (2000000 + i) = none ∧ rlook B (2000000 + i) = none := by
  intro B i hi
  induction B with
  | nil => intro _ _; exact ⟨rfl, rfl⟩
  | cons q B ih =>
    obtain ⟨x, y⟩ := q
    intro h3 h4
    simp only [List.all_cons, Bool.and_eq_true] at h3 h4
    obtain ⟨k1, k2⟩ := ih h3.2 h4.2
    simp only [blook, rlook]
    rw [if_neg (fun e => notO_ne h4.1 hi e.symm), if_neg (fun e => notO_ne h3.1 hi e.symm)]
    exact ⟨k1, k2⟩
 rw [e]
 refine gcOk_append (osegK_ok hA h1 h2 hn hx) hB fun p hp => ?_
 rw [osegK, List.append_nil] at hp
 rcases List.mem_append.1 hp with hp | hp
 ·rw [List.all_eq_true] at hAB
  have := hAB p hp
  simp only [Bool.and_eq_true, Option.isNone_iff_eq_none] at this
  exact this
 ·obtain ⟨i, hi, rfl⟩ := mem_oK hp
  exact key B i (by omega) h3 h4
section
variable {α : Type}
def otab (e : Nat) (C : α → List AV) (W : Nat → Nat → α) (n m : Nat) : Mem := msegA 2000000 ((List.range n).map (grow e C W m))
theorem otab_zero (e : Nat) (C : α → List AV) (W : Nat → Nat → α) (m : Nat) : otab e C W 0 m = [] := rfl
theorem otab_look (e : Nat) (C : α → List AV) (W : Nat → Nat → α) {n m s : Nat} (h : s < n) : mlook (otab e C W n m) (2000000 + s) = some (.arr e (gcells C (W s) m) false) := by
 rw [otab, mlook_msegO, List.getElem?_map, List.getElem?_range h]; rfl
theorem otab_set (e : Nat) (C : α → List AV) (W : Nat → Nat → α) {n m s t : Nat} (x : α) (hs : s < n) (ht : t < m) : mset (otab e C W n m) (2000000 + s) (.arr e ((gcells C (W s) m).set t (C x)) false) = otab e C (upd2 W s t x) n m := by
 rw [otab, mset_msegO _ (by simpa using hs), range_set _ _ hs, gcells_set C _ x ht, otab]
 congr 1
 refine List.map_congr_left fun i _ => ?_
 by_cases e2 : i = s
 ·subst e2; rw [if_pos rfl, grow]
  congr 1
  refine gcells_congr C fun k _ => ?_
  simp [upd1, upd2]
 ·rw [if_neg e2, grow, grow]
  congr 1
  refine gcells_congr C fun k _ => ?_
  simp [upd2, e2]
theorem otab_renX (e : Nat) {C : α → List AV} (hC : ∀ x, AV.norefs (C x) = true) (W : Nat → Nat → α) (n m : Nat) (K : List (Nat × Nat)) (X : Mem) : renMem (otab e C W n m ++ X) K (oK n) = otab e C W n m := by
 rw [otab, renMem_oK K _ X n (by simp), List.take_of_length_le (by simp), List.map_map]
 congr 1
 refine List.map_congr_left fun s _ => ?_
 simp only [Function.comp, grow, RObj.ren, gcells_norefs hC, if_true]
theorem otab_ren (e : Nat) {C : α → List AV} (hC : ∀ x, AV.norefs (C x) = true) (W : Nat → Nat → α) (n m : Nat) (K : List (Nat × Nat)) : renMem (otab e C W n m) K (oK n) = otab e C W n m := by
 have := otab_renX e hC W n m K []
 rwa [List.append_nil] at this
theorem otab_snoc (e : Nat) (C : α → List AV) (W : Nat → Nat → α) (n m : Nat) : otab e C W n m ++ [(2000000 + n, .arr e (gcells C (W n) m) false)] = otab e C W (n + 1) m := by
 rw [otab, otab, List.range_succ, List.map_append, msegA_append]
 simp [msegA, grow]
theorem memMap_msegA (f : AV → AV) : ∀ (l : List RObj) (b : Nat), memMap f (msegA b l) = msegA b (l.map (RObj.snapC f))
 | [], _ => rfl
 | o :: l, b => by simp only [msegA, memMap, List.map_cons, memMap_msegA f l]
theorem memMap_otab (f : AV → AV) (e : Nat) (C : α → List AV) (W : Nat → Nat → α) (n m : Nat) : memMap f (otab e C W n m) = otab e C W n m := by
 rw [otab, memMap_msegA, List.map_map]; rfl
theorem mdel_msegA : ∀ (l : List RObj) (b k : Nat), (k < b ∨ b + l.length ≤ k) → mdel (msegA b l) k = msegA b l
 | [], b, k, _ => rfl
 | o :: l, b, k, h => by
   simp only [List.length_cons] at h
   simp only [msegA, mdel]
   rw [if_neg (by omega), mdel_msegA l (b + 1) k (by omega)]
theorem mdel_otab (e : Nat) (C : α → List AV) (W : Nat → Nat → α) {n m : Nat} (hn : n ≤ 1000000) (k : Nat) (hk : notO k = true) : mdel (otab e C W n m) k = otab e C W n m := mdel_msegA _ _ _ (by unfold notO at hk; simp at hk; simp; omega)
theorem memMap_append (f : AV → AV) : ∀ (A B : Mem), memMap f (A ++ B) = memMap f A ++ memMap f B
 | [], _ => rfl
 | (i, o) :: A, B => by simp only [List.cons_append, memMap, memMap_append f A B]
theorem mset_app_in {A : Mem} {i : Nat} (o : RObj) (B : Mem) (h : (mlook A i).isSome = true) : mset (A ++ B) i o = mset A i o ++ B := by
 induction A with
 | nil => simp [mlook] at h
 | cons p A ih =>
   obtain ⟨k, u⟩ := p
   simp only [List.cons_append, mset]
   by_cases e : i = k
   ·rw [if_pos e, if_pos e]; rfl
   ·rw [if_neg e, if_neg e, List.cons_append, ih (by simpa [mlook, e] using h)]
theorem mset_app_out {A : Mem} {i : Nat} (o : RObj) (B : Mem) (h : mlook A i = none) : mset (A ++ B) i o = A ++ mset B i o := by
 induction A with
 | nil => rfl
 | cons p A ih =>
   obtain ⟨k, u⟩ := p
   simp only [mlook] at h
   split at h
   ·cases h
   ·rename_i e
    simp only [List.cons_append, mset, if_neg e, ih h]
theorem otab_none (e : Nat) (C : α → List AV) (W : Nat → Nat → α) {n m : Nat} (hn : n ≤ 1000000) (k : Nat) (hk : notO k = true) : mlook (otab e C W n m) k = none := by
 rw [otab, mlook_msegA]
 split
 ·rw [List.getElem?_eq_none]
  unfold notO at hk; simp at hk; simp; omega
 ·rfl
theorem otab_lookX (e : Nat) (C : α → List AV) (W : Nat → Nat → α) {n m : Nat} (hn : n ≤ 1000000) (X : Mem) (k : Nat) (hk : notO k = true) : mlook (otab e C W n m ++ X) k = mlook X k := by
 rw [mlook_append, otab_none e C W hn k hk]
theorem otab_getX (e : Nat) (C : α → List AV) (W : Nat → Nat → α) {n m s : Nat} (X : Mem) (h : s < n) : mlook (otab e C W n m ++ X) (2000000 + s) = some (.arr e (gcells C (W s) m) false) := by
 rw [mlook_append, otab_look e C W h]
theorem otab_msetX (e : Nat) (C : α → List AV) (W : Nat → Nat → α) {n m : Nat} (hn : n ≤ 1000000) (X : Mem) (o : RObj) (k : Nat) (hk : notO k = true) : mset (otab e C W n m ++ X) k o = otab e C W n m ++ mset X k o := mset_app_out o X (otab_none e C W hn k hk)
def otabF (e : Nat) (C : α → List AV) (W : Nat → Nat → α) (n m : Nat) : Mem := msegA 2000000 ((List.range n).map fun s => (grow e C W m s).fzn)
theorem otabF_look (e : Nat) (C : α → List AV) (W : Nat → Nat → α) {n m s : Nat} (h : s < n) : mlook (otabF e C W n m) (2000000 + s) = some (.arr e (gcells C (W s) m) true) := by
 rw [otabF, mlook_msegO, List.getElem?_map, List.getElem?_range h]; rfl
end
def ocell (m n : Nat) : List (List AV) := (List.range n).map fun s => [.tl (2000000 + s) m false]
theorem ocell_len (m n : Nat) : (ocell m n).length = n := by simp [ocell]
theorem ocell_get {m n s : Nat} (h : s < n) : (ocell m n)[s]? = some [.tl (2000000 + s) m false] := by rw [ocell, List.getElem?_map, List.getElem?_range h]; rfl
theorem ocell_succ (m n : Nat) : ocell m n ++ [[.tl (2000000 + n) m false]] = ocell m (n + 1) := by simp [ocell, List.range_succ]
theorem ocell_ren {m n : Nat} {K : List (Nat × Nat)} (h : ∀ s, s < n → rlook K (2000000 + s) = some (2000000 + s)) : (ocell m n).map (fun c => c.map (AV.ren K)) = ocell m n := by
 rw [ocell, List.map_map]
 refine List.map_congr_left fun s hs => ?_
 simp only [Function.comp, List.map_cons, List.map_nil, AV.ren, AV.noref, Bool.false_eq_true, if_false, AV.deep, renLeaf, h s (List.mem_range.1 hs)]
theorem ocell_snap {m n e : Nat} {M : Mem} {row : Nat → List (List AV)} (h : ∀ s, s < n → mlook M (2000000 + s) = some (.arr e (row s) true)) (hl : ∀ s, s < n → (row s).length = m) : (ocell m n).map (fun c => c.map (AV.deep (snap M))) = (List.range n).map fun s => [.sl false (row s) .unk] := by
 rw [ocell, List.map_map]
 refine List.map_congr_left fun s hs => ?_
 have hs := List.mem_range.1 hs
 simp only [Function.comp, List.map_cons, List.map_nil, AV.deep, snap, h s hs, hl s hs, if_true]
def opart (m n s : Nat) : List (List AV) := ocell m s ++ List.replicate (n - s) [.sl true [] .zer]
theorem opart_len {m n s : Nat} (h : s ≤ n) : (opart m n s).length = n := by simp [opart, ocell_len]; omega
theorem opart_zero (m n : Nat) : opart m n 0 = List.replicate n [.sl true [] .zer] := by simp [opart, ocell]
theorem opart_all (m n : Nat) : opart m n n = ocell m n := by simp [opart]
theorem opart_get {m n s : Nat} (h : s < n) : (opart m n s)[s]? = some [.sl true [] .zer] := by
 rw [opart, List.getElem?_append_right (by rw [ocell_len]; omega), ocell_len, Nat.sub_self, List.getElem?_replicate, if_pos (by omega)]
theorem opart_ren {m n s k : Nat} {K : List (Nat × Nat)} (h : s < n) (hk : rlook K k = some (2000000 + s)) (hK : ∀ j, j < s → rlook K (2000000 + j) = some (2000000 + j)) : ((opart m n s).set s [.tl k m false]).map (fun c => c.map (AV.ren K)) = opart m n (s + 1) := by
 obtain ⟨d, hd⟩ : ∃ d, n - s = d + 1 := ⟨n - s - 1, by omega⟩
 have hd' : n - (s + 1) = d := by omega
 rw [opart, List.set_append_right _ _ (by rw [ocell_len]; omega), ocell_len, Nat.sub_self, hd, List.replicate_succ, List.set_cons_zero, List.map_append, ocell_ren hK, List.map_cons, opart, hd', ← ocell_succ, List.append_assoc]
 congr 1
 simp [AV.ren, AV.noref, AV.deep, renLeaf, hk]
theorem opart_norefs {m n s k : Nat} (h : s < n) : ((opart m n s).set s [.tl k m false]).all AV.norefs = false := by
 rw [List.all_eq_false]
 refine ⟨[.tl k m false], ?_, by simp [AV.norefs, AV.noref]⟩
 rw [List.mem_iff_getElem]
 exact ⟨s, by rw [List.length_set, opart_len (Nat.le_of_lt h)]; exact h, by simp⟩
def ofzAll : Nat → Mem → Mem
 | 0, M => M
 | n + 1, M => match mlook (ofzAll n M) (2000000 + n) with
   | some o => mset (ofzAll n M) (2000000 + n) o.fzn
   | none => ofzAll n M
section
variable {P : Program} {fr : Fr} {ro : Option Nat} {ds : DS} {st st' : St} {Q Q' : Exit → St → Prop} {G G' : Nat → Option Value} {F F' : Nat → Nat → Prop} {a : Act} {w w' : World} {x y c : Code} {M : Mem}
theorem mlook_ofz_above (M : Mem) : ∀ (n k : Nat), n ≤ k → mlook (ofzAll n M) (2000000 + k) = mlook M (2000000 + k)
 | 0, _, _ => rfl
 | n + 1, k, hk => by
   simp only [ofzAll]
   split
   ·rw [mlook_mset, if_neg (by omega)]; exact mlook_ofz_above M n k (by omega)
   ·exact mlook_ofz_above M n k (by omega)
theorem ofzAll_cons {n : Nat} (hn : n ≤ 1000000) (k : Nat) (hk : notO k = true) (o : RObj) (M : Mem) : ofzAll n ((k, o) :: M) = (k, o) :: ofzAll n M := by
 induction n with
 | zero => rfl
 | succ n ih =>
   have hne : ¬ 2000000 + n = k := fun e => notO_ne hk (by omega) e.symm
   simp only [ofzAll, ih (by omega), mlook, if_neg hne]
   split
   ·simp only [mset, if_neg hne]
   ·rfl
theorem ofzAll_seg (l : List RObj) (X : Mem) : ∀ n, n ≤ l.length → ofzAll n (msegA 2000000 l ++ X) = msegA 2000000 ((l.take n).map RObj.fzn ++ l.drop n) ++ X
 | 0, _ => by simp [ofzAll]
 | n + 1, h => by
   have hd : l.drop n = l[n] :: l.drop (n + 1) := List.drop_eq_getElem_cons (by omega)
   have hl : ((l.take n).map RObj.fzn).length = n := by simp; omega
   have hset : ∀ (A : List RObj) (o : RObj), n < A.length → mset (msegA 2000000 A ++ X) (2000000 + n) o = msegA 2000000 (A.set n o) ++ X := fun A o hA => by
    rw [mset_app_in _ _ (by rw [mlook_msegO, List.getElem?_eq_getElem hA]; rfl), mset_msegO _ hA]
   simp only [ofzAll]
   rw [ofzAll_seg l X n (by omega), mlook_append, mlook_msegO, List.getElem?_append_right (by omega), hl, Nat.sub_self, hd]
   simp only [List.getElem?_cons_zero]
   rw [hset _ _ (by simp; omega), List.set_append_right _ _ (by omega), hl, Nat.sub_self, List.set_cons_zero, List.take_add_one, List.getElem?_eq_getElem (by omega), Option.toList_some, List.map_append, List.map_singleton, List.append_assoc]
   rfl
theorem otab_fzX {α : Type} (e : Nat) (C : α → List AV) (W : Nat → Nat → α) (n m : Nat) (X : Mem) : ofzAll n (otab e C W n m ++ X) = otabF e C W n m ++ X := by
 rw [otab, ofzAll_seg _ X n (by simp), List.take_of_length_le (by simp), List.drop_eq_nil_of_le (by simp), List.append_nil, List.map_map]; rfl
theorem otab_fz {α : Type} (e : Nat) (C : α → List AV) (W : Nat → Nat → α) (n m : Nat) : ofzAll n (otab e C W n m) = otabF e C W n m := by
 have := otab_fzX e C W n m []
 simpa using this
theorem SimA.ofzAll (n : Nat) (s : SimA P fr ds G F st a w) (h : ∀ i, i < n → ∃ esz es fz, mlook st.mem (2000000 + i) = some (.arr esz es fz) ∧ es.all AV.norefs = true) :
  ∃ F', SimA P fr ds G F' ⟨st.vars, st.tmps, Avl.ofzAll n st.mem, st.nx⟩ a w ∧ Step (· < fr.base) G F st.mem w G F' (Avl.ofzAll n st.mem) w := by
 induction n with
 | zero => exact ⟨F, s, .refl⟩
 | succ n ih =>
   obtain ⟨F1, s1, S1⟩ := ih fun i hi => h i (by omega)
   obtain ⟨esz, es, fz, ho, hn⟩ := h n (Nat.lt_succ_self _)
   have hm : mlook (Avl.ofzAll n st.mem) (2000000 + n) = some (.arr esz es fz) := by rw [mlook_ofz_above _ _ _ (Nat.le_refl _)]; exact ho
   have he : St.fz (2000000 + n) ⟨st.vars, st.tmps, Avl.ofzAll n st.mem, st.nx⟩ = some ⟨st.vars, st.tmps, mset (Avl.ofzAll n st.mem) (2000000 + n) (.arr esz es true), st.nx⟩ := by
    simp only [St.fz, hm, hn]; rfl
   obtain ⟨F2, s2, S2⟩ := s1.fz he
   refine ⟨F2, ?_, ?_⟩
   ·simp only [Avl.ofzAll, hm]; exact s2
   ·simp only [Avl.ofzAll, hm]; exact S1.trans S2
theorem EvC.ofzAll (n : Nat) (h : ∀ i, i < n → ∃ esz es fz, mlook st.mem (2000000 + i) = some (.arr esz es fz) ∧ es.all AV.norefs = true) (hc : EvC P fr ro ds c ⟨st.vars, st.tmps, Avl.ofzAll n st.mem, st.nx⟩ Q) : EvC P fr ro ds c st Q :=
 EvC.conv (fun _ _ _ _ s => let ⟨F', s', S'⟩ := s.ofzAll n h; ⟨_, F', s', S'⟩) hc
end
attribute [go_sem] renMem_osegK notO
end Go.Avl
namespace Go.Avl
open Go
def isScV : AV → Bool
 | .sc _ => true
 | _ => false
section
variable {P : Program} {fr : Fr} {ro : Option Nat} {ds : DS} {st st' : St} {Q Q' : Exit → St → Prop} {G G' : Nat → Option Value} {F F' : Nat → Nat → Prop} {a : Act} {w w' : World} {M M' : Mem}
 {ops : Array Oper} {l rest : List Oper} {o : Oper} {N id : Nat} {rd gs : List Nat}
theorem SimD.callND {f : FuncId} {callee : Operand} {args : Array Operand} {tys : Array TypeId} {xs : List AV} {d esz : Nat} {es : List (List AV)} {K : Act → World → Prop} {Q1 : Exit → Act → World → Prop}
  (s : SimD P fr ds G F st N a w) (hN : id < N) (hid : G id = none) (hop : o.op = .call ⟨.value callee, args, tys⟩) (hd : dok fr o.dst = true) (hcal : od fr st true callee = .fn f [])
  (hxs : argsD fr st d args = xs) (hk : argsK fr st d args = true) (hsc : (es.all fun c => c.all isScV) = true) (hc : PureNew P f xs esz es)
  (h : ∀ G' F' a' w', SimD P fr ds G' F' (run1 fr o.dst ⟨.tl id es.length false, some (id, .arr esz es false)⟩ st) N a' w' → Step All G F st.mem w G' F' (run1 fr o.dst ⟨.tl id es.length false, some (id, .arr esz es false)⟩ st).mem w' → (∀ j, j ≠ id → G j = none → G' j = none) → K a' w') : o.wpIn (fc ro) 0 P a w K Q1 := by
 refine ⟨fun _ _ => trivial, ?_⟩
 rw [Oper.semAt_eq _ _ _ (by rw [hop]; intro c h; cases h)]
 have hv := (s.eval callee).unopt
 have hv : RV G F st.mem w (a.eval callee) (.fn f []) := by unfold od at hcal; rwa [hcal] at hv
 obtain ⟨vs, hev, hl, _⟩ := hv.inv_fn
 have hvs : vs = [] := by cases vs with
  | nil => rfl
  | cons a l => simp at hl
 subst hvs
 have hrun : (execOp a.eval o).run P w = .ok (.enter f ((args.toList.map a.eval).toArray)) w := by
  obtain ⟨dst, op, ty, pos, after, guard⟩ := o
  simp only at hop
  subst hop
  simp only [execOp, resolve, hev, Deferred.ofValue, Sem.run_bind, Sem.run_pure, Result.andThen_ok, invoke]
  rw [hc.1]
  congr 2
  apply Array.ext'
  simp
 rw [hrun]
 have hi : Imms (Avl.lend G F st.mem) w (args.toList.map a.eval) xs := by
  subst hxs
  refine ⟨by simp [argsD], fun i h1 h2 => ?_⟩
  simp only [argsD, List.getElem_map] at h2 ⊢
  unfold argsK at hk
  rw [List.all_eq_true] at hk
  exact RV.lendA s.mem d (s.eval _).unopt (hk _ (List.getElem_mem _))
 have hin : ∀ b o, Avl.lend G F st.mem b o → b < w.heap.size := fun b o h => h.elim (s.mem.inF b o) fun h => s.mem.lt h
 refine ⟨fun h => by simp [fc, Fence.wide] at h, callsIn_fc ((hc.2 _ w _ ⟨hin, s.mem.gl.mono (fun _ _ h => .inl h) fun _ _ _ => rfl⟩ hi).mono ?_)⟩
 rintro e w' ⟨b, c, cc, el, F', rfl, q2, qb, q3, q4, q5, q6, q7, q8, g⟩
 have g' : Grown F w (fun b o => F b o ∨ (F' b o ∧ w.heap.size ≤ b)) w' :=
  ⟨g.size, g.old, fun _ _ h => .inl h, fun b o h => h.imp (fun h => h) fun h => h.2, fun b o h => by
   rcases h with h | h
   ·exact Nat.lt_of_lt_of_le (s.mem.inF b o h) g.size
   ·exact g.inF b o h.1, g.kept⟩
 have q8' : ∀ o, ¬ (F b o ∨ (F' b o ∧ w.heap.size ≤ b)) := fun o h => h.elim (fun h => q8 o (g.F1 _ _ (.inl h))) fun h => q8 o h.1
 have hcell : ∀ (G2 : Nat → Option Value) (F2 : Nat → Nat → Prop) (M2 : Mem) (i k : Nat) (hi : i < es.length) (hk : k < es[i].length), ∃ v, cc[i * esz + k]? = some v ∧ v.oneCell' = true ∧ RV G2 F2 M2 w' v es[i][k] := fun G2 F2 M2 i k hi hk => by
  obtain ⟨v, k1, k2, k3⟩ := q7 i k hi hk
  have h1 : isScV es[i][k] = true := by
   rw [List.all_eq_true] at hsc
   have := hsc _ (List.getElem_mem hi)
   rw [List.all_eq_true] at this
   exact this _ (List.getElem_mem hk)
  refine ⟨v, k1, k2, ?_⟩
  generalize es[i][k] = y at h1 k3
  cases y with
  | sc u =>
    cases k3
    exact .imm (.sc _)
  | _ => cases h1
 obtain ⟨hm', S'⟩ := simM_grownNew (id := id) s.mem g' hid hN (.slice (some ⟨b, 0, none⟩) es.length c) (.arr esz es false) (by simp [blkOf, q2]) qb fun S =>
  .inr ⟨b, c, cc, el, upG_self _ _ _, q2, q3, q4, q5, q6, hcell _ _ _, fun o hF => absurd hF (q8' o), fun hz => by cases hz⟩
 obtain ⟨s1, S1⟩ := s.put (d := o.dst) (r := ⟨.tl id es.length false, some (id, .arr esz es false)⟩) (u := .slice (some ⟨b, 0, none⟩) es.length c) hm' (fun i => by
  simp only [Rc.mem]
  rw [mlook_mset, mlook_cons]) S' hd (.tl id es.length false _ (by rw [upG_self]; simp) fun esz' es' fz' ho => by
   rw [mlook_cons, if_pos rfl] at ho; cases ho
   exact ⟨Nat.le_refl _, fun _ => ⟨upG_self _ _ _, rfl⟩⟩)
 exact h _ _ _ w' s1 S1 fun j hj hG => by rw [upG_other G _ hj]; exact hG
theorem OpIs.callND {f : FuncId} {callee : Operand} {args : Array Operand} {tys : Array TypeId} {xs : List AV} {esz : Nat} {es : List (List AV)} (d : Nat) (hg : o.guard = none) (hop : o.op = .call ⟨.value callee, args, tys⟩) (hd : dok fr o.dst = true)
  (hcal : od fr st true callee = .fn f []) (hxs : argsD fr st d args = xs) (hk : argsK fr st d args = true) (hrd : rdL fr st d [] o args = rd) (hsc : (es.all fun c => c.all isScV) = true) (hc : PureNew P f xs esz es) : OpIs P fr ro ds ops id st ⟨o, ⟨.tl id es.length false, some (id, .arr esz es false)⟩, rd⟩ := by
 intro st' G F a w N K Q1 s hN hG hl h
 simp only [Region.wanted, hg, if_true]
 have hslot : ∀ x ∈ o.op.operands.toList, opnd fr st' x = opnd fr st x := fun x hx => by
  cases x with
  | tmp t => exact look_slot (hl _ (by simp only; rw [← hrd]; unfold rdL; exact List.mem_append_right _ (List.mem_append_left _ (opSlots_mem hx))))
  | _ => rfl
 rw [hop] at hslot
 have hodc : od fr st' true callee = od fr st true callee := by unfold od; rw [hslot callee (by simp [Op.operands, Call.operands])]
 have hoda : ∀ x ∈ args.toList, od fr st' true x = od fr st true x := fun x hx => by
  unfold od; rw [hslot x (by simp only [Op.operands, Call.operands]; simp; exact .inr (by simpa using hx))]
 have hcg : ∀ x ∈ args.toList, lendA st'.mem d (od fr st' true x) = lendA st.mem d (od fr st true x) ∧ lendK st'.mem d (od fr st' true x) = lendK st.mem d (od fr st true x) := fun x hx => by
  rw [hoda x hx]
  exact lend_congr d _ fun i hi => look_obj (hl _ (by simp only; rw [← hrd]; unfold rdL; exact List.mem_append_right _ (List.mem_append_right _ (argsI_mem hx hi))))
 refine s.callND (d := d) hN hG hop hd (by rw [hodc]; exact hcal) ?_ ?_ hsc hc h
 ·rw [← hxs]; unfold argsD; exact List.map_congr_left fun x hx => (hcg x hx).1
 ·rw [← hk]; unfold argsK
  rw [Bool.eq_iff_iff, List.all_eq_true, List.all_eq_true]
  exact ⟨fun h x hx => by rw [← (hcg x hx).2]; exact h x hx, fun h x hx => by rw [(hcg x hx).2]; exact h x hx⟩
end
end Go.Avl
namespace Go.Avl
open Go
def St.slotTv (fr : Fr) (k : Nat) (st : St) : Option St :=
 match st.get fr k with
 | .tl i n _ => match mlook st.mem i with
   | some (.arr _ es _) => match decide (n = es.length) && !(n == 0) with
     | true => some (st.put fr (some k) (.tv i n 0 n .rest))
     | false => none
   | _ => none
 | _ => none
attribute [go_sem] St.slotTv
section
variable {P : Program} {fr : Fr} {ro : Option Nat} {ds : DS} {st st' : St} {Q : Exit → St → Prop} {G : Nat → Option Value} {F : Nat → Nat → Prop} {a : Act} {w : World} {c : Code}
theorem SimA.slotTv {k : Nat} (s : SimA P fr ds G F st a w) (h : st.slotTv fr k = some st') : SimA P fr ds G F st' a w ∧ st'.mem = st.mem := by
 unfold St.slotTv at h
 split at h
 ·rename_i i n b hg
  split at h
  ·rename_i esz es fz ho
   split at h
   ·rename_i hc
    cases h
    simp only [Bool.and_eq_true, decide_eq_true_eq, Bool.not_eq_true', beq_eq_false_iff_ne] at hc
    refine ⟨⟨⟨by rw [St.put_mem, St.put_nx]; exact s.sim.mem, fun j => ?_, s.sim.size⟩, fun j hj => s.fresh j (by rw [St.put_nx] at hj; exact hj), s.defers⟩, St.put_mem ..⟩
    rw [St.put_mem, St.get_put]
    split
    ·rename_i hj; subst hj
     have := s.sim.slots j
     rw [hg] at this
     exact this.tl_tv s.sim.mem ho hc.1 hc.2
    ·exact s.sim.slots j
   ·cases h
  ·cases h
 ·cases h
theorem EvC.slotTv (k : Nat) (h : st.slotTv fr k = some st') (hc : EvC P fr ro ds c st' Q) : EvC P fr ro ds c st Q :=
 EvC.conv (fun G F _ _ s => ⟨G, F, (s.slotTv h).1, by rw [(s.slotTv h).2]; exact .refl⟩) hc
theorem XR.frzD {ops : Array Oper} {l : List Oper} (i : Nat) (h : st.frzD i = some st') (hc : XR P fr ro ds ops l st' Q) : XR P fr ro ds ops l st Q :=
 fun _ _ _ _ _ _ _ _ S s => let ⟨_, s', S'⟩ := s.frzD h; hc _ _ _ _ _ _ _ _ (S.trans S') s'
theorem XR.snapA {ops : Array Oper} {l : List Oper} (i : Nat) (h : st.snapA i = some st') (hc : XR P fr ro ds ops l st' Q) : XR P fr ro ds ops l st Q :=
 fun _ _ _ _ _ _ _ _ S s => let ⟨s', S'⟩ := s.snapA h; hc _ _ _ _ _ _ _ _ (S.trans S') s'
end
end Go.Avl
namespace Go.Avl
open Go Go.Proofs.Try
@[go_sem] theorem ty_cellsOf_104 : Program.cellsOf prog 104 = 1 := by kernel_rfl
@[go_sem] theorem ty_cellsOf_109 : Program.cellsOf prog 109 = 1 := by kernel_rfl
@[go_sem] theorem ty_cellsOf_114 : Program.cellsOf prog 114 = 1 := by kernel_rfl
@[go_sem] theorem ty_cellsOf_22 : Program.cellsOf prog 22 = 1 := by kernel_rfl
@[go_sem] theorem ty_cellsOf_24 : Program.cellsOf prog 24 = 5 := by kernel_rfl
@[go_sem] theorem ty_cellsOf_25 : Program.cellsOf prog 25 = 1 := by kernel_rfl
@[go_sem] theorem ty_cellsOf_28 : Program.cellsOf prog 28 = 1 := by kernel_rfl
@[go_sem] theorem ty_cellsOf_3 : Program.cellsOf prog 3 = 1 := by kernel_rfl
@[go_sem] theorem ty_cellsOf_30 : Program.cellsOf prog 30 = 3 := by kernel_rfl
@[go_sem] theorem ty_cellsOf_32 : Program.cellsOf prog 32 = 1 := by kernel_rfl
@[go_sem] theorem ty_cellsOf_4 : Program.cellsOf prog 4 = 1 := by kernel_rfl
@[go_sem] theorem ty_cellsOf_42 : Program.cellsOf prog 42 = 1 := by kernel_rfl
@[go_sem] theorem ty_cellsOf_5 : Program.cellsOf prog 5 = 1 := by kernel_rfl
@[go_sem] theorem ty_cellsOf_74 : Program.cellsOf prog 74 = 2 := by kernel_rfl
@[go_sem] theorem ty_cellsOf_75 : Program.cellsOf prog 75 = 1 := by kernel_rfl
@[go_sem] theorem ty_cellsOf_82 : Program.cellsOf prog 82 = 2 := by kernel_rfl
@[go_sem] theorem ty_cellsOf_84 : Program.cellsOf prog 84 = 2 := by kernel_rfl
@[go_sem] theorem ty_cellsOf_86 : Program.cellsOf prog 86 = 1 := by kernel_rfl
@[go_sem] theorem ty_eqKinds_3 : eqKinds prog 3 = none := by kernel_rfl
@[go_sem] theorem ty_eqKinds_36 : eqKinds prog 36 = none := by kernel_rfl
@[go_sem] theorem ty_eqKinds_4 : eqKinds prog 4 = none := by kernel_rfl
@[go_sem] theorem ty_eqKinds_42 : eqKinds prog 42 = none := by kernel_rfl
@[go_sem] theorem ty_eqKinds_5 : eqKinds prog 5 = none := by kernel_rfl
@[go_sem] theorem ty_eqKinds_75 : eqKinds prog 75 = none := by kernel_rfl
@[go_sem] theorem ty_eqKinds_82 : eqKinds prog 82 = some [Kd.int IntKind.i64, Kd.int IntKind.i64] := by kernel_rfl
@[go_sem] theorem ty_kindsOf_3 : kindsOf prog 8 3 = some [Kd.int IntKind.i64] := by kernel_rfl
@[go_sem] theorem ty_nilTy_3 : nilTy prog 3 = 0 := by kernel_rfl
@[go_sem] theorem ty_nilTy_36 : nilTy prog 36 = 0 := by kernel_rfl
@[go_sem] theorem ty_nilTy_4 : nilTy prog 4 = 0 := by kernel_rfl
@[go_sem] theorem ty_nilTy_42 : nilTy prog 42 = 1 := by kernel_rfl
@[go_sem] theorem ty_nilTy_5 : nilTy prog 5 = 0 := by kernel_rfl
@[go_sem] theorem ty_nilTy_75 : nilTy prog 75 = 1 := by kernel_rfl
@[go_sem] theorem ty_nilTy_82 : nilTy prog 82 = 0 := by kernel_rfl
@[go_sem] theorem ty_placeOf_117_0 : placeOf prog 117 0 = some (0, 3) := by kernel_rfl
@[go_sem] theorem ty_placeOf_117_1 : placeOf prog 117 1 = some (3, 1) := by kernel_rfl
@[go_sem] theorem ty_placeOf_117_3 : placeOf prog 117 3 = some (5, 1) := by kernel_rfl
@[go_sem] theorem ty_placeOf_124_0 : placeOf prog 124 0 = some (0, 1) := by kernel_rfl
@[go_sem] theorem ty_placeOf_124_1 : placeOf prog 124 1 = some (1, 1) := by kernel_rfl
@[go_sem] theorem ty_placeOf_30_0 : placeOf prog 30 0 = some (0, 1) := by kernel_rfl
@[go_sem] theorem ty_placeOf_30_1 : placeOf prog 30 1 = some (1, 1) := by kernel_rfl
@[go_sem] theorem ty_placeOf_30_2 : placeOf prog 30 2 = some (2, 1) := by kernel_rfl
@[go_sem] theorem ty_placeOf_34_0 : placeOf prog 34 0 = some (0, 1) := by kernel_rfl
@[go_sem] theorem ty_placeOf_34_1 : placeOf prog 34 1 = some (1, 1) := by kernel_rfl
@[go_sem] theorem ty_placeOf_34_2 : placeOf prog 34 2 = some (2, 1) := by kernel_rfl
@[go_sem] theorem ty_placeOf_49_0 : placeOf prog 49 0 = some (0, 1) := by kernel_rfl
@[go_sem] theorem ty_placeOf_49_1 : placeOf prog 49 1 = some (1, 1) := by kernel_rfl
@[go_sem] theorem ty_placeOf_49_2 : placeOf prog 49 2 = some (2, 1) := by kernel_rfl
@[go_sem] theorem ty_placeOf_59_0 : placeOf prog 59 0 = some (0, 1) := by kernel_rfl
@[go_sem] theorem ty_placeOf_59_1 : placeOf prog 59 1 = some (1, 1) := by kernel_rfl
@[go_sem] theorem ty_placeOf_59_2 : placeOf prog 59 2 = some (2, 1) := by kernel_rfl
@[go_sem] theorem ty_placeOf_64_0 : placeOf prog 64 0 = some (0, 1) := by kernel_rfl
@[go_sem] theorem ty_placeOf_64_1 : placeOf prog 64 1 = some (1, 1) := by kernel_rfl
@[go_sem] theorem ty_placeOf_74_0 : placeOf prog 74 0 = some (0, 1) := by kernel_rfl
@[go_sem] theorem ty_placeOf_74_1 : placeOf prog 74 1 = some (1, 1) := by kernel_rfl
@[go_sem] theorem ty_placeOf_82_0 : placeOf prog 82 0 = some (0, 1) := by kernel_rfl
@[go_sem] theorem ty_placeOf_82_1 : placeOf prog 82 1 = some (1, 1) := by kernel_rfl
@[go_sem] theorem ty_placeOf_84_0 : placeOf prog 84 0 = some (0, 1) := by kernel_rfl
@[go_sem] theorem ty_placeOf_84_1 : placeOf prog 84 1 = some (1, 1) := by kernel_rfl
@[go_sem] theorem ty_tarr_104 : tarr prog 104 = none := by kernel_rfl
@[go_sem] theorem ty_tarr_109 : tarr prog 109 = none := by kernel_rfl
@[go_sem] theorem ty_tarr_130 : tarr prog 130 = none := by kernel_rfl
@[go_sem] theorem ty_tarr_22 : tarr prog 22 = none := by kernel_rfl
@[go_sem] theorem ty_tarr_25 : tarr prog 25 = none := by kernel_rfl
@[go_sem] theorem ty_tarr_28 : tarr prog 28 = none := by kernel_rfl
@[go_sem] theorem ty_tarr_32 : tarr prog 32 = none := by kernel_rfl
@[go_sem] theorem ty_tarr_42 : tarr prog 42 = none := by kernel_rfl
@[go_sem] theorem ty_tarr_74 : tarr prog 74 = some (2, 3) := by kernel_rfl
@[go_sem] theorem ty_tarr_75 : tarr prog 75 = none := by kernel_rfl
@[go_sem] theorem ty_tarr_86 : tarr prog 86 = none := by kernel_rfl
@[go_sem] theorem ty_tbool_3 : tbool prog 3 = false := by kernel_rfl
@[go_sem] theorem ty_tbool_36 : tbool prog 36 = false := by kernel_rfl
@[go_sem] theorem ty_tbool_4 : tbool prog 4 = true := by kernel_rfl
@[go_sem] theorem ty_tbool_42 : tbool prog 42 = false := by kernel_rfl
@[go_sem] theorem ty_tbool_5 : tbool prog 5 = false := by kernel_rfl
@[go_sem] theorem ty_tbool_75 : tbool prog 75 = false := by kernel_rfl
@[go_sem] theorem ty_tbool_82 : tbool prog 82 = false := by kernel_rfl
@[go_sem] theorem ty_tbuild_117 : tbuild prog 117 = true := by kernel_rfl
@[go_sem] theorem ty_tbuild_124 : tbuild prog 124 = true := by kernel_rfl
@[go_sem] theorem ty_tbuild_30 : tbuild prog 30 = true := by kernel_rfl
@[go_sem] theorem ty_tbuild_34 : tbuild prog 34 = true := by kernel_rfl
@[go_sem] theorem ty_tbuild_49 : tbuild prog 49 = true := by kernel_rfl
@[go_sem] theorem ty_tbuild_59 : tbuild prog 59 = true := by kernel_rfl
@[go_sem] theorem ty_tbuild_64 : tbuild prog 64 = true := by kernel_rfl
@[go_sem] theorem ty_tbuild_74 : tbuild prog 74 = true := by kernel_rfl
@[go_sem] theorem ty_tbuild_82 : tbuild prog 82 = true := by kernel_rfl
@[go_sem] theorem ty_tbuild_84 : tbuild prog 84 = true := by kernel_rfl
@[go_sem] theorem ty_telem_103 : telem prog 103 = none := by kernel_rfl
@[go_sem] theorem ty_telem_104 : telem prog 104 = some 42 := by kernel_rfl
@[go_sem] theorem ty_telem_109 : telem prog 109 = some 5 := by kernel_rfl
@[go_sem] theorem ty_telem_115 : telem prog 115 = none := by kernel_rfl
@[go_sem] theorem ty_telem_130 : telem prog 130 = some 4 := by kernel_rfl
@[go_sem] theorem ty_telem_133 : telem prog 133 = none := by kernel_rfl
@[go_sem] theorem ty_telem_22 : telem prog 22 = some 114 := by kernel_rfl
@[go_sem] theorem ty_telem_24 : telem prog 24 = none := by kernel_rfl
@[go_sem] theorem ty_telem_25 : telem prog 25 = some 109 := by kernel_rfl
@[go_sem] theorem ty_telem_27 : telem prog 27 = none := by kernel_rfl
@[go_sem] theorem ty_telem_28 : telem prog 28 = some 75 := by kernel_rfl
@[go_sem] theorem ty_telem_3 : telem prog 3 = none := by kernel_rfl
@[go_sem] theorem ty_telem_30 : telem prog 30 = none := by kernel_rfl
@[go_sem] theorem ty_telem_32 : telem prog 32 = some 84 := by kernel_rfl
@[go_sem] theorem ty_telem_34 : telem prog 34 = none := by kernel_rfl
@[go_sem] theorem ty_telem_36 : telem prog 36 = none := by kernel_rfl
@[go_sem] theorem ty_telem_4 : telem prog 4 = none := by kernel_rfl
@[go_sem] theorem ty_telem_42 : telem prog 42 = some 3 := by kernel_rfl
@[go_sem] theorem ty_telem_49 : telem prog 49 = none := by kernel_rfl
@[go_sem] theorem ty_telem_74 : telem prog 74 = none := by kernel_rfl
@[go_sem] theorem ty_telem_75 : telem prog 75 = some 82 := by kernel_rfl
@[go_sem] theorem ty_telem_82 : telem prog 82 = none := by kernel_rfl
@[go_sem] theorem ty_telem_84 : telem prog 84 = none := by kernel_rfl
@[go_sem] theorem ty_telem_86 : telem prog 86 = some 74 := by kernel_rfl
@[go_sem] theorem ty_telem_88 : telem prog 88 = none := by kernel_rfl
@[go_sem] theorem ty_telem_95 : telem prog 95 = none := by kernel_rfl
@[go_sem] theorem ty_tfield_117_0 : tfield prog 117 0 = some (0, 30) := by kernel_rfl
@[go_sem] theorem ty_tfield_117_1 : tfield prog 117 1 = some (3, 86) := by kernel_rfl
@[go_sem] theorem ty_tfield_117_2 : tfield prog 117 2 = some (4, 42) := by kernel_rfl
@[go_sem] theorem ty_tfield_117_3 : tfield prog 117 3 = some (5, 3) := by kernel_rfl
@[go_sem] theorem ty_tfield_117_4 : tfield prog 117 4 = some (6, 4) := by kernel_rfl
@[go_sem] theorem ty_tfield_124_0 : tfield prog 124 0 = some (0, 42) := by kernel_rfl
@[go_sem] theorem ty_tfield_124_1 : tfield prog 124 1 = some (1, 28) := by kernel_rfl
@[go_sem] theorem ty_tfield_24_0 : tfield prog 24 0 = some (0, 5) := by kernel_rfl
@[go_sem] theorem ty_tfield_24_1 : tfield prog 24 1 = some (1, 5) := by kernel_rfl
@[go_sem] theorem ty_tfield_24_2 : tfield prog 24 2 = some (2, 5) := by kernel_rfl
@[go_sem] theorem ty_tfield_24_3 : tfield prog 24 3 = some (3, 4) := by kernel_rfl
@[go_sem] theorem ty_tfield_24_4 : tfield prog 24 4 = some (4, 22) := by kernel_rfl
@[go_sem] theorem ty_tfield_27_0 : tfield prog 27 0 = some (0, 24) := by kernel_rfl
@[go_sem] theorem ty_tfield_27_1 : tfield prog 27 1 = some (5, 25) := by kernel_rfl
@[go_sem] theorem ty_tfield_27_2 : tfield prog 27 2 = some (6, 5) := by kernel_rfl
@[go_sem] theorem ty_tfield_27_3 : tfield prog 27 3 = some (7, 5) := by kernel_rfl
@[go_sem] theorem ty_tfield_27_4 : tfield prog 27 4 = some (8, 5) := by kernel_rfl
@[go_sem] theorem ty_tfield_30_0 : tfield prog 30 0 = some (0, 3) := by kernel_rfl
@[go_sem] theorem ty_tfield_30_1 : tfield prog 30 1 = some (1, 3) := by kernel_rfl
@[go_sem] theorem ty_tfield_30_2 : tfield prog 30 2 = some (2, 28) := by kernel_rfl
@[go_sem] theorem ty_tfield_34_0 : tfield prog 34 0 = some (0, 3) := by kernel_rfl
@[go_sem] theorem ty_tfield_34_1 : tfield prog 34 1 = some (1, 3) := by kernel_rfl
@[go_sem] theorem ty_tfield_34_2 : tfield prog 34 2 = some (2, 32) := by kernel_rfl
@[go_sem] theorem ty_tfield_49_0 : tfield prog 49 0 = some (0, 3) := by kernel_rfl
@[go_sem] theorem ty_tfield_49_1 : tfield prog 49 1 = some (1, 3) := by kernel_rfl
@[go_sem] theorem ty_tfield_49_2 : tfield prog 49 2 = some (2, 28) := by kernel_rfl
@[go_sem] theorem ty_tfield_82_0 : tfield prog 82 0 = some (0, 3) := by kernel_rfl
@[go_sem] theorem ty_tfield_82_1 : tfield prog 82 1 = some (1, 3) := by kernel_rfl
@[go_sem] theorem ty_tfield_84_0 : tfield prog 84 0 = some (0, 42) := by kernel_rfl
@[go_sem] theorem ty_tfield_84_1 : tfield prog 84 1 = some (1, 42) := by kernel_rfl
@[go_sem] theorem ty_tinf_109 : tinf prog 109 = true := by kernel_rfl
@[go_sem] theorem ty_tinf_114 : tinf prog 114 = true := by kernel_rfl
@[go_sem] theorem ty_tinf_3 : tinf prog 3 = true := by kernel_rfl
@[go_sem] theorem ty_tinf_4 : tinf prog 4 = true := by kernel_rfl
@[go_sem] theorem ty_tinf_42 : tinf prog 42 = true := by kernel_rfl
@[go_sem] theorem ty_tinf_5 : tinf prog 5 = true := by kernel_rfl
@[go_sem] theorem ty_tinf_74 : tinf prog 74 = true := by kernel_rfl
@[go_sem] theorem ty_tinf_75 : tinf prog 75 = true := by kernel_rfl
@[go_sem] theorem ty_tinf_82 : tinf prog 82 = true := by kernel_rfl
@[go_sem] theorem ty_tinf_84 : tinf prog 84 = true := by kernel_rfl
@[go_sem] theorem ty_tinfo_109 : tinfo prog 109 = some { size := 1, agg := false, zero := [Value.slice none 0 0], bytes := 24 } := by kernel_rfl
@[go_sem] theorem ty_tinfo_114 : tinfo prog 114 = some { size := 1, agg := false, zero := [Value.int IntKind.u16 0], bytes := 2 } := by kernel_rfl
@[go_sem] theorem ty_tinfo_117 : tinfo prog 117 = some { size := 7, agg := true, zero := [Value.int IntKind.i64 0, Value.int IntKind.i64 0, Value.slice none 0 0, Value.slice none 0 0, Value.slice none 0 0, Value.int IntKind.i64 0, Value.bool false], bytes := 104 } := by kernel_rfl
@[go_sem] theorem ty_tinfo_124 : tinfo prog 124 = some { size := 2, agg := true, zero := [Value.slice none 0 0, Value.slice none 0 0], bytes := 48 } := by kernel_rfl
@[go_sem] theorem ty_tinfo_22 : tinfo prog 22 = some { size := 1, agg := false, zero := [Value.slice none 0 0], bytes := 24 } := by kernel_rfl
@[go_sem] theorem ty_tinfo_24 : tinfo prog 24 = some { size := 5, agg := true, zero := [Value.int IntKind.u8 0, Value.int IntKind.u8 0, Value.int IntKind.u8 0, Value.bool false, Value.slice none 0 0], bytes := 32 } := by kernel_rfl
@[go_sem] theorem ty_tinfo_25 : tinfo prog 25 = some { size := 1, agg := false, zero := [Value.slice none 0 0], bytes := 24 } := by kernel_rfl
@[go_sem] theorem ty_tinfo_27 : tinfo prog 27 = some { size := 9, agg := true, zero := [Value.int IntKind.u8 0, Value.int IntKind.u8 0, Value.int IntKind.u8 0, Value.bool false, Value.slice none 0 0, Value.slice none 0 0, Value.int IntKind.u8 0, Value.int IntKind.u8 0, Value.int IntKind.u8 0], bytes := 64 } := by kernel_rfl
@[go_sem] theorem ty_tinfo_28 : tinfo prog 28 = some { size := 1, agg := false, zero := [Value.slice none 0 0], bytes := 24 } := by kernel_rfl
@[go_sem] theorem ty_tinfo_3 : tinfo prog 3 = some { size := 1, agg := false, zero := [Value.int IntKind.i64 0], bytes := 8 } := by kernel_rfl
@[go_sem] theorem ty_tinfo_30 : tinfo prog 30 = some { size := 3, agg := true, zero := [Value.int IntKind.i64 0, Value.int IntKind.i64 0, Value.slice none 0 0], bytes := 40 } := by kernel_rfl
@[go_sem] theorem ty_tinfo_32 : tinfo prog 32 = some { size := 1, agg := false, zero := [Value.slice none 0 0], bytes := 24 } := by kernel_rfl
@[go_sem] theorem ty_tinfo_34 : tinfo prog 34 = some { size := 3, agg := true, zero := [Value.int IntKind.i64 0, Value.int IntKind.i64 0, Value.slice none 0 0], bytes := 40 } := by kernel_rfl
@[go_sem] theorem ty_tinfo_4 : tinfo prog 4 = some { size := 1, agg := false, zero := [Value.bool false], bytes := 1 } := by kernel_rfl
@[go_sem] theorem ty_tinfo_42 : tinfo prog 42 = some { size := 1, agg := false, zero := [Value.slice none 0 0], bytes := 24 } := by kernel_rfl
@[go_sem] theorem ty_tinfo_49 : tinfo prog 49 = some { size := 3, agg := true, zero := [Value.int IntKind.i64 0, Value.int IntKind.i64 0, Value.slice none 0 0], bytes := 40 } := by kernel_rfl
@[go_sem] theorem ty_tinfo_5 : tinfo prog 5 = some { size := 1, agg := false, zero := [Value.int IntKind.u8 0], bytes := 1 } := by kernel_rfl
@[go_sem] theorem ty_tinfo_59 : tinfo prog 59 = some { size := 3, agg := true, zero := [Value.int IntKind.i64 0, Value.int IntKind.i64 0, Value.int IntKind.i64 0], bytes := 24 } := by kernel_rfl
@[go_sem] theorem ty_tinfo_64 : tinfo prog 64 = some { size := 2, agg := true, zero := [Value.int IntKind.i64 0, Value.int IntKind.i64 0], bytes := 16 } := by kernel_rfl
@[go_sem] theorem ty_tinfo_74 : tinfo prog 74 = some { size := 2, agg := true, zero := [Value.int IntKind.i64 0, Value.int IntKind.i64 0], bytes := 16 } := by kernel_rfl
@[go_sem] theorem ty_tinfo_75 : tinfo prog 75 = some { size := 1, agg := false, zero := [Value.slice none 0 0], bytes := 24 } := by kernel_rfl
@[go_sem] theorem ty_tinfo_82 : tinfo prog 82 = some { size := 2, agg := true, zero := [Value.int IntKind.i64 0, Value.int IntKind.i64 0], bytes := 16 } := by kernel_rfl
@[go_sem] theorem ty_tinfo_84 : tinfo prog 84 = some { size := 2, agg := true, zero := [Value.slice none 0 0, Value.slice none 0 0], bytes := 48 } := by kernel_rfl
@[go_sem] theorem ty_tinfo_86 : tinfo prog 86 = some { size := 1, agg := false, zero := [Value.slice none 0 0], bytes := 24 } := by kernel_rfl
@[go_sem] theorem ty_tinfo_88 : tinfo prog 88 = some { size := 1, agg := false, zero := [Value.pointer none], bytes := 8 } := by kernel_rfl
@[go_sem] theorem ty_tint_3 : tint prog 3 = some IntKind.i64 := by kernel_rfl
@[go_sem] theorem ty_tknown_114 : tknown prog 114 = true := by kernel_rfl
@[go_sem] theorem ty_tknown_5 : tknown prog 5 = true := by kernel_rfl
@[go_sem] theorem ty_tmap_103 : tmap prog 103 = none := by kernel_rfl
@[go_sem] theorem ty_tmap_104 : tmap prog 104 = none := by kernel_rfl
@[go_sem] theorem ty_tmap_109 : tmap prog 109 = none := by kernel_rfl
@[go_sem] theorem ty_tmap_115 : tmap prog 115 = none := by kernel_rfl
@[go_sem] theorem ty_tmap_133 : tmap prog 133 = none := by kernel_rfl
@[go_sem] theorem ty_tmap_22 : tmap prog 22 = none := by kernel_rfl
@[go_sem] theorem ty_tmap_24 : tmap prog 24 = none := by kernel_rfl
@[go_sem] theorem ty_tmap_25 : tmap prog 25 = none := by kernel_rfl
@[go_sem] theorem ty_tmap_27 : tmap prog 27 = none := by kernel_rfl
@[go_sem] theorem ty_tmap_28 : tmap prog 28 = none := by kernel_rfl
@[go_sem] theorem ty_tmap_3 : tmap prog 3 = none := by kernel_rfl
@[go_sem] theorem ty_tmap_30 : tmap prog 30 = none := by kernel_rfl
@[go_sem] theorem ty_tmap_32 : tmap prog 32 = none := by kernel_rfl
@[go_sem] theorem ty_tmap_34 : tmap prog 34 = none := by kernel_rfl
@[go_sem] theorem ty_tmap_36 : tmap prog 36 = none := by kernel_rfl
@[go_sem] theorem ty_tmap_4 : tmap prog 4 = none := by kernel_rfl
@[go_sem] theorem ty_tmap_42 : tmap prog 42 = none := by kernel_rfl
@[go_sem] theorem ty_tmap_49 : tmap prog 49 = none := by kernel_rfl
@[go_sem] theorem ty_tmap_75 : tmap prog 75 = none := by kernel_rfl
@[go_sem] theorem ty_tmap_82 : tmap prog 82 = none := by kernel_rfl
@[go_sem] theorem ty_tmap_84 : tmap prog 84 = none := by kernel_rfl
@[go_sem] theorem ty_tmap_86 : tmap prog 86 = none := by kernel_rfl
@[go_sem] theorem ty_tmap_88 : tmap prog 88 = none := by kernel_rfl
@[go_sem] theorem ty_tmap_95 : tmap prog 95 = some (3, 3) := by kernel_rfl
@[go_sem] theorem ty_tstr_103 : tstr prog 103 = false := by kernel_rfl
@[go_sem] theorem ty_tstr_104 : tstr prog 104 = false := by kernel_rfl
@[go_sem] theorem ty_tstr_109 : tstr prog 109 = false := by kernel_rfl
@[go_sem] theorem ty_tstr_115 : tstr prog 115 = false := by kernel_rfl
@[go_sem] theorem ty_tstr_133 : tstr prog 133 = false := by kernel_rfl
@[go_sem] theorem ty_tstr_22 : tstr prog 22 = false := by kernel_rfl
@[go_sem] theorem ty_tstr_24 : tstr prog 24 = false := by kernel_rfl
@[go_sem] theorem ty_tstr_25 : tstr prog 25 = false := by kernel_rfl
@[go_sem] theorem ty_tstr_27 : tstr prog 27 = false := by kernel_rfl
@[go_sem] theorem ty_tstr_28 : tstr prog 28 = false := by kernel_rfl
@[go_sem] theorem ty_tstr_3 : tstr prog 3 = false := by kernel_rfl
@[go_sem] theorem ty_tstr_30 : tstr prog 30 = false := by kernel_rfl
@[go_sem] theorem ty_tstr_32 : tstr prog 32 = false := by kernel_rfl
@[go_sem] theorem ty_tstr_34 : tstr prog 34 = false := by kernel_rfl
@[go_sem] theorem ty_tstr_36 : tstr prog 36 = false := by kernel_rfl
@[go_sem] theorem ty_tstr_4 : tstr prog 4 = false := by kernel_rfl
@[go_sem] theorem ty_tstr_42 : tstr prog 42 = false := by kernel_rfl
@[go_sem] theorem ty_tstr_49 : tstr prog 49 = false := by kernel_rfl
@[go_sem] theorem ty_tstr_75 : tstr prog 75 = false := by kernel_rfl
@[go_sem] theorem ty_tstr_82 : tstr prog 82 = false := by kernel_rfl
@[go_sem] theorem ty_tstr_84 : tstr prog 84 = false := by kernel_rfl
@[go_sem] theorem ty_tstr_86 : tstr prog 86 = false := by kernel_rfl
@[go_sem] theorem ty_tstr_88 : tstr prog 88 = false := by kernel_rfl
@[go_sem] theorem ty_tstr_95 : tstr prog 95 = false := by kernel_rfl
end Go.Avl
namespace Go.Avl
open Go Go.Proofs.Try
set_option maxRecDepth 10000
set_option linter.unusedSimpArgs false
attribute [go_sem] Nat.reduceLT Nat.reduceLeDiff Nat.reduceEqDiff Nat.reduceAdd Nat.reduceSub Nat.reduceMul Nat.reduceBEq Int.reduceToNat Int.reduceEq Int.reduceLT Int.reduceLE Int.reduceAdd reduceCtorEq
attribute [go_sem ↓] reduceIte
theorem mixed : prog.follows .mixedOrders = true := by kernel_rfl
theorem none_is : PureIs prog 86 [] (.ag [.sc (.int .i64 (-1)), .sc (.int .i64 (-1))]) := by
 refine PureIs.of (nv := 1) (hid := []) func86 rfl (by kernel_rfl) (by simp) fun _ => ?_
 rw [ntmps86, results86]
 refine EvC.seq (EvC.rg (by simp only [go_sem]; rfl) rfl ?_)
 refine EvC.seq (EvC.rg (by simp only [go_sem]; rfl) rfl ?_)
 refine EvC.ret ⟨.inl rfl, _, (by simp only [go_sem]; rfl), rfl, rfl⟩
def I (n : Int) : AV := .sc (.int .i64 n)
def B (b : Bool) : AV := .sc (.bool b)
def intC (x : Int) : List AV := [.sc (.int .i64 x)]
@[go_sem] theorem norefs_ints (l : List Int) : (l.map intC).all AV.norefs = true := by simp [List.all_eq_true, intC, AV.norefs, AV.noref]
end Go.Avl
namespace Go.Avl
open Go Go.Proofs.Try
set_option maxRecDepth 10000
set_option linter.unusedSimpArgs false
def fitsR (n o to out : Int) : Bool := decide (to = -1) && decide (out = -1) || (decide (0 ≤ to) && decide (to < n) && decide (0 ≤ out) && decide (out < o))
theorem fits_is (i o : Int) (nl : Bool) (rows : List (List AV)) (c : Cp) (to out : Int) :
  PureIs prog 74 [.ag [.sc (.int .i64 i), .sc (.int .i64 o), .sl nl rows c], .ag [.sc (.int .i64 to), .sc (.int .i64 out)]] (.sc (.bool (fitsR rows.length o to out))) := by
 refine PureIs.of (nv := 5) (hid := []) func74 rfl (by kernel_rfl) (by simp [ntmps74]) fun _ => ?_
 rw [ntmps74, results74]
 refine EvC.seq (EvC.rg (by simp only [go_sem]; rfl) rfl ?_)
 apply EvC.seq
 apply EvC.drw mixed
 case ht =>
  apply Tr.run
  ·simp only [go_sem] <;> rfl
  ·rfl
  apply Tr.cons
  ·exact .call rfl rfl (by simp only [go_sem] <;> rfl) (by simp only [go_sem] <;> rfl) (by simp only [go_sem] <;> rfl) (by simp only [go_sem] <;> rfl) (by simp only [go_sem] <;> rfl) none_is
  apply Tr.done
  ·simp only [go_sem] <;> rfl
  ·simp
 case hc => kernel_rfl
 case hq =>
  refine EvC.ret ⟨.inl rfl, _, (by simp only [go_sem] <;> rfl), ?_, rfl⟩
  simp only [go_sem]
  congr 2
  unfold fitsR
  by_cases h1 : to = -1 <;> by_cases h2 : out = -1 <;> by_cases h3 : 0 ≤ to <;> by_cases h4 : to < rows.length <;> by_cases h5 : 0 ≤ out <;> simp [h1, h2, h3, h4, h5]
end Go.Avl
namespace Go.Avl
open Go Go.Proofs.Try
set_option maxRecDepth 10000
set_option linter.unusedSimpArgs false
def edgeC (e : Int × Int) : List AV := [.sc (.int .i64 e.1), .sc (.int .i64 e.2)]
@[go_sem] theorem norefs_edges (l : List (Int × Int)) : (l.map edgeC).all AV.norefs = true := by simp [List.all_eq_true, edgeC, AV.norefs, AV.noref]
theorem check1_is (i o : Int) (nl : Bool) (rows : List (List AV)) (c : Cp) (to out : Int) :
  PureIs prog 73 [.ag [.sc (.int .i64 to), .sc (.int .i64 out)], .ia [.sc (.int .i64 i), .sc (.int .i64 o), .sl nl rows c]] (.sc (.bool (!fitsR rows.length o to out))) := by
 refine PureIs.of (nv := 4) (hid := []) func73 rfl (by kernel_rfl) (by simp [ntmps73]) fun _ => ?_
 rw [ntmps73, results73]
 refine EvC.seq (EvC.rg (by simp only [go_sem] <;> rfl) rfl ?_)
 apply EvC.seq
 apply EvC.tr
 ·apply Tr.run
  ·simp only [go_sem] <;> rfl
  ·rfl
  apply Tr.cons
  ·exact .call rfl rfl (by simp only [go_sem] <;> rfl) (by simp only [go_sem] <;> rfl) (by simp only [go_sem] <;> rfl) (by simp only [go_sem] <;> rfl) (by simp only [go_sem] <;> rfl) (fits_is _ _ _ _ _ _ _)
  apply Tr.done
  ·simp only [go_sem] <;> rfl
  ·rfl
 refine EvC.ret ⟨.inl rfl, _, (by simp only [go_sem] <;> rfl), ?_, rfl⟩
 simp only [go_sem]
def findIdxR (p : Int × Int → Bool) : List (Int × Int) → Int → Int
 | [], _ => -1
 | e :: es, i => if p e = true then i else findIdxR p es (i + 1)
theorem indexFunc_is (nl : Bool) (xs : List (Int × Int)) (c : Cp) (f : FuncId) (cs : List AV) (hcs : AV.norefs cs = true) (p : Int × Int → Bool) (hp : ∀ e ∈ xs, PureIs prog f (.ag (edgeC e) :: cs) (.sc (.bool (p e)))) (hl : xs.length < 1000000) :
  PureIs prog 85 [.sl nl (xs.map edgeC) c, .fn f cs] (.sc (.int .i64 (findIdxR p xs 0))) := by
 refine PureIs.of (nv := 6) (hid := [6, 7, 8, 9, 16]) func85 rfl (by kernel_rfl) (by simp [ntmps85]) fun _ => ?_
 rw [ntmps85, results85]
 refine EvC.seq (EvC.rg (by simp only [go_sem] <;> rfl) rfl ?_)
 refine EvC.seq ?_
 refine EvC.seq (EvC.rg (by simp only [go_sem] <;> rfl) rfl ?_)
 refine EvC.block (EvC.loopS (σ := Nat) (fun i => ⟨[(0, .sl nl (xs.map edgeC) c), (1, .fn f cs), (7, .sc (.int .i64 xs.length)), (8, .sc (.int .i64 i))], [], [], 0⟩) (fun i => xs.length - i) (fun i => i ≤ xs.length ∧ findIdxR p xs 0 = findIdxR p (xs.drop i) i) [0, 1, 7, 8] 0 ?_ ?_)
 ·refine ⟨[], 0, rfl, (by simp only [go_sem, hcs] <;> rfl), Nat.zero_le _, by simp⟩
 ·rintro i ⟨h1, h2⟩
  refine EvC.seq (EvC.rg (by simp only [go_sem] <;> rfl) rfl ?_)
  refine EvC.seq (EvC.cond (by simp only [go_sem] <;> rfl) (fun hc => ?_) (fun hc => ?_))
  ·refine EvC.skip ?_
   have hi : i < xs.length := by simpa using hc
   have he : xs[i]? = some xs[i] := List.getElem?_eq_getElem hi
   generalize xs[i] = e at he
   have hm : e ∈ xs := List.mem_of_getElem? he
   have hd : xs.drop i = e :: xs.drop (i + 1) := by
    rw [List.drop_eq_getElem_cons hi]; congr 1; rw [List.getElem?_eq_getElem hi] at he; simpa using he
   refine EvC.seq ?_
   refine EvC.block (EvC.seq (EvC.rg (by simp only [go_sem] <;> rfl) rfl ?_))
   apply EvC.seq
   apply EvC.tr
   ·apply Tr.run
    ·simp only [go_sem, he, edgeC] <;> rfl
    ·simp
    apply Tr.cons
    ·exact .call rfl rfl (by simp only [go_sem] <;> rfl) (by simp only [go_sem] <;> rfl) (by simp only [go_sem] <;> rfl) (by simp only [go_sem, hcs] <;> rfl) (by simp only [go_sem] <;> rfl) (hp e hm)
    apply Tr.done
    ·simp only [go_sem] <;> rfl
    ·rfl
   refine EvC.cond (by simp only [go_sem] <;> rfl) (fun hc => ?_) (fun hc => ?_)
   ·refine EvC.seq (EvC.rg (by simp only [go_sem] <;> rfl) rfl ?_)
    refine EvC.ret ⟨.inl rfl, _, (by simp only [go_sem] <;> rfl), ?_, rfl⟩
    simp only [go_sem]
    rw [h2, hd, findIdxR, if_pos hc]
   ·refine EvC.skip ?_
    refine EvC.rg (by simp only [go_sem] <;> rfl) ?_ ?_
    ·exact inI64_of (by omega) (by omega)
    refine ⟨[], i + 1, rfl, ?_, ⟨by omega, ?_⟩, by omega⟩
    ·simp only [go_sem, hcs] <;> rfl
    ·rw [h2, hd, findIdxR, if_neg (by simp [hc])]; rfl
  ·refine EvC.exit ?_
   have hi : ¬ i < xs.length := by simpa using hc
   refine EvC.seq (EvC.rg (by simp only [go_sem] <;> rfl) rfl ?_)
   refine EvC.ret ⟨.inl rfl, _, (by simp only [go_sem] <;> rfl), ?_, rfl⟩
   simp only [go_sem]
   rw [h2, List.drop_of_length_le (by omega)]; rfl
end Go.Avl
namespace Go.Avl
open Go Go.Proofs.Try
set_option maxRecDepth 10000
set_option linter.unusedSimpArgs false
theorem findIdxR_any (p : Int × Int → Bool) : ∀ (es : List (Int × Int)) (i : Int), 0 ≤ i → decide (0 ≤ findIdxR p es i) = es.any p
 | [], i, _ => by simp [findIdxR]
 | e :: es, i, h => by
   unfold findIdxR
   split
   ·rename_i hp; simp [hp, h]
   ·rename_i hp
    rw [findIdxR_any p es (i + 1) (by omega)]
    simp [hp]
theorem containsFunc_is (nl : Bool) (xs : List (Int × Int)) (c : Cp) (f : FuncId) (cs : List AV) (hcs : AV.norefs cs = true) (p : Int × Int → Bool) (hp : ∀ e ∈ xs, PureIs prog f (.ag (edgeC e) :: cs) (.sc (.bool (p e)))) (hl : xs.length < 1000000) :
  PureIs prog 72 [.sl nl (xs.map edgeC) c, .fn f cs] (.sc (.bool (xs.any p))) := by
 refine PureIs.of (nv := 5) (hid := []) func72 rfl (by kernel_rfl) (by simp [ntmps72]) fun _ => ?_
 rw [ntmps72, results72]
 refine EvC.seq (EvC.rg (by simp only [go_sem] <;> rfl) rfl ?_)
 apply EvC.seq
 apply EvC.tr
 ·apply Tr.run
  ·simp only [go_sem] <;> rfl
  ·rfl
  apply Tr.cons
  ·exact .call rfl rfl (by simp only [go_sem] <;> rfl) (by simp only [go_sem] <;> rfl) (by simp only [go_sem] <;> rfl) (by simp only [go_sem, hcs] <;> rfl) (by simp only [go_sem] <;> rfl) (indexFunc_is _ _ _ _ _ hcs _ hp hl)
  apply Tr.done
  ·simp only [go_sem] <;> rfl
  ·rfl
 refine EvC.ret ⟨.inl rfl, _, (by simp only [go_sem] <;> rfl), ?_, rfl⟩
 simp only [go_sem]
 rw [findIdxR_any _ _ _ (Int.le_refl 0)]
abbrev Row := Bool × List (Int × Int)
def rowC (r : Row) : List AV := [.sl r.1 (r.2.map edgeC) .unk]
structure Mach where
 ins : Int
 outs : Int
 nl : Bool
 rows : List Row
def Mach.cells (m : Mach) : List AV := [.sc (.int .i64 m.ins), .sc (.int .i64 m.outs), .sl m.nl (m.rows.map rowC) .unk]
def rowOk (m : Mach) (r : Row) : Bool := decide ((r.2.length : Int) = m.ins) && !(r.2.any fun e => !fitsR m.rows.length m.outs e.1 e.2)
def checkM (m : Mach) : Int :=
 if 16 < m.ins ∨ 16 < m.outs ∨ 64 < (m.rows.length : Int) then 3
 else if m.ins < 1 ∨ m.outs < 1 ∨ (m.rows.length : Int) < 1 then 1
 else if m.rows.all (rowOk m) = true then 0 else 1
theorem check_is (m : Mach) (hr : ∀ r ∈ m.rows, r.2.length < 1000000) : PureIs prog 53 [.ag m.cells] (.sc (.int .i64 (checkM m))) := by
 refine PureIs.of (nv := 5) (hid := [18, 32, 34, 35, 36, 37, 49]) func53 rfl (by kernel_rfl) (by simp [ntmps53]) fun _ => ?_
 rw [ntmps53, results53]
 refine EvC.seq (EvC.rg (by simp only [go_sem, Mach.cells] <;> rfl) rfl ?_)
 refine EvC.frzB 0 (by simp only [go_sem] <;> rfl) ?_
 refine EvC.seq ?_
 apply EvC.seq
 apply EvC.trd
 ·simp only [go_sem] <;> rfl
 ·simp
 refine EvC.cond (by simp only [go_sem] <;> rfl) (fun hc => ?_) (fun hc => ?_)
 ·refine EvC.seq (EvC.rg (by simp only [go_sem] <;> rfl) rfl ?_)
  refine EvC.ret ⟨.inl rfl, _, (by simp only [go_sem] <;> rfl), ?_, rfl⟩
  simp only [go_sem]
  have h : 16 < m.ins ∨ 16 < m.outs ∨ 64 < (m.rows.length : Int) := by
   by_cases h1 : 16 < m.ins <;> by_cases h2 : 16 < m.outs <;> simp_all
  rw [checkM, if_pos h]
 have hn : ¬ (16 < m.ins ∨ 16 < m.outs ∨ 64 < (m.rows.length : Int)) := by
  by_cases h1 : 16 < m.ins <;> by_cases h2 : 16 < m.outs <;> simp_all
 refine EvC.skip ?_
 refine EvC.seq ?_
 apply EvC.seq
 apply EvC.trd
 ·simp only [go_sem] <;> rfl
 ·simp
 refine EvC.cond (by simp only [go_sem] <;> rfl) (fun hc => ?_) (fun hc => ?_)
 ·refine EvC.seq (EvC.rg (by simp only [go_sem] <;> rfl) rfl ?_)
  refine EvC.ret ⟨.inl rfl, _, (by simp only [go_sem] <;> rfl), ?_, rfl⟩
  simp only [go_sem]
  have h : m.ins < 1 ∨ m.outs < 1 ∨ (m.rows.length : Int) < 1 := by
   by_cases h1 : m.ins < 1 <;> by_cases h2 : m.outs < 1 <;> simp_all
  rw [checkM, if_neg hn, if_pos h]
 have hn2 : ¬ (m.ins < 1 ∨ m.outs < 1 ∨ (m.rows.length : Int) < 1) := by
  by_cases h1 : m.ins < 1 <;> by_cases h2 : m.outs < 1 <;> simp_all
 refine EvC.skip ?_
 have hlen : (m.rows.length : Int) ≤ 64 := by omega
 refine EvC.seq ?_
 refine EvC.seq (EvC.rg (by simp only [go_sem] <;> rfl) (by simp) ?_)
 refine EvC.block (EvC.loopS (σ := Nat) (fun i => ⟨[(1, .ia m.cells), (34, .sl m.nl (m.rows.map rowC) .unk), (35, .sc (.int .i64 m.rows.length)), (36, .sc (.int .i64 i))], [], [], 0⟩) (fun i => m.rows.length - i) (fun i => i ≤ m.rows.length ∧ m.rows.all (rowOk m) = (m.rows.drop i).all (rowOk m)) [1, 34, 35, 36] 0 ?_ ?_)
 ·refine ⟨[], 0, rfl, (by simp only [go_sem, Mach.cells] <;> rfl), Nat.zero_le _, by simp⟩
 rintro i ⟨h1, h2⟩
 refine EvC.seq (EvC.rg (by simp only [go_sem] <;> rfl) rfl ?_)
 refine EvC.seq (EvC.cond (by simp only [go_sem] <;> rfl) (fun hc => ?_) (fun hc => ?_))
 ·refine EvC.skip ?_
  have hi : i < m.rows.length := by simpa using hc
  have he : m.rows[i]? = some m.rows[i] := List.getElem?_eq_getElem hi
  generalize m.rows[i] = r at he
  have hm : r ∈ m.rows := List.mem_of_getElem? he
  have hd : m.rows.drop i = r :: m.rows.drop (i + 1) := by
   rw [List.drop_eq_getElem_cons hi]; congr 1; rw [List.getElem?_eq_getElem hi] at he; simpa using he
  refine EvC.seq ?_
  refine EvC.block (EvC.seq (EvC.rg (by simp only [go_sem, he, rowC] <;> rfl) (by simp) ?_))
  by_cases hl : (r.2.length : Int) = m.ins
  ·apply EvC.seq
   apply EvC.tr
   ·apply Tr.run
    ·simp only [go_sem, Mach.cells, hl] <;> rfl
    ·simp
    apply Tr.cons
    ·exact .callG rfl rfl (by simp only [go_sem] <;> rfl) rfl (by simp only [go_sem] <;> rfl) (by simp only [go_sem] <;> rfl) (by simp only [go_sem] <;> rfl) (by simp only [go_sem] <;> rfl) (by simp only [go_sem] <;> rfl) (containsFunc_is r.1 r.2 .unk 73 [.ia m.cells] rfl (fun e => !fitsR m.rows.length m.outs e.1 e.2) (fun e _ => by simpa [edgeC, Mach.cells] using check1_is m.ins m.outs m.nl (m.rows.map rowC) .unk e.1 e.2) (hr r hm))
    apply Tr.done
    ·simp only [go_sem] <;> rfl
    ·simp
   refine EvC.cond (by simp only [go_sem] <;> rfl) (fun hc2 => ?_) (fun hc2 => ?_)
   ·refine EvC.seq (EvC.rg (by simp only [go_sem] <;> rfl) rfl ?_)
    refine EvC.ret ⟨.inl rfl, _, (by simp only [go_sem] <;> rfl), ?_, rfl⟩
    simp only [go_sem]
    rw [checkM, if_neg hn, if_neg hn2, h2, hd, List.all_cons]
    simp [rowOk, hc2]
   ·refine EvC.skip ?_
    refine EvC.rg (by simp only [go_sem] <;> rfl) ?_ ?_
    ·exact inI64_of (by omega) (by omega)
    refine ⟨[], i + 1, rfl, (by simp only [go_sem, Mach.cells] <;> rfl), ⟨by omega, ?_⟩, by omega⟩
    rw [h2, hd, List.all_cons]
    simp [rowOk, hl, hc2]
  ·apply EvC.seq
   apply EvC.tr
   ·apply Tr.run
    ·simp only [go_sem, Mach.cells, hl] <;> rfl
    ·simp
    apply Tr.cons
    ·exact .skipv (.sc (.bool false)) rfl rfl (by simp only [go_sem] <;> rfl) (by simp only [go_sem] <;> rfl)
    apply Tr.done
    ·simp only [go_sem] <;> rfl
    ·simp
   refine EvC.cond_true (by simp only [go_sem] <;> rfl) ?_
   refine EvC.seq (EvC.rg (by simp only [go_sem] <;> rfl) rfl ?_)
   refine EvC.ret ⟨.inl rfl, _, (by simp only [go_sem] <;> rfl), ?_, rfl⟩
   simp only [go_sem]
   rw [checkM, if_neg hn, if_neg hn2, h2, hd, List.all_cons]
   simp [rowOk, hl]
 ·refine EvC.exit ?_
  have hi : ¬ i < m.rows.length := by simpa using hc
  refine EvC.seq (EvC.rg (by simp only [go_sem] <;> rfl) rfl ?_)
  refine EvC.ret ⟨.inl rfl, _, (by simp only [go_sem] <;> rfl), ?_, rfl⟩
  simp only [go_sem]
  rw [checkM, if_neg hn, if_neg hn2, h2, List.drop_of_length_le (by omega)]; rfl
end Go.Avl
namespace Go.Avl
open Go Go.Proofs.Try
set_option maxRecDepth 10000
set_option linter.unusedSimpArgs false
structure Valid (m : Mach) : Prop where
 ins : 1 ≤ m.ins ∧ m.ins ≤ 16
 outs : 1 ≤ m.outs ∧ m.outs ≤ 16
 rows : 1 ≤ m.rows.length ∧ m.rows.length ≤ 64
 row : ∀ r ∈ m.rows, (r.2.length : Int) = m.ins ∧ ∀ e ∈ r.2, fitsR m.rows.length m.outs e.1 e.2 = true
theorem Valid.of {m : Mach} (h : checkM m = 0) : Valid m := by
 unfold checkM at h
 split at h
 ·cases h
 ·split at h
  ·cases h
  ·split at h
   ·rename_i h1 h2 h3
    rw [List.all_eq_true] at h3
    refine ⟨by omega, by omega, by omega, fun r hr => ?_⟩
    have := h3 r hr
    simp only [rowOk, Bool.and_eq_true, decide_eq_true_eq, Bool.not_eq_true', List.any_eq_false] at this
    exact ⟨this.1, fun e he => by simpa using this.2 e he⟩
   ·cases h
end Go.Avl
namespace Go.Avl
open Go Go.Proofs.Try
set_option maxRecDepth 10000
set_option linter.unusedSimpArgs false
def rowF (r : List (Int × Int)) : List AV := rowC (false, r)
@[go_sem] theorem norefs_rowF (l : List (List (Int × Int))) : (l.map rowF).all AV.norefs = true := by simp [List.all_eq_true, rowF, rowC, AV.norefs, AV.noref]
structure LM where
 st : Int
 ins : Int
 outs : Int
 part : Bool
 nl : Bool
 es : List Int
 cap : Cp
def u16C (x : Int) : List AV := [.sc (.int .u16 x)]
@[go_sem] theorem norefs_u16 (l : List Int) : (l.map u16C).all AV.norefs = true := by simp [List.all_eq_true, u16C, AV.norefs, AV.noref]
def LM.cells (x : LM) : List AV := [.sc (.int .u8 x.st), .sc (.int .u8 x.ins), .sc (.int .u8 x.outs), .sc (.bool x.part), .sl x.nl (x.es.map u16C) x.cap]
structure LM.Ok (x : LM) : Prop where
 st : 0 ≤ x.st
 ins : 0 ≤ x.ins
 outs : 0 ≤ x.outs
 es : ∀ e ∈ x.es, 0 ≤ e ∧ e < 65536
def LM.n (x : LM) : Nat := (1 + x.st % 6).toNat
def LM.i (x : LM) : Nat := (1 + x.ins % 3).toNat
def LM.o (x : LM) : Int := 1 + x.outs % 3
def LM.v (x : LM) (s i : Nat) : Int := (x.es[s * x.i + i]?).getD 0
def LM.edge (x : LM) (s i : Nat) : Int × Int :=
 if x.part = true ∧ x.v s i % 4 = 3 then (-1, -1) else (x.v s i / 4 % x.n, x.v s i / 4 / x.n % x.o)
def LM.row (x : LM) (s : Nat) : List (Int × Int) := (List.range x.i).map (x.edge s)
theorem LM.bounds {x : LM} (h : x.Ok) : 1 ≤ x.n ∧ x.n ≤ 6 ∧ 1 ≤ x.i ∧ x.i ≤ 3 ∧ 1 ≤ x.o ∧ x.o ≤ 3 ∧ (x.n : Int) = 1 + x.st % 6 ∧ (x.i : Int) = 1 + x.ins % 3 := by
 have h1 := h.st
 have h2 := h.ins
 have h3 := h.outs
 unfold LM.n LM.i LM.o
 omega
end Go.Avl
namespace Go.Avl
open Go Go.Proofs.Try
set_option maxRecDepth 10000
set_option linter.unusedSimpArgs false
def fdiff : List Int → List Int → Int
 | x :: xs, y :: ys => if x < y then -1 else if y < x then 1 else fdiff xs ys
 | _, _ => 0
def cmpW (a b : List Int) : Int := if a.length < b.length then -1 else if b.length < a.length then 1 else fdiff a b
theorem fdiff_zero : ∀ {a b : List Int}, a.length = b.length → (fdiff a b = 0 ↔ a = b)
 | [], [], _ => by simp [fdiff]
 | x :: xs, y :: ys, h => by
   have := fdiff_zero (a := xs) (b := ys) (by simpa using h)
   unfold fdiff
   split
   ·rename_i h1
    constructor
    ·intro h; cases h
    ·intro h; cases h; omega
   ·split
    ·constructor
     ·intro h; cases h
     ·intro h; cases h; omega
    ·rw [this]
     have : x = y := by omega
     simp [this]
theorem cmpW_zero {a b : List Int} : cmpW a b = 0 ↔ a = b := by
 unfold cmpW
 split
 ·rename_i h
  constructor
  ·intro h; cases h
  ·rintro rfl; omega
 ·split
  ·constructor
   ·intro h; cases h
   ·rintro rfl; omega
  ·exact fdiff_zero (by omega)
theorem compare_is (na : Bool) (a : List Int) (ca : Cp) (nb : Bool) (b : List Int) (cb : Cp) (hl : a.length < 1000000) : PureIs prog 46 [.sl na (a.map intC) ca, .sl nb (b.map intC) cb] (.sc (.int .i64 (cmpW a b))) := by
 refine PureIs.of (nv := 2) (hid := [4, 5, 10, 15, 19, 30, 39]) func46 rfl (by kernel_rfl) (by simp [ntmps46]) fun _ => ?_
 rw [ntmps46, results46]
 refine EvC.seq (EvC.rg (by simp only [go_sem] <;> rfl) (by simp) ?_)
 refine EvC.seq ?_
 refine EvC.seq (EvC.rg (by simp only [go_sem] <;> rfl) (by simp) ?_)
 refine EvC.cond (by simp only [go_sem] <;> rfl) (fun hc => ?_) (fun hc => ?_)
 ·have hc : a.length < b.length := by have : (a.length : Int) < b.length := by simpa using hc
                                      omega
  refine EvC.seq (EvC.rg (by simp only [go_sem] <;> rfl) (by simp) ?_)
  refine EvC.ret ⟨.inl rfl, _, (by simp only [go_sem] <;> rfl), ?_, rfl⟩
  simp only [go_sem]
  rw [cmpW, if_pos hc]
 have h1 : ¬ a.length < b.length := by have : ¬ (a.length : Int) < b.length := by simpa using hc
                                       omega
 clear hc
 refine EvC.skip ?_
 refine EvC.seq ?_
 refine EvC.seq (EvC.rg (by simp only [go_sem] <;> rfl) (by simp) ?_)
 refine EvC.cond (by simp only [go_sem] <;> rfl) (fun hc => ?_) (fun hc => ?_)
 ·have hc : b.length < a.length := by have : (b.length : Int) < a.length := by simpa using hc
                                      omega
  refine EvC.seq (EvC.rg (by simp only [go_sem] <;> rfl) (by simp) ?_)
  refine EvC.ret ⟨.inl rfl, _, (by simp only [go_sem] <;> rfl), ?_, rfl⟩
  simp only [go_sem]
  rw [cmpW, if_neg h1, if_pos hc]
 have h2 : ¬ b.length < a.length := by have : ¬ (b.length : Int) < a.length := by simpa using hc
                                       omega
 clear hc
 have hw : cmpW a b = fdiff a b := by rw [cmpW, if_neg h1, if_neg h2]
 refine EvC.skip ?_
 refine EvC.seq ?_
 refine EvC.seq (EvC.rg (by simp only [go_sem] <;> rfl) (by simp) ?_)
 refine EvC.block ?_
 refine EvC.loopS (σ := Nat) (fun i => ⟨[(0, .sl na (a.map intC) ca), (1, .sl nb (b.map intC) cb), (5, .sc (.int .i64 i))], [], [], 0⟩) (fun i => a.length - i) (fun i => i ≤ a.length ∧ fdiff a b = fdiff (a.drop i) (b.drop i)) [0, 1, 5] 0 ?_ ?_
 ·refine ⟨[], 0, rfl, (by simp only [go_sem] <;> rfl), Nat.zero_le _, by simp⟩
 rintro i ⟨hi, h3⟩
 refine EvC.seq ?_
 refine EvC.seq (EvC.rg (by simp only [go_sem] <;> rfl) (by simp) ?_)
 refine EvC.cond (by simp only [go_sem] <;> rfl) (fun hc => ?_) (fun hc => ?_)
 rotate_left
 ·refine EvC.exit ?_
  have hi : ¬ i < a.length := by simpa using hc
  refine EvC.seq (EvC.rg (by simp only [go_sem] <;> rfl) (by simp) ?_)
  refine EvC.ret ⟨.inl rfl, _, (by simp only [go_sem] <;> rfl), ?_, rfl⟩
  simp only [go_sem]
  rw [hw, h3, List.drop_of_length_le (by omega)]; rfl
 have hi : i < a.length := by simpa using hc
 have hi2 : i < b.length := by omega
 have ha : a[i]? = some a[i] := List.getElem?_eq_getElem hi
 have hb : b[i]? = some b[i] := List.getElem?_eq_getElem hi2
 have hda : a.drop i = a[i] :: a.drop (i + 1) := List.drop_eq_getElem_cons hi
 have hdb : b.drop i = b[i] :: b.drop (i + 1) := List.drop_eq_getElem_cons hi2
 generalize a[i] = x at ha hda
 generalize b[i] = y at hb hdb
 refine EvC.skip ?_
 refine EvC.seq ?_
 refine EvC.block ?_
 refine EvC.seq ?_
 apply EvC.seq
 apply EvC.drd mixed
 ·simp only [go_sem, ha, hb, intC] <;> rfl
 ·simp
 ·kernel_rfl
 refine EvC.cond (by simp only [go_sem] <;> rfl) (fun hc => ?_) (fun hc => ?_)
 ·have hc : x < y := by simpa using hc
  refine EvC.seq (EvC.rg (by simp only [go_sem] <;> rfl) (by simp) ?_)
  refine EvC.ret ⟨.inl rfl, _, (by simp only [go_sem] <;> rfl), ?_, rfl⟩
  simp only [go_sem]
  rw [hw, h3, hda, hdb, fdiff, if_pos hc]
 have hc1 : ¬ x < y := by simpa using hc
 refine EvC.skip ?_
 apply EvC.seq
 apply EvC.drd mixed
 ·simp only [go_sem, ha, hb, intC] <;> rfl
 ·simp
 ·kernel_rfl
 refine EvC.cond (by simp only [go_sem] <;> rfl) (fun hc => ?_) (fun hc => ?_)
 ·have hc : y < x := by simpa using hc
  refine EvC.seq (EvC.rg (by simp only [go_sem] <;> rfl) (by simp) ?_)
  refine EvC.ret ⟨.inl rfl, _, (by simp only [go_sem] <;> rfl), ?_, rfl⟩
  simp only [go_sem]
  rw [hw, h3, hda, hdb, fdiff, if_neg hc1, if_pos hc]
 have hc2 : ¬ y < x := by simpa using hc
 refine EvC.skip ?_
 refine EvC.rg (by simp only [go_sem] <;> rfl) (by exact inI64_of (by omega) (by omega)) ?_
 refine ⟨[], i + 1, rfl, (by simp only [go_sem] <;> rfl), ⟨by omega, ?_⟩, by omega⟩
 rw [h3, hda, hdb, fdiff, if_neg hc1, if_neg hc2]
theorem same_is (na : Bool) (a : List Int) (ca : Cp) (nb : Bool) (b : List Int) (cb : Cp) (hl : a.length < 1000000) : PureIs prog 19 [.sl na (a.map intC) ca, .sl nb (b.map intC) cb] (.sc (.bool (decide (a = b)))) := by
 refine PureIs.of (nv := 2) (hid := [4]) func19 rfl (by kernel_rfl) (by simp [ntmps19]) fun _ => ?_
 rw [ntmps19, results19]
 refine EvC.seq (EvC.rg (by simp only [go_sem] <;> rfl) (by simp) ?_)
 apply EvC.seq
 apply EvC.tr
 ·apply Tr.run
  ·simp only [go_sem] <;> rfl
  ·simp
  apply Tr.cons
  ·exact .call rfl rfl (by simp only [go_sem] <;> rfl) (by simp only [go_sem] <;> rfl) (by simp only [go_sem] <;> rfl) (by simp only [go_sem] <;> rfl) (by simp only [go_sem] <;> rfl) (compare_is na a ca nb b cb hl)
  apply Tr.done
  ·simp only [go_sem] <;> rfl
  ·simp
 refine EvC.ret ⟨.inl rfl, _, (by simp only [go_sem] <;> rfl), ?_, rfl⟩
 simp only [go_sem]
 simp [cmpW_zero]
end Go.Avl
namespace Go.Avl
open Go Go.Proofs.Try
set_option maxRecDepth 10000
set_option linter.unusedSimpArgs false
def u8C (x : Int) : List AV := [.sc (.int .u8 x)]
@[go_sem] theorem norefs_u8 (l : List Int) : (l.map u8C).all AV.norefs = true := by simp [List.all_eq_true, u8C, AV.norefs, AV.noref]
def wbR (x : Bool × List Int) : List AV := [.sl x.1 (x.2.map u8C) .unk]
end Go.Avl
