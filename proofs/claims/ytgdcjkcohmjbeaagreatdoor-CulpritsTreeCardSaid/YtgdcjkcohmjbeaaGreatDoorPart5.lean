/-
  Functions whose result is a new slice that nobody else has: it may go on being written.
  A call that cuts the room behind a slice of an object of the caller's.
  Regions that draw their order: operations that wait for each other through others.
  A call whose result is an empty slice without room, as an object.
  Nil slices, read as such; calls whose result is a view of a new object.
  One row of an array of rows, read otherwise.
  Nothing appended to a slice without room: that slice.
  Ranging over a map that the loop does not write: in whatever order the entries come.
  A slot, read with nothing known of capacities.
  Calls of functions that follow and change a list of numbers in an object: what they leave, in whatever memory they are called.
  Calls by body in a part of the memory: the other objects stay as they are.
  Slices in boxes, their capacity forgotten; whole ones as views.
  Many objects at once: those with the numbers from 2000000 on (less than 1000000 of them). Tables whose rows are such objects.
  Calls that lend objects, and whose result is a new object of plain values.
  A slot that holds a whole object, as a view of it from its front.
  A call that freezes an object lent to it: its result may be that object.
  A range over an iterator inside an iterator.
  In an iterator: regions with calls and guards ahead of yield and behind it.
  Iterators that hand on a list of numbers which they write again: it is held still for the round alone.
  The same, where the round leaves objects of its own to the next one.
  The test by slots, where operations wait through others.
  The rules once more, with what is shown the same way each time as defaults.
  Regions with calls, with what is shown the same way each time as defaults.
  Facts of the types, printed by a program of this claim's own.
  Lemmas.
-/
import Derived.Laws.IdiomRangeMap
import Derived.KernelRfl
import Derived.Test.YtgdcjkcohmjbeaaGreatDoorProg
import Derived.Test.YtgdcjkcohmjbeaaGreatDoorPart4
set_option linter.unusedSimpArgs false
set_option linter.unusedVariables false
set_option linter.unnecessarySimpa false
set_option linter.deprecated false
namespace Go.Avl
open Go
def newRes (F : Nat → Nat → Prop) (w : World) (esz : Nat) (es : List (List AV)) (e : Ending) (w' : World) : Prop :=
 ∃ (b c : Nat) (cc : Array Value) (elem : TypeId) (F' : Nat → Nat → Prop), e = .returned (.slice (some ⟨b, 0, none⟩) es.length c) ∧ c ≠ 0 ∧ w.heap.size ≤ b ∧ w'.heap[b]? = some (.cells cc elem (0, 0)) ∧ es.length ≤ c ∧ cc.size = c * esz ∧
   (∀ i (h : i < es.length), es[i].length = esz) ∧ (∀ i j (h : i < es.length) (h' : j < es[i].length), ∃ v, cc[i * esz + j]? = some v ∧ v.oneCell' = true ∧ Imm F' w' v es[i][j]) ∧ (∀ o, ¬ F' b o) ∧ Grown F w F' w'
def PureNew (P : Program) (f : FuncId) (args : List AV) (esz : Nat) (es : List (List AV)) : Prop :=
 callable P f ∧ ∀ F w vals, FOk F w → Imms F w vals args → CallsIn Fence.wide 0 P f vals.toArray w fun e w' => newRes F w esz es e w'
def retN (P : Program) (fr : Fr) (results : List ResultVar) (esz : Nat) (es : List (List AV)) (e : Exit) (st : St) : Prop :=
 (e = .ret ∨ e = .normal) ∧ ∃ (r0 : AV) (i : Nat), resAllR P fr st results = some [r0] ∧ (r0 = .tl i es.length false ∨ r0 = .tv i es.length 0 es.length .rest) ∧ mlook st.mem i = some (.arr esz es false) ∧ es.length ≠ 0 ∧ es.all AV.norefs = true
section
variable {P : Program} {fr : Fr} {ro : Option Nat} {ds : DS} {st st' : St} {Q Q' : Exit → St → Prop} {G G' : Nat → Option Value} {F F' : Nat → Nat → Prop} {a : Act} {w w' : World} {M M' : Mem}
 {ops : Array Oper} {l rest : List Oper} {o : Oper} {N id : Nat} {rd gs : List Nat}
theorem PureNew.of {c : Code} {f : FuncId} {fn : Func} {args : List AV} {esz : Nat} {es : List (List AV)} {nv : Nat} {hid : List Nat} (hf : P.funcs[f]? = some fn) (hb : fn.body = some c) (hnm : (fn.name == "runtime.NumGoroutine") = false) (hsz : args.length ≤ fn.ntmps)
  (h : ∀ h0 : Nat, EvC P ⟨0, nv, hid, fn.ntmps⟩ none ⟨h0, none, false⟩ c (st0 args) (retN P ⟨0, nv, hid, fn.ntmps⟩ fn.results.toList esz es)) : PureNew P f args esz es := by
 refine ⟨callable_of hf hnm (by rw [hb]; rfl), fun F w vals hF hi => ?_⟩;obtain ⟨hl, hi⟩ := hi;have s0 : SimA P ⟨0, nv, hid, fn.ntmps⟩ ⟨w.heap.size, none, false⟩ (fun _ => none) F (st0 args) { tmps := vals.toArray ++ Array.replicate (fn.ntmps - vals.toArray.size) undef, defers := [] } w := by
  refine ⟨⟨⟨fun id o h => (by cases h), fun id id' v v' b h => absurd rfl h, hF.1, hF.2⟩, fun k => ?_, by simp; omega⟩, fun _ _ => rfl, Marks.none _ _ _ (Nat.le_refl _)⟩;have key : ∀ x, (x = .junk ∨ ∃ h : k < args.length, x = args[k]) → RV (fun _ => none) F (st0 args).mem w ((vals.toArray ++ Array.replicate (fn.ntmps - vals.toArray.size) undef).getD k undef) x := by
   rintro x (rfl | ⟨hk, rfl⟩)
   ·exact .imm (.junk _)
   ·have : (vals.toArray ++ Array.replicate (fn.ntmps - vals.toArray.size) undef).getD k undef = vals[k]'(by omega) := by
      rw [Array.getD_eq_getD_getElem?, Array.getElem?_append_left (by simp; omega)];simp [List.getElem?_eq_getElem (show k < vals.length by omega)]
    rw [this];exact .imm (hi k (by omega) hk)
  refine key _ ?_;unfold St.get;split
  ·rcases alook_vars0 args 0 k with h | ⟨h1, h2, h3⟩
   ·exact .inl h
   ·exact .inr ⟨by simpa using h1, by simpa [st0] using h3⟩
  ·exact .inl rfl
 refine callsIn_of_wp_marks (F := Fence.wide) hf hb trivial (wpIn_mono (h _ _ _ _ _ _ _ _ _ .refl s0) ?_);rintro e a' w' ⟨G', F', st', s', S', he, r0, i, hrs, hr0, ho, hne, hnr⟩;have hown : ∀ b, Owned G' st'.mem b → w.heap.size ≤ b := fun b hb => (S'.own b hb).elim id fun ⟨_, _, _, h, _⟩ => by cases h
 have g : ∀ w2 : World, w.heap.size ≤ w2.heap.size → (∀ b, b < w.heap.size → w2.heap[b]? = w.heap[b]?) → Kept w w2 → (∀ b o, F' b o → b < w2.heap.size) → Grown F w F' w2 := fun w2 h1 h2 h3 h4 =>
  ⟨h1, h2, S'.F1, fun b o h => by
   rcases S'.F3 b o h with h | h | ⟨_, _, _, h, _⟩
   ·exact .inl h
   ·exact .inr h
   ·exact (by cases h), h4, h3⟩
 have hfin : ∀ (Ds : List Nat) (w2 : World), Ds.Nodup → (∀ D ∈ Ds, w.heap.size ≤ D ∧ w2.heap[D]? = some (.deferred (some []))) → w.heap.size ≤ w2.heap.size → (∀ b, b < w.heap.size → w2.heap[b]? = w.heap[b]?) → Kept w w2 →
   SimA P ⟨0, nv, hid, fn.ntmps⟩ ⟨w.heap.size, none, false⟩ G' F' st' { a' with defers := [] } w2 →
   LeavesInM Fence.wide 0 P fn a'.tmps (fun e w' => newRes F w esz es e w') (Ds.map dmark) .returning w2 := by
  intro Ds
  induction Ds with
  | nil =>
    intro w2 _ _ h1 h2 h3 s2;obtain ⟨u, k1, k2⟩ := resultsR_ok s2 hrs;have hu : u = u := rfl;refine ⟨u, k1, ?_⟩;have k2 : RV G' F' st'.mem w2 u r0 := k2;have hv : G' i = some u ∧ isNilSlice u = false := by
     rcases hr0 with rfl | rfl
     ·obtain ⟨_, hh⟩ := k2.inv_tl;obtain ⟨q1, q2⟩ := (hh _ _ _ ho).2 rfl;exact ⟨q1, q2.symm⟩
     ·obtain ⟨_, hh⟩ := k2.inv_tv;obtain ⟨_, b, c, hG, hc0, c', hval, _, hcp⟩ := (hh _ _ _ ho).2 rfl;subst hval;have hc0 : c ≠ 0 := hc0.resolve_right fun h => hne h.1;rcases hcp with h | h | ⟨h, _⟩
      ·cases h
      ·cases h
      ·have : c' = c := by omega
       subst this;exact ⟨by rw [hG, Nat.zero_mul], rfl⟩
    obtain ⟨hGi, _⟩ := hv;rcases (s2.sim.mem.obj i _ ho).2 with ⟨h0, _⟩ | ⟨b, c, cc, el, q1, q2, q3, q4, q5, q6, q7, q8, _⟩
    ·subst h0; exact absurd rfl hne
    ·rw [hGi] at q1;cases q1;refine ⟨b, c, cc, el, F', rfl, q2, hown b ⟨i, _, _, ho, hGi, by simp [blkOf, q2]⟩, q3, q4, q5, q6, fun k j hk hj => ?_, fun o hF => (by cases (q8 o hF).1), g w2 h1 h2 h3 s2.sim.mem.inF⟩;obtain ⟨v, hv, h1c, hr⟩ := q7 k j hk hj;exact ⟨v, hv, h1c, hr.imm_of (all_norefs hnr k j hk hj)⟩
  | cons D Ds ih =>
    intro w2 hnd hD h1 h2 h3 s2;obtain ⟨d1, d2⟩ := hD D List.mem_cons_self;have hnd := List.nodup_cons.1 hnd;have hk : ∀ (b : Nat) (o : Obj), w2.heap[b]? = some o → isData o = true → (w2.putObj D (.deferred none)).heap[b]? = some o := fun b o hb ho => by
     rw [World.putObj_heap_other (by rintro rfl; rw [d2] at hb; cases hb; cases ho)]; exact hb
    refine ⟨(by intro h; cases h), .inl ⟨D, _, rfl, run_takeDeferred d2, ih _ hnd.2 (fun D' hD' => ?_) (by rw [World.putObj_size]; exact h1) (fun b hb => ?_) (h3.trans (.set d2 rfl rfl)) ?_⟩⟩
    ·refine ⟨(hD D' (List.mem_cons_of_mem _ hD')).1, ?_⟩;rw [World.putObj_heap_other (by rintro rfl; exact hnd.1 hD')]; exact (hD D' (List.mem_cons_of_mem _ hD')).2
    ·rw [World.putObj_heap_other (by omega)]; exact h2 b hb
    ·exact ⟨⟨s2.sim.mem.keepData hk (by rw [World.putObj_size]; exact Nat.le_refl _), fun k => (s2.sim.slots k).keepData hk, s2.sim.size⟩, s2.fresh, Marks.none _ _ _ (by rw [World.putObj_size]; exact h1)⟩
 obtain ⟨⟨Ds, hDs, hnd, hD⟩, _⟩ := s'.defers;have := hfin Ds w' hnd hD S'.size (fun b hb => S'.out b hb (fun ⟨_, _, _, h, _⟩ => by cases h)) S'.kept ⟨⟨s'.sim.mem, s'.sim.slots, s'.sim.size⟩, s'.fresh, Marks.none _ _ _ S'.size⟩;rw [← hDs] at this;rcases he with rfl | rfl
 ·exact this
 ·exact this
theorem simM_grownNew {nx b : Nat} (hm : SimM P G F M nx w) (g : Grown F w F' w') (hid : G id = none) (hn : id < nx) (h : Value) (ob : RObj) (hb : blkOf h = some b) (hb1 : w.heap.size ≤ b)
  (S' : Step All G F M w (upG G id h) F' ((id, ob) :: M) w' → ObjOk P (upG G id h) F' ((id, ob) :: M) w' id ob) :
  SimM P (upG G id h) F' ((id, ob) :: M) nx w' ∧ Step All G F M w (upG G id h) F' ((id, ob) :: M) w' := by
 have hne : ∀ j, G j ≠ none → j ≠ id := fun j hj e => hj (e ▸ hid);have S : Step All G F M w (upG G id h) F' ((id, ob) :: M) w' :=
  { kept := g.kept
    size := g.size
    out := fun b hb _ => g.old b hb
    F1 := g.F1
    F2 := fun b o' hF => cell?_same (g.old b (hm.inF b o' hF)) o'
    F3 := fun b o h => (g.F3 b o h).imp (fun h => h) fun h => .inl h
    own := fun b1 ⟨j, o', v, ho, hv, hbv⟩ => by
     by_cases e : j = id
     ·subst e;rw [upG_self] at hv; cases hv;rw [hb] at hbv; cases hbv;exact .inl hb1
     ·rw [mlook_cons, if_neg e] at ho;rw [upG_other G h e] at hv;exact .inr ⟨j, o', v, ho, hv, hbv⟩
    some' := fun j _ hj => by rw [upG_other G h (hne j hj)]; exact hj
    same := fun j v _ hj _ => by rw [upG_other G h (hne j (by simp [hj]))]; exact hj
    keep := fun j o' _ hj ho => by
     have e := hne j hj;rw [mlook_cons, if_neg e] at ho;cases hv : G j with
     | none => exact absurd hv hj
     | some v => exact ⟨o', v, v, ho, rfl, by rw [upG_other G h e]; exact hv, objKeep.refl v o'⟩ }
 refine ⟨simM_gen hm S (fun j o' ho => ?_) (fun i j v v' b1 hi hj hv hv' hbv hbv' => ?_) g.inF, S⟩
 ·by_cases e : j = id
  ·subst e;rw [mlook_cons, if_pos rfl] at ho; cases ho;exact ⟨hn, .inl (S' S)⟩
  ·rw [mlook_cons, if_neg e] at ho;refine ⟨(hm.obj j o' ho).1, .inr ⟨ho, upG_other G h e, fun b1 v hv hbv => ?_⟩⟩;have hlt : b1 < w.heap.size := hm.lt ⟨j, o', v, ho, hv, hbv⟩;exact ⟨g.old b1 hlt, fun o h => by rcases g.F3 b1 o h with h | h; exact h; omega⟩
 ·have old : ∀ j v, j ≠ id → mlook ((id, ob) :: M) j ≠ none → upG G id h j = some v → mlook M j ≠ none ∧ G j = some v := fun j v e h1 h2 =>
    ⟨by rwa [mlook_cons, if_neg e] at h1, by rwa [upG_other G h e] at h2⟩
  have lt : ∀ j v, mlook M j ≠ none → G j = some v → blkOf v = some b1 → b1 < w.heap.size := fun j v h1 h2 h3 => by
   cases ho : mlook M j with
   | none => exact absurd ho h1
   | some o' => exact hm.lt ⟨j, o', v, ho, h2, h3⟩
  by_cases ei : i = id
  ·by_cases ej : j = id
   ·rw [ei, ej]
   ·subst ei;rw [upG_self] at hv; cases hv;obtain ⟨h1, h2⟩ := old j v' ej hj hv';have := lt j v' h1 h2 hbv';rw [hb] at hbv; cases hbv;omega
  ·by_cases ej : j = id
   ·subst ej;rw [upG_self] at hv'; cases hv';obtain ⟨h1, h2⟩ := old i v ei hi hv;have := lt i v h1 h2 hbv;rw [hb] at hbv'; cases hbv';omega
   ·obtain ⟨h1, h2⟩ := old i v ei hi hv;obtain ⟨h3, h4⟩ := old j v' ej hj hv';exact hm.inj i j v v' b1 h1 h3 h2 h4 hbv hbv'
theorem SimD.callN {f : FuncId} {cs : List AV} {callee : Operand} {args : Array Operand} {tys : Array TypeId} {xs : List AV} {esz : Nat} {es : List (List AV)} {K : Act → World → Prop} {Q1 : Exit → Act → World → Prop}
  (s : SimD P fr ds G F st N a w) (hN : id < N) (hid : G id = none) (hop : o.op = .call ⟨.value callee, args, tys⟩) (hd : dok fr o.dst = true) (hcal : od fr st true callee = .fn f cs)
  (hxs : callArgs fr st args ++ cs = xs) (hn : AV.norefs xs = true) (hc : PureNew P f xs esz es)
  (h : ∀ G' F' a' w', SimD P fr ds G' F' (run1 fr o.dst ⟨.tl id es.length false, some (id, .arr esz es false)⟩ st) N a' w' → Step All G F st.mem w G' F' (run1 fr o.dst ⟨.tl id es.length false, some (id, .arr esz es false)⟩ st).mem w' → (∀ j, j ≠ id → G j = none → G' j = none) → K a' w') : o.wpIn (fc ro) 0 P a w K Q1 := by
 refine ⟨fun _ _ => trivial, ?_⟩;rw [Oper.semAt_eq _ _ _ (by rw [hop]; intro c h; cases h)];have hv := (s.eval callee).unopt;have hv : RV G F st.mem w (a.eval callee) (.fn f cs) := by unfold od at hcal; rwa [hcal] at hv
 obtain ⟨vs, hev, hl, hcs⟩ := hv.inv_fn;have hrun : (execOp a.eval o).run P w = .ok (.enter f ((args.toList.map a.eval ++ vs).toArray)) w := by
  obtain ⟨dst, op, ty, pos, after, guard⟩ := o;simp only at hop;subst hop;simp only [execOp, resolve, hev, Deferred.ofValue, Sem.run_bind, Sem.run_pure, Result.andThen_ok, invoke];rw [hc.1];congr 2;apply Array.ext';simp
 rw [hrun];have hi : Imms F w (args.toList.map a.eval ++ vs) xs := by
  subst hxs;refine .of_rv (G := G) (M := st.mem) (by simp [callArgs, hl]) (fun i h1 h2 => ?_) hn;by_cases hlt : i < args.toList.length
  ·rw [List.getElem_append_left (by simpa using hlt), List.getElem_append_left (by simpa [callArgs] using hlt)];simp only [callArgs, List.getElem_map];exact ((s.eval _).unopt).snap s.mem
  ·rw [List.getElem_append_right (by simpa using hlt), List.getElem_append_right (by simpa [callArgs] using hlt)];simp only [List.length_map, callArgs];exact hcs _ _ _
 refine ⟨fun h => by simp [fc, Fence.wide] at h, callsIn_fc ((hc.2 F w _ s.mem.fok hi).mono ?_)⟩;rintro e w' ⟨b, c, cc, el, F', rfl, q2, qb, q3, q4, q5, q6, q7, q8, g⟩;obtain ⟨hm', S'⟩ := simM_grownNew (id := id) s.mem g hid hN (.slice (some ⟨b, 0, none⟩) es.length c) (.arr esz es false) (by simp [blkOf, q2]) qb fun S =>
  .inr ⟨b, c, cc, el, upG_self _ _ _, q2, q3, q4, q5, q6, fun i j hi hj => by
   obtain ⟨v, k1, k2, k3⟩ := q7 i j hi hj;exact ⟨v, k1, k2, .imm k3⟩, fun o hF => absurd hF (q8 o), fun hz => by cases hz⟩
 have hmid : mlook st.mem id = none := s.mem.noM hid;obtain ⟨s1, S1⟩ := s.put (d := o.dst) (r := ⟨.tl id es.length false, some (id, .arr esz es false)⟩) (u := .slice (some ⟨b, 0, none⟩) es.length c) hm' (fun i => by
  simp only [Rc.mem];rw [mlook_mset, mlook_cons]) S' hd (.tl id es.length false _ (by rw [upG_self]; simp) fun esz' es' fz' ho => by
   rw [mlook_cons, if_pos rfl] at ho; cases ho;exact ⟨Nat.le_refl _, fun _ => ⟨upG_self _ _ _, rfl⟩⟩)
 exact h _ _ _ w' s1 S1 fun j hj hG => by rw [upG_other G _ hj]; exact hG
theorem OpIs.callN {f : FuncId} {cs : List AV} {callee : Operand} {args : Array Operand} {tys : Array TypeId} {xs : List AV} {esz : Nat} {es : List (List AV)} (hg : o.guard = none) (hop : o.op = .call ⟨.value callee, args, tys⟩) (hd : dok fr o.dst = true)
  (hcal : od fr st true callee = .fn f cs) (hxs : callArgs fr st args ++ cs = xs) (hn : AV.norefs xs = true) (hrd : rdOf fr st [] o = rd) (hc : PureNew P f xs esz es) : OpIs P fr ro ds ops id st ⟨o, ⟨.tl id es.length false, some (id, .arr esz es false)⟩, rd⟩ := by
 intro st' G F a w N K Q1 s hN hG hl h;simp only [Region.wanted, hg, if_true];obtain ⟨e1, e2⟩ := callArgs_look (gs := []) (by rw [hrd]; exact hl) hop;exact s.callN hN hG hop hd (by rw [e1]; exact hcal) (by rw [e2]; exact hxs) hn hc h
end
section
variable {P : Program} {fr : Fr} {ro : Option Nat} {ds : DS} {st st' : St} {Q Q' : Exit → St → Prop} {G G' : Nat → Option Value} {F F' : Nat → Nat → Prop} {a : Act} {w w' : World} {M M' : Mem}
 {ops : Array Oper} {l rest : List Oper} {o : Oper} {N id : Nat} {rd gs : List Nat}
def Clips (P : Program) (f : FuncId) : Prop := ∀ (a : Addr) (n c : Nat), n ≤ c → (n : Int) < 1000000 → PureIs P f [.sc (.slice (some a) n c)] (.sc (.slice (some a) n n))
theorem OpIs.clip {f : FuncId} {callee x : Operand} {tys : Array TypeId} {i n esz : Nat} {nl fz : Bool} {es : List (List AV)} (hg : o.guard = none) (hop : o.op = .call ⟨.value callee, #[x], tys⟩) (hd : dok fr o.dst = true)
  (hcal : od fr st true callee = .fn f []) (hx : od fr st true x = .tl i n nl) (ho : mlook st.mem i = some (.arr esz es fz)) (hn : n = es.length) (h0 : n ≠ 0) (hlt : (n : Int) < 1000000) (hrd : rdOf fr st [] o = rd) (hc : Clips P f) :
  OpIs P fr ro ds ops id st ⟨o, ⟨.tv i n 0 n (.val n), none⟩, rd⟩ := by
 intro st' G F a w N K Q1 s hN hG hl h;simp only [Region.wanted, hg, if_true];have hs := opSame_look (gs := []) (by rw [hrd]; exact hl) (by rw [hop]; rfl) (by rw [hop]; rfl);rw [hop] at hs;have e1 : od fr st' true callee = .fn f [] := by rw [(hs.od (x := callee) (by simp [Op.operands, Call.operands]) true).1, hcal]
 obtain ⟨e2, e3⟩ := hs.od (x := x) (by simp [Op.operands, Call.operands]) true;have e4 : mlook st'.mem i = some (.arr esz es fz) := by rw [e3 i (by rw [hx]; simp [AV.ids])]; exact ho
 rw [hx] at e2;refine ⟨fun _ _ => trivial, ?_⟩;rw [Oper.semAt_eq _ _ _ (by rw [hop]; intro c h; cases h)];have hv := (s.eval callee).unopt;have hv : RV G F st'.mem w (a.eval callee) (.fn f []) := by unfold od at e1; rwa [e1] at hv
 obtain ⟨vs, hev, hl2, _⟩ := hv.inv_fn
 have hvs : vs = [] := by cases vs with
  | nil => rfl
  | cons a l => simp at hl2
 subst hvs;have hxv := (s.eval x).unopt;have hxv : RV G F st'.mem w (a.eval x) (.tl i n nl) := by unfold od at e2; rwa [e2] at hxv
 obtain ⟨hGi, hnl, va, vc, hval, hcase⟩ := tl_handle s.mem hxv e4 hn;rcases hcase with ⟨h1, _⟩ | ⟨b, cc, el, rfl, k2, k3, k4, _⟩
 ·subst h1; exact absurd hn h0
 have hrun : (execOp a.eval o).run P w = .ok (.enter f #[a.eval x]) w := by
  obtain ⟨dst, op, ty, pos, after, guard⟩ := o;simp only at hop;subst hop;simp only [execOp, resolve, hev, Deferred.ofValue, Sem.run_bind, Sem.run_pure, Result.andThen_ok, invoke];rw [(hc ⟨b, 0, none⟩ n vc (by omega) hlt).1];congr 2
  all_goals (apply Array.ext'; simp)
 rw [hrun];rw [← hn] at hval;have hi : Imms F w [a.eval x] [.sc (.slice (some ⟨b, 0, none⟩) n vc)] := ⟨rfl, fun j h1 h2 => by
  have : j = 0 := by simp at h1; omega
  subst this;simp only [List.getElem_cons_zero];rw [hval, hn]; exact .sc _⟩
 refine ⟨fun h => by simp [fc, Fence.wide] at h, callsIn_fc (((hc ⟨b, 0, none⟩ n vc (by omega) hlt).2 F w _ s.mem.fok hi).mono ?_)⟩;rintro e w' ⟨u, F', rfl, hu, g⟩;obtain ⟨hm', S'⟩ := simM_grown s.mem g;have hu' : u = .slice (some ⟨b, 0, none⟩) n n := by cases hu; rfl
 subst hu';obtain ⟨s1, S1⟩ := s.put (d := o.dst) (r := ⟨.tv i n 0 n (.val n), none⟩) (u := .slice (some ⟨b, 0, none⟩) n n) hm' (fun _ => rfl) S' hd (.tv i n 0 n _ _ (by rw [hGi]; simp) fun esz' es' fz' ho' => by
  rw [e4] at ho'; cases ho';exact ⟨by omega, fun _ => ⟨by omega, b, vc, by rw [hGi, hval, hn], .inl k2, n, by rw [Nat.zero_mul], Nat.le_refl _, .inr (.inl rfl)⟩⟩)
 exact h G F' _ w' s1 S1 (fun _ _ h => h)
end
inductive Anc (l : List It) : Nat → Nat → Prop
 | base {i m : Nat} {t : It} (h : l[i]? = some t) (hm : m ∈ depsOf t.o) : Anc l i m
 | step {i e m : Nat} {t : It} (h : l[i]? = some t) (he : e ∈ depsOf t.o) (h2 : Anc l e m) : Anc l i m
def ancB (l : List It) : Nat → Nat → Nat → Bool
 | 0, _, _ => false
 | k + 1, i, m => match l[i]? with
   | none => false
   | some t => (depsOf t.o).contains m || (depsOf t.o).any fun e => ancB l k e m
theorem ancB_spec {l : List It} : ∀ {k i m : Nat}, ancB l k i m = true → Anc l i m
 | 0, _, _, h => by cases h
 | k + 1, i, m, h => by
   simp only [ancB] at h;split at h
   ·cases h
   ·rename_i t ht;rw [Bool.or_eq_true] at h;rcases h with h | h
    ·exact .base ht (by simpa using h)
    ·rw [List.any_eq_true] at h;obtain ⟨e, he, h⟩ := h;exact .step ht he (ancB_spec h)
structure ConfA (l : List It) : Prop where
 back : ∀ i t, l[i]? = some t → ∀ e ∈ depsOf t.o, e < i
 edge : ∀ i m t u, l[i]? = some t → l[m]? = some u → i ≠ m → ∀ x, (x ∈ t.rd ∨ x ∈ wl t.o.dst t.r) → x ∈ wl u.o.dst u.r → Anc l i m ∨ Anc l m i
theorem ConfA.lt {l : List It} (hc : ConfA l) {i m : Nat} (h : Anc l i m) : m < i := by
 induction h with
 | base h hm => exact hc.back _ _ h _ hm
 | step h he _ ih => have := hc.back _ _ h _ he; omega
theorem Anc.closed {l : List It} {p : Nat → Bool} (hcl : ∀ i t, l[i]? = some t → p i = true → ∀ e ∈ depsOf t.o, p e = true) {i m : Nat} (h : Anc l i m) (hi : p i = true) : p m = true := by
 induction h with
 | base h hm => exact hcl _ _ h hi _ hm
 | step h he _ ih => exact ih (hcl _ _ h hi _ he)
theorem Anc.ready {l : List It} {p : Nat → Bool} (hcl : ∀ i t, l[i]? = some t → p i = true → ∀ e ∈ depsOf t.o, p e = true) {i m : Nat} {t : It} (h : Anc l i m) (ht : l[i]? = some t) (hd : ∀ e ∈ depsOf t.o, p e = true) : p m = true := by
 cases h with
 | base h hm => rw [ht] at h; cases h; exact hd _ hm
 | step h he h2 => rw [ht] at h; cases h; exact h2.closed hcl (hd _ he)
def confOneA (all : List It) (i : Nat) (t : It) : Nat → List It → Bool
 | _, [] => true
 | m, u :: l => (i == m || !((t.rd ++ wl t.o.dst t.r).any fun x => (wl u.o.dst u.r).contains x) || ancB all 4 i m || ancB all 4 m i) && confOneA all i t (m + 1) l
def confAllA (all : List It) : Nat → List It → Bool
 | _, [] => true
 | i, t :: l => (depsOf t.o).all (fun e => decide (e < i)) && confOneA all i t 0 all && confAllA all (i + 1) l
section
variable {P : Program} {fr : Fr} {ro : Option Nat} {ds : DS} {st st' : St} {Q : Exit → St → Prop} {G G' : Nat → Option Value} {F F' : Nat → Nat → Prop} {a : Act} {w w' : World}
 {M M' : Mem} {ops : Array Oper} {o : Oper} {id N : Nat} {S S' : Nat → Bool} {d : Option Nat} {r : Rc} {x y : Nat} {l : List It}
theorem confOneA_spec {all : List It} {i : Nat} {t : It} : ∀ (l : List It) (m0 : Nat), confOneA all i t m0 l = true → ∀ m u, l[m]? = some u → i ≠ m0 + m → ∀ x, (x ∈ t.rd ∨ x ∈ wl t.o.dst t.r) → x ∈ wl u.o.dst u.r → Anc all i (m0 + m) ∨ Anc all (m0 + m) i := by
 intro l
 induction l with
 | nil => intro m0 _ m u hm; simp at hm
 | cons u0 l ih =>
   intro m0 h m u hm hne x hx hu;simp only [confOneA, Bool.and_eq_true] at h;cases m with
   | zero =>
     have e : u0 = u := by simpa using hm
     subst e;have h1 := h.1;simp only [Bool.or_eq_true, beq_iff_eq, Bool.not_eq_true'] at h1;rcases h1 with ((h1 | h1) | h1) | h1
     ·exact absurd h1 (by simpa using hne)
     ·rw [List.any_eq_false] at h1;exact absurd (by simpa using hu) (h1 x (List.mem_append.2 hx))
     ·exact .inl (ancB_spec h1)
     ·exact .inr (ancB_spec h1)
   | succ m =>
     have := ih (m0 + 1) h.2 m u (by simpa using hm) (by omega) x hx hu
     rwa [show m0 + 1 + m = m0 + (m + 1) by omega] at this
theorem confAllA_spec {all : List It} : ∀ (l : List It) (i0 : Nat), confAllA all i0 l = true → ∀ i t, l[i]? = some t → (∀ e ∈ depsOf t.o, e < i0 + i) ∧ confOneA all (i0 + i) t 0 all = true := by
 intro l
 induction l with
 | nil => intro i0 _ i t ht; simp at ht
 | cons t0 l ih =>
   intro i0 h i t ht;simp only [confAllA, Bool.and_eq_true, List.all_eq_true, decide_eq_true_eq] at h;cases i with
   | zero =>
     have e : t0 = t := by simpa using ht
     subst e;exact ⟨h.1.1, h.1.2⟩
   | succ i =>
     have := ih (i0 + 1) h.2 i t (by simpa using ht)
     rwa [show i0 + 1 + i = i0 + (i + 1) by omega] at this
theorem ConfA.of (h : confAllA l 0 l = true) : ConfA l where
 back := fun i t ht => by simpa using (confAllA_spec l 0 h i t ht).1
 edge := fun i m t u ht hu hne x hx hxu => by
  have := confOneA_spec l 0 (by simpa using (confAllA_spec l 0 h i t ht).2) m u hu (by simpa using hne) x hx hxu;simpa using this
theorem drawAnyA {nx : Nat} {l : List It} {st : St} {G0 : Nat → Option Value} {F0 : Nat → Nat → Prop} {M0 : Mem} {w0 : World} (hops : ∀ i : Nat, (ops[i]? : Option Oper) = (l[i]?).map fun t => t.o) (hn : ops.size = l.length) (hc : ConfA l)
  (his : ∀ i t, l[i]? = some t → OpIs P fr ro ds ops (nx + i) (foldS fr (fun j => decide (j < i)) 0 l st) t)
  (hQ : ∀ G F a w, SimD P fr ds G F (foldS fr (fun _ => true) 0 l st) (nx + l.length) a w → (∀ j, nx + l.length ≤ j → G j = none) → Step (· < fr.base) G0 F0 M0 w0 G F (foldS fr (fun _ => true) 0 l st).mem w → Post P fr ds G0 F0 M0 w0 Q .normal a w) :
  ∀ (fuel : Nat) (listed : Array Bool) (G : Nat → Option Value) (F : Nat → Nat → Prop) (a : Act) (w : World), listed.size = l.length →
    SimD P fr ds G F (foldS fr (inS listed) 0 l st) (nx + l.length) a w → Step (· < fr.base) G0 F0 M0 w0 G F (foldS fr (inS listed) 0 l st).mem w →
    (∀ j, nx ≤ j → (∀ i, i < l.length → inS listed i = true → j ≠ nx + i) → G j = none) →
    (∀ i t, l[i]? = some t → inS listed i = true → ∀ e ∈ depsOf t.o, inS listed e = true) →
    (List.range l.length).countP (fun i => !inS listed i) ≤ fuel →
    wpAnyIn (fc ro) 0 P .any ops (Post P fr ds G0 F0 M0 w0 Q) fuel listed a w := by
 have allDone : ∀ (listed : Array Bool) (G : Nat → Option Value) (F : Nat → Nat → Prop) (a : Act) (w : World), SimD P fr ds G F (foldS fr (inS listed) 0 l st) (nx + l.length) a w → Step (· < fr.base) G0 F0 M0 w0 G F (foldS fr (inS listed) 0 l st).mem w →
   (∀ j, nx ≤ j → (∀ i, i < l.length → inS listed i = true → j ≠ nx + i) → G j = none) → (∀ i, i < l.length → inS listed i = true) → Post P fr ds G0 F0 M0 w0 Q .normal a w := by
  intro listed G F a w s S hfr hall;have e : foldS fr (inS listed) 0 l st = foldS fr (fun _ => true) 0 l st := foldS_congr fun m hm => by rw [Nat.zero_add]; exact hall m hm
  rw [e] at s S;exact hQ G F a w s (fun j hj => hfr j (by omega) fun i hi _ => by omega) S
 have readyOf : ∀ (listed : Array Bool), listed.size = l.length → ∀ i, i ∈ Region.ready .any ops listed ↔ inS listed i = false ∧ ∃ t, l[i]? = some t ∧ ∀ e ∈ depsOf t.o, inS listed e = true := by
  intro listed hsz i;rw [mem_ready];constructor
  ·rintro ⟨h1, o, ho, h2⟩;rw [hops] at ho;obtain ⟨t, ht, rfl⟩ := Option.map_eq_some_iff.1 ho;have hi : i < l.length := (List.getElem?_eq_some_iff.1 ht).1;refine ⟨?_, t, ht, fun e he => ?_⟩
   ·unfold inS;rw [Array.getD_eq_getD_getElem?] at h1 ⊢;rw [Array.getElem?_eq_getElem (by omega)] at h1 ⊢;exact h1
   ·simp only [depsOf, List.mem_map, List.mem_filter] at he;obtain ⟨e', ⟨he1, he2⟩, rfl⟩ := he;exact h2 e' (by simpa using he1) he2
  ·rintro ⟨h1, t, ht, h2⟩;have hi : i < l.length := (List.getElem?_eq_some_iff.1 ht).1;refine ⟨?_, t.o, by rw [hops, ht]; rfl, fun e he hb => h2 e.on ?_⟩
   ·unfold inS at h1;rw [Array.getD_eq_getD_getElem?] at h1 ⊢;rw [Array.getElem?_eq_getElem (by omega)] at h1 ⊢;exact h1
   ·simp only [depsOf, List.mem_map, List.mem_filter];exact ⟨e, ⟨by simpa using he, hb⟩, rfl⟩
 have noneReady : ∀ (listed : Array Bool), listed.size = l.length → Region.ready .any ops listed = [] → ∀ i, i < l.length → inS listed i = true := by
  intro listed hsz hr i
  induction i using Nat.strongRecOn with
  | _ i ih =>
    intro hi;cases hs : inS listed i with
    | true => rfl
    | false =>
      have : i ∈ Region.ready .any ops listed := (readyOf listed hsz i).2 ⟨hs, l[i], List.getElem?_eq_getElem hi, fun e he => by
       have := hc.back i l[i] (List.getElem?_eq_getElem hi) e he;exact ih e this (by omega)⟩
      rw [hr] at this; cases this
 intro fuel
 induction fuel with
 | zero =>
   intro listed G F a w hsz s S hfr hcl hcount;have hall : ∀ i, i < l.length → inS listed i = true := by
    intro i hi;have h0 : (List.range l.length).countP (fun i => !inS listed i) = 0 := by omega
    rw [List.countP_eq_zero] at h0;have := h0 i (by simpa using hi);simpa using this
   refine ⟨?_, allDone listed G F a w s S hfr hall⟩;cases hr : Region.ready .any ops listed with
   | nil => rfl
   | cons i rs =>
     have := (readyOf listed hsz i).1 (by rw [hr]; exact List.mem_cons_self);obtain ⟨h1, t, ht, _⟩ := this;rw [hall i (List.getElem?_eq_some_iff.1 ht).1] at h1; cases h1
 | succ fuel ih =>
   intro listed G F a w hsz s S hfr hcl hcount;refine ⟨fun hr => allDone listed G F a w s S hfr (noneReady listed hsz hr), fun i hi => ?_⟩;obtain ⟨hSi, t, ht, hdep⟩ := (readyOf listed hsz i).1 hi;have hil : i < l.length := (List.getElem?_eq_some_iff.1 ht).1;unfold wpOpIn;rw [hops, ht];simp only [Option.map_some];have hadd : ∀ j, inS (listed.setIfInBounds i true) j = addS (inS listed) i j := by
    intro j;unfold inS addS;simp only [Array.getD_eq_getD_getElem?, Array.getElem?_setIfInBounds];by_cases h : i = j
    ·subst h;simp [show i < listed.size by omega]
    ·simp [h, Ne.symm h]
   have hfold : foldS fr (inS (listed.setIfInBounds i true)) 0 l st = foldS fr (addS (inS listed) i) 0 l st := foldS_congr fun m _ => hadd _;have hlook : ∀ x, look fr (foldS fr (inS (listed.setIfInBounds i true)) 0 l st) x = look fr (run1 fr t.o.dst t.r (foldS fr (inS listed) 0 l st)) x := by
    intro x;rw [hfold];refine foldS_add ht hSi (fun m u hu hlt hSm x hx => ?_) x;cases hw : wrt u.o.dst u.r x with
    | none => rfl
    | some v =>
      exfalso;rcases hc.edge i m t u ht hu (by omega) x (.inr (wrt_wl hx)) (wrt_wl (by rw [hw]; rfl)) with h | h
      ·have := hc.lt h; omega
      ·have := h.closed hcl hSm;rw [hSi] at this; cases this
   refine his i t ht _ G F a w (nx + l.length) _ _ s (by omega) (hfr _ (by omega) fun i' _ hS' he => ?_) (fun x hx => ?_) (fun G' F' a' w' s' S' hfr' => ?_)
   ·have : i = i' := by omega
    subst this;rw [hSi] at hS'; cases hS'
   ·rw [look_foldS, look_foldS];refine lastW_agree l 0 _ fun m u hu hw => ?_;rw [Nat.zero_add];by_cases hmi : m = i
    ·subst hmi; rw [hSi]; simp
    ·rcases hc.edge i m t u ht hu (fun h => hmi h.symm) x (.inl hx) (wrt_wl hw) with h | h
     ·have := hc.lt h;rw [h.ready hcl ht hdep]; simp [this]
     ·have h1 := hc.lt h;cases hSm : inS listed m with
      | false => simp; omega
      | true =>
        have := h.closed hcl hSm;rw [hSi] at this; cases this
   ·refine ih _ G' F' a' w' (by simpa using hsz) (s'.ext hlook) ((S.trans (S'.mono fun _ _ => trivial)).ext (look_mem hlook)) (fun j hj hne => ?_) (fun i' t' ht' hS' e he => ?_) ?_
    ·refine hfr' j (hne i hil (by rw [hadd]; simp [addS])) (hfr j hj fun i' hi' hS' => hne i' hi' (by rw [hadd]; simp [addS, hS']))
    ·rw [hadd] at hS' ⊢;simp only [addS, Bool.or_eq_true, decide_eq_true_eq] at hS' ⊢;rcases hS' with hS' | rfl
     ·exact .inl (hcl i' t' ht' hS' e he)
     ·rw [ht] at ht'; cases ht';exact .inl (hdep e he)
    ·have := countP_less (p := fun i => !inS listed i) (q := fun j => !inS (listed.setIfInBounds i true) j) hil (by simp [hSi]) (by simp only [hadd]; simp [addS]) (fun j hj => by
       rw [hadd] at hj;simp only [addS, Bool.not_or, Bool.and_eq_true] at hj;exact hj.1)
     omega
theorem EvC.drawA {idr : Nat} {l : List Oper} {its : List It} (hm : P.follows .mixedOrders = true) (ht : Tr P fr ro ds l.toArray st.nx l st.clr its st') (hc : confAllA its 0 its = true)
  (hq : Q .normal ⟨st'.vars, st'.tmps, st'.mem, st.nx + its.length⟩) : EvC P fr ro ds (.region idr l.toArray true) st Q := by
 intro G0 F0 M0 w0 G F a w S s;obtain ⟨h1, h2, h3⟩ := ht.spec;obtain ⟨hm', S'⟩ := simM_drew (w' := { w with drawn := w.drawn + 1 }) (s.clr.sim.mem.more (Nat.le_add_right _ its.length)) rfl ⟨rfl, rfl, rfl, fun _ => rfl, .refl⟩;have hlen : l.length = its.length := by rw [← h1]; simp
 refine wpIn_region_any hm ?_;have hnone : ∀ i, inS (Array.replicate l.toArray.size false) i = false := fun i => by
  unfold inS;simp only [Array.getD_eq_getD_getElem?, Array.getElem?_replicate];split <;> rfl
 have e : foldS fr (inS (Array.replicate l.toArray.size false)) 0 its st.clr = st.clr := by
  have : ∀ (l' : List It) (m : Nat) (st : St), foldS fr (inS (Array.replicate l.toArray.size false)) m l' st = st := by
   intro l'
   induction l' with
   | nil => intro m st; rfl
   | cons u l' ih => intro m st; simp only [foldS]; rw [hnone]; exact ih _ _
  exact this _ _ _
 refine drawAnyA (l := its) (nx := st.nx) (st := st.clr) (fun i => by rw [← h1]; simp) (by simp [hlen]) (ConfA.of hc) h2 (fun G F a w s hfr S => ?_) _ _ G F a _ (by simp [hlen]) ?_ ?_ (fun j hj _ => s.fresh j hj) (fun i t _ h => by rw [hnone] at h; cases h) ?_
 ·refine ⟨G, F, _, ⟨⟨?_, fun k => ?_, s.size⟩, hfr, s.defers⟩, ?_, hq⟩
  ·rw [h3]; exact s.mem
  ·have := s.slots k;rw [← h3] at this;exact this
  ·rw [← h3] at S; exact S
 ·rw [e];exact ⟨hm', fun k => (s.clr.sim.slots k).step S' (fun _ _ => trivial), s.clr.sim.size, s.clr.defers⟩
 ·rw [e]; exact S.trans (S'.mono fun _ _ => trivial)
 ·refine Nat.le_trans List.countP_le_length (by simp [hlen])
theorem EvC.drwA {id : Nat} {l : List Oper} {its : List It} (hm : P.follows .mixedOrders = true) (ht : Tr P fr ro ds l.toArray st.nx l st.clr its st') (hc : confAllA its 0 its = true) (hq : Q .normal (st'.fin (st.nx + its.length))) : EvC P fr ro ds (.region id l.toArray true) st Q :=
 .clrQ (.drawA hm ht hc hq)
end
section
variable {P : Program} {fr : Fr} {ro : Option Nat} {ds : DS} {st st' : St} {Q Q' : Exit → St → Prop} {G G' : Nat → Option Value} {F F' : Nat → Nat → Prop} {a : Act} {w w' : World} {M M' : Mem}
 {ops : Array Oper} {l rest : List Oper} {o : Oper} {N id : Nat} {rd gs : List Nat}
end
def nilA (M : Mem) : AV → AV
 | .sl true [] _ => .sl true [] .zer
 | .tl j 0 true => match mlook M j with
   | some (.arr _ [] _) => .sl true [] .zer
   | _ => .tl j 0 true
 | v => v
def St.zerN (st : St) : St := ⟨st.vars, st.tmps, memMap (nilA st.mem) st.mem, st.nx⟩
attribute [go_sem] nilA St.zerN
section
variable {P : Program} {fr : Fr} {ro : Option Nat} {ds : DS} {st st' : St} {Q Q' : Exit → St → Prop} {G G' : Nat → Option Value} {F F' : Nat → Nat → Prop} {a : Act} {w w' : World} {M M' : Mem}
 {ops : Array Oper} {c : Code} {l rest : List Oper} {o : Oper} {N id : Nat} {rd gs : List Nat}
end
def St.mapE (f : AV → AV) (j k : Nat) (st : St) : Option St :=
 match mlook st.mem j with
 | some (.arr esz es false) => match es[k]? with
   | some c => some ⟨st.vars, st.tmps, mset st.mem j (.arr esz (es.set k (c.map f)) false), st.nx⟩
   | none => none
 | _ => none
attribute [go_sem] St.mapE
section
variable {P : Program} {fr : Fr} {ro : Option Nat} {ds : DS} {st st' : St} {Q Q' : Exit → St → Prop} {G G' : Nat → Option Value} {F F' : Nat → Nat → Prop} {a : Act} {w w' : World} {x y c : Code} {M : Mem}
end
section
variable {P : Program} {fr : Fr} {ro : Option Nat} {ds : DS} {st st' : St} {G G' : Nat → Option Value} {F F' : Nat → Nat → Prop} {a : Act} {w w' : World} {M M' : Mem}
 {ops : Array Oper} {o : Oper} {N id : Nat} {rd gs : List Nat}
end
section
variable {P : Program}
end
section
variable {P : Program} {fr : Fr} {ro : Option Nat} {ds : DS} {st st1 : St} {Q : Exit → St → Prop} {G : Nat → Option Value} {F : Nat → Nat → Prop} {a : Act} {w w' : World}
end
def St.unkV (fr : Fr) (k : Nat) (st : St) : Option St :=
 match (st.get fr k).noref with
 | true => some (st.put fr (some k) (st.get fr k).unk)
 | false => none
attribute [go_sem] St.unkV
section
variable {P : Program} {fr : Fr} {ro : Option Nat} {ds : DS} {st st' : St} {Q : Exit → St → Prop} {G : Nat → Option Value} {F : Nat → Nat → Prop} {a : Act} {w : World} {c : Code}
end
section
variable {P : Program} {fr : Fr} {ro : Option Nat} {ds : DS} {st st' : St} {Q Q' : Exit → St → Prop} {G G' : Nat → Option Value} {F F' : Nat → Nat → Prop} {a : Act} {w w' : World} {c : Code}
 {M : Mem} {ops : Array Oper} {l rest : List Oper} {o : Oper} {id N : Nat} {rd : List Nat}
end
theorem mlook_append : ∀ (A B : Mem) (i : Nat), mlook (A ++ B) i = match mlook A i with
  | some o => some o
  | none => mlook B i
 | [], B, i => rfl
 | (k, o) :: A, B, i => by
   simp only [List.cons_append, mlook];split
   ·rfl
   ·exact mlook_append A B i
section
variable {P : Program} {fr : Fr} {ro : Option Nat} {ds : DS} {st st' : St} {Q Q' : Exit → St → Prop} {G G' Gs : Nat → Option Value} {F F' : Nat → Nat → Prop} {a : Act} {w w' : World} {c : Code}
 {M M0 Ms X : Mem} {ops : Array Oper} {l rest : List Oper} {o : Oper} {id N nx : Nat} {rd : List Nat} {v : Value} {y : AV}
def bodyArgsS (fr : Fr) (st : St) (args : Array Operand) : List AV := args.toList.map fun x => snap st.mem (od fr st true x)
end
attribute [go_sem] bodyArgsS
def unkOf (M : Mem) : AV → AV
 | .tv i n off len c => if n ≠ 0 then .tv i n off len .unk else .tv i n off len c
 | .tl j n b => if n ≠ 0 then match mlook M j with
   | some (.arr _ es _) => if n = es.length then .tv j n 0 n .unk else .tl j n b
   | _ => .tl j n b else .tl j n b
 | v => v
def St.unkC (st : St) : St := ⟨st.vars, st.tmps, memMap (unkOf st.mem) st.mem, st.nx⟩
section
variable {P : Program} {fr : Fr} {ro : Option Nat} {ds : DS} {st st' : St} {Q Q' : Exit → St → Prop} {G G' : Nat → Option Value} {F F' : Nat → Nat → Prop} {a : Act} {w w' : World} {c : Code}
end
attribute [go_sem] St.unkC unkOf
def notO (k : Nat) : Bool := decide (k < 2000000) || decide (3000000 ≤ k)
theorem notO_ne {k s : Nat} (hk : notO k = true) (hs : s < 1000000) : k ≠ 2000000 + s := by
 unfold notO at hk; simp at hk; omega
theorem o_ne {s : Nat} (hs : s < 1000000) (k : Nat) (hk : notO k = true) : (2000000 + s = k) = False := eq_false (fun h => notO_ne hk hs h.symm)
def oK (n : Nat) : List (Nat × Nat) := (List.range n).map fun i => (2000000 + i, 2000000 + i)
def osegK (A : List (Nat × Nat)) (n : Nat) (B : List (Nat × Nat)) : List (Nat × Nat) := A ++ (oK n ++ B)
theorem oK_succ (n : Nat) : oK (n + 1) = oK n ++ [(2000000 + n, 2000000 + n)] := by simp [oK, List.range_succ]
theorem mem_oK {n : Nat} {p : Nat × Nat} (h : p ∈ oK n) : ∃ i, i < n ∧ p = (2000000 + i, 2000000 + i) := by
 obtain ⟨i, h1, rfl⟩ := List.mem_map.1 h;exact ⟨i, List.mem_range.1 h1, rfl⟩
theorem rlook_oK (n k : Nat) : rlook (oK n) k = if 2000000 ≤ k ∧ k < 2000000 + n then some k else none := by
 induction n with
 | zero => simp [oK, rlook]
 | succ n ih =>
   rw [oK_succ, rlook_append, ih];by_cases h : 2000000 ≤ k ∧ k < 2000000 + n
   ·rw [if_pos h, if_pos (by omega)]; rfl
   ·rw [if_neg h];by_cases h2 : k = 2000000 + n
    ·subst h2; simp [rlook]
    ·rw [if_neg (by omega)]; simp [rlook, h2]
theorem blook_oK (n k : Nat) : blook (oK n) k = if 2000000 ≤ k ∧ k < 2000000 + n then some k else none := by
 induction n with
 | zero => simp [oK, blook]
 | succ n ih =>
   rw [oK_succ, blook_append, ih];by_cases h : 2000000 ≤ k ∧ k < 2000000 + n
   ·rw [if_pos h, if_pos (by omega)]; rfl
   ·rw [if_neg h];by_cases h2 : k = 2000000 + n
    ·subst h2; simp [blook]
    ·rw [if_neg (by omega)]; simp [blook, h2]
theorem rlook_osegK_hi {n : Nat} (hn : n ≤ 1000000) (A B : List (Nat × Nat)) (k : Nat) (hk : notO k = true) : rlook (osegK A n B) k = rlook (A ++ B) k := by
 rw [osegK, rlook_append, rlook_append, rlook_append, rlook_oK, if_neg (by unfold notO at hk; simp at hk; omega)]; simp
theorem rlook_notO : ∀ {A : List (Nat × Nat)} {s : Nat}, s < 1000000 → (A.all fun p => notO p.1) = true → rlook A (2000000 + s) = none
 | [], _, _, _ => rfl
 | (i, j) :: A, s, hs, h => by
   simp only [List.all_cons, Bool.and_eq_true] at h;simp only [rlook];rw [if_neg (fun e => notO_ne h.1 hs e.symm)];exact rlook_notO hs h.2
theorem rlook_osegK_lo {n s : Nat} (hs : s < n) (hn : n ≤ 1000000) {A B : List (Nat × Nat)} (hA : (A.all fun p => notO p.1) = true) : rlook (osegK A n B) (2000000 + s) = some (2000000 + s) := by
 rw [osegK, rlook_append, rlook_append, rlook_oK, if_pos (by omega), rlook_notO (by omega) hA]; rfl
theorem mset_msegO {l : List RObj} {b i : Nat} (o : RObj) (h : i < l.length) : mset (msegA b l) (b + i) o = msegA b (l.set i o) := by
 rw [mset_msegA l b (b + i) o (by omega) (by omega), Nat.add_sub_cancel_left]
theorem mlook_msegO (l : List RObj) (b i : Nat) : mlook (msegA b l) (b + i) = l[i]? := by rw [mlook_msegA, if_pos (by omega), Nat.add_sub_cancel_left]
theorem renMem_oK_congr {M M' : Mem} {n : Nat} (hn : n ≤ 1000000) (K : List (Nat × Nat)) (h : ∀ i, i < n → mlook M (2000000 + i) = mlook M' (2000000 + i)) : renMem M K (oK n) = renMem M' K (oK n) :=
 renMem_congr K fun p hp => by obtain ⟨i, h1, rfl⟩ := mem_oK hp; exact h i h1
theorem renMem_osegK (M : Mem) (A B : List (Nat × Nat)) (n : Nat) : renMem M (osegK A n B) (osegK A n B) = renMem M (osegK A n B) A ++ (renMem M (osegK A n B) (oK n) ++ renMem M (osegK A n B) B) := by
 conv => lhs; arg 3; rw [osegK]
 rw [renMem_append, renMem_append]
theorem renMem_oK (K : List (Nat × Nat)) (l : List RObj) (X : Mem) : ∀ n, n ≤ l.length → renMem (msegA 2000000 l ++ X) K (oK n) = msegA 2000000 ((l.take n).map (RObj.ren K))
 | 0, _ => rfl
 | n + 1, h => by
   have hl : mlook (msegA 2000000 l ++ X) (2000000 + n) = some (l[n]'(by omega)) := by rw [mlook_append, mlook_msegO, List.getElem?_eq_getElem (by omega)]
   rw [oK_succ, renMem_append, renMem_oK K l X n (by omega), List.take_add_one, List.getElem?_eq_getElem (by omega), List.map_append, Option.toList_some, List.map_singleton, msegA_append];congr 1;simp only [renMem, hl, msegA];congr 2;simp; omega
theorem osegK_ok {base nx n : Nat} {A : List (Nat × Nat)} (hA : gcOk base nx A = true) (h1 : (A.all fun p => notO p.1) = true) (h2 : (A.all fun p => notO p.2) = true) (hn : n ≤ 1000000) (hx : 3000000 ≤ nx) : gcOk base nx (osegK A n []) = true := by
 have hb := gcOk_base hA;have key : ∀ n, n ≤ 1000000 → gcOk base nx (oK n) = true := by
  intro n
  induction n with
  | zero => intro _; simp [oK, gcOk, hb]
  | succ n ih =>
    intro hn;rw [oK_succ];refine gcOk_append (ih (by omega)) ?_ fun p hp => ?_
    ·simp [gcOk, blook, rlook, hb]; omega
    ·obtain ⟨i, hi, rfl⟩ := mem_oK hp;have hne : ¬ 2000000 + i = 2000000 + n := by omega
     simp only [blook, rlook, if_neg hne];exact ⟨trivial, trivial⟩
 rw [osegK, List.append_nil];refine gcOk_append hA (key n hn) fun p hp => ?_;rw [List.all_eq_true] at h1 h2;have a1 := h1 p hp;have a2 := h2 p hp;unfold notO at a1 a2;simp at a1 a2;rw [blook_oK, rlook_oK, if_neg (by omega), if_neg (by omega)]; exact ⟨rfl, rfl⟩
theorem osegK_ok1 {base nx n k : Nat} {A : List (Nat × Nat)} (hA : gcOk base nx A = true) (h1 : (A.all fun p => notO p.1) = true) (h2 : (A.all fun p => notO p.2) = true) (hk : notO k = true) (hkA : rlook A k = none) (hkb : base ≤ k) (hb2 : base ≤ 2000000) (hn : n < 1000000) (hx : 3000000 ≤ nx) : gcOk base nx (osegK A n [(k, 2000000 + n)]) = true := by
 have h0 := osegK_ok hA h1 h2 (Nat.le_of_lt hn) hx;have hb := gcOk_base hA;have e : osegK A n [(k, 2000000 + n)] = osegK A n [] ++ [(k, 2000000 + n)] := by simp [osegK]
 rw [e];refine gcOk_append h0 ?_ fun p hp => ?_
 ·simp [gcOk, blook, rlook, hb, hkb]; omega
 ·have hb : p.2 ≠ 2000000 + n ∧ p.1 ≠ k := by
    rw [osegK, List.append_nil] at hp;rcases List.mem_append.1 hp with hp | hp
    ·rw [List.all_eq_true] at h2;refine ⟨notO_ne (h2 p hp) hn, fun hk2 => ?_⟩;have := rlook_ne (show (p.1, p.2) ∈ A from hp);rw [hk2] at this; exact this hkA
    ·obtain ⟨i, hi, rfl⟩ := mem_oK hp;exact ⟨by simp only; omega, fun e => notO_ne hk (show i < 1000000 by omega) e.symm⟩
  simp only [blook, rlook];rw [if_neg hb.1, if_neg hb.2]; exact ⟨rfl, rfl⟩
section
variable {α : Type}
theorem memMap_msegA (f : AV → AV) : ∀ (l : List RObj) (b : Nat), memMap f (msegA b l) = msegA b (l.map (RObj.snapC f))
 | [], _ => rfl
 | o :: l, b => by simp only [msegA, memMap, List.map_cons, memMap_msegA f l]
theorem mset_app_in {A : Mem} {i : Nat} (o : RObj) (B : Mem) (h : (mlook A i).isSome = true) : mset (A ++ B) i o = mset A i o ++ B := by
 induction A with
 | nil => simp [mlook] at h
 | cons p A ih =>
   obtain ⟨k, u⟩ := p;simp only [List.cons_append, mset];by_cases e : i = k
   ·rw [if_pos e, if_pos e]; rfl
   ·rw [if_neg e, if_neg e, List.cons_append, ih (by simpa [mlook, e] using h)]
end
def ofzAll : Nat → Mem → Mem
 | 0, M => M
 | n + 1, M => match mlook (ofzAll n M) (2000000 + n) with
   | some o => mset (ofzAll n M) (2000000 + n) o.fzn
   | none => ofzAll n M
section
variable {P : Program} {fr : Fr} {ro : Option Nat} {ds : DS} {st st' : St} {Q Q' : Exit → St → Prop} {G G' : Nat → Option Value} {F F' : Nat → Nat → Prop} {a : Act} {w w' : World} {x y c : Code} {M : Mem}
theorem mlook_ofz_above (M : Mem) : ∀ (n k : Nat), n ≤ k → mlook (ofzAll n M) (2000000 + k) = mlook M (2000000 + k)
 | 0, _, _ => rfl
 | n + 1, k, hk => by
   simp only [ofzAll];split
   ·rw [mlook_mset, if_neg (by omega)]; exact mlook_ofz_above M n k (by omega)
   ·exact mlook_ofz_above M n k (by omega)
theorem ofzAll_cons {n : Nat} (hn : n ≤ 1000000) (k : Nat) (hk : notO k = true) (o : RObj) (M : Mem) : ofzAll n ((k, o) :: M) = (k, o) :: ofzAll n M := by
 induction n with
 | zero => rfl
 | succ n ih =>
   have hne : ¬ 2000000 + n = k := fun e => notO_ne hk (by omega) e.symm;simp only [ofzAll, ih (by omega), mlook, if_neg hne];split
   ·simp only [mset, if_neg hne]
   ·rfl
theorem ofzAll_seg (l : List RObj) (X : Mem) : ∀ n, n ≤ l.length → ofzAll n (msegA 2000000 l ++ X) = msegA 2000000 ((l.take n).map RObj.fzn ++ l.drop n) ++ X
 | 0, _ => by simp [ofzAll]
 | n + 1, h => by
   have hd : l.drop n = l[n] :: l.drop (n + 1) := List.drop_eq_getElem_cons (by omega);have hl : ((l.take n).map RObj.fzn).length = n := by simp; omega
   have hset : ∀ (A : List RObj) (o : RObj), n < A.length → mset (msegA 2000000 A ++ X) (2000000 + n) o = msegA 2000000 (A.set n o) ++ X := fun A o hA => by
    rw [mset_app_in _ _ (by rw [mlook_msegO, List.getElem?_eq_getElem hA]; rfl), mset_msegO _ hA]
   simp only [ofzAll];rw [ofzAll_seg l X n (by omega), mlook_append, mlook_msegO, List.getElem?_append_right (by omega), hl, Nat.sub_self, hd];simp only [List.getElem?_cons_zero];rw [hset _ _ (by simp; omega), List.set_append_right _ _ (by omega), hl, Nat.sub_self, List.set_cons_zero, List.take_add_one, List.getElem?_eq_getElem (by omega), Option.toList_some, List.map_append, List.map_singleton, List.append_assoc];rfl
theorem SimA.ofzAll (n : Nat) (s : SimA P fr ds G F st a w) (h : ∀ i, i < n → ∃ esz es fz, mlook st.mem (2000000 + i) = some (.arr esz es fz) ∧ es.all AV.norefs = true) :
  ∃ F', SimA P fr ds G F' ⟨st.vars, st.tmps, Avl.ofzAll n st.mem, st.nx⟩ a w ∧ Step (· < fr.base) G F st.mem w G F' (Avl.ofzAll n st.mem) w := by
 induction n with
 | zero => exact ⟨F, s, .refl⟩
 | succ n ih =>
   obtain ⟨F1, s1, S1⟩ := ih fun i hi => h i (by omega);obtain ⟨esz, es, fz, ho, hn⟩ := h n (Nat.lt_succ_self _);have hm : mlook (Avl.ofzAll n st.mem) (2000000 + n) = some (.arr esz es fz) := by rw [mlook_ofz_above _ _ _ (Nat.le_refl _)]; exact ho
   have he : St.fz (2000000 + n) ⟨st.vars, st.tmps, Avl.ofzAll n st.mem, st.nx⟩ = some ⟨st.vars, st.tmps, mset (Avl.ofzAll n st.mem) (2000000 + n) (.arr esz es true), st.nx⟩ := by
    simp only [St.fz, hm, hn]; rfl
   obtain ⟨F2, s2, S2⟩ := s1.fz he;refine ⟨F2, ?_, ?_⟩
   ·simp only [Avl.ofzAll, hm]; exact s2
   ·simp only [Avl.ofzAll, hm]; exact S1.trans S2
theorem EvC.ofzAll (n : Nat) (h : ∀ i, i < n → ∃ esz es fz, mlook st.mem (2000000 + i) = some (.arr esz es fz) ∧ es.all AV.norefs = true) (hc : EvC P fr ro ds c ⟨st.vars, st.tmps, Avl.ofzAll n st.mem, st.nx⟩ Q) : EvC P fr ro ds c st Q :=
 EvC.conv (fun _ _ _ _ s => let ⟨F', s', S'⟩ := s.ofzAll n h; ⟨_, F', s', S'⟩) hc
end
attribute [go_sem] renMem_osegK notO
section
variable {P : Program} {fr : Fr} {ro : Option Nat} {ds : DS} {st st' : St} {Q Q' : Exit → St → Prop} {G G' : Nat → Option Value} {F F' : Nat → Nat → Prop} {a : Act} {w w' : World} {M M' : Mem}
 {ops : Array Oper} {l rest : List Oper} {o : Oper} {N id : Nat} {rd gs : List Nat}
end
def St.slotTv (fr : Fr) (k : Nat) (st : St) : Option St :=
 match st.get fr k with
 | .tl i n _ => match mlook st.mem i with
   | some (.arr _ es _) => match decide (n = es.length) && !(n == 0) with
     | true => some (st.put fr (some k) (.tv i n 0 n .rest))
     | false => none
   | _ => none
 | _ => none
attribute [go_sem] St.slotTv
section
variable {P : Program} {fr : Fr} {ro : Option Nat} {ds : DS} {st st' : St} {Q : Exit → St → Prop} {G : Nat → Option Value} {F : Nat → Nat → Prop} {a : Act} {w : World} {c : Code}
end
section
variable {P : Program} {fr : Fr} {ro : Option Nat} {ds : DS} {st st' : St} {G G' : Nat → Option Value} {F F' : Nat → Nat → Prop} {a : Act} {w w' : World} {c : Code}
 {M : Mem} {ops : Array Oper} {l rest : List Oper} {o : Oper} {id N : Nat} {rd : List Nat}
end
section
variable {P : Program} {fr : Fr} {ro : Option Nat} {ds : DS} {st st' : St} {G G' : Nat → Option Value} {F F' : Nat → Nat → Prop} {a : Act} {w w' : World} {x y c : Code}
 {M : Mem} {h0 : Nat} {J : Env} {k : Option Nat} {Q : Exit → St → Option Nat → Prop}
theorem Marks.keep' {l : List Deferred} (h : Marks ds l w) (hD : ∀ D, dmark D ∈ l → w'.heap[D]? = w.heap[D]?) (hr : ∀ l0, ds.ro = some l0 → w'.heap[l0]? = w.heap[l0]?) (hs : w.heap.size ≤ w'.heap.size) : Marks ds l w' := by
 obtain ⟨⟨Ds, h1, h2, h3⟩, h4, h5, h6⟩ := h;exact ⟨⟨Ds, h1, h2, fun D hD' => ⟨(h3 D hD').1, by rw [hD D (by rw [h1]; exact List.mem_map.2 ⟨D, hD', rfl⟩)]; exact (h3 D hD').2⟩⟩, fun l0 hl => let ⟨r, hr'⟩ := h4 l0 hl; ⟨r, by rw [hr l0 hl]; exact hr'⟩, h5, Nat.le_trans h6 hs⟩
def withO (X O : Nat → Prop) : Nat → Prop := fun b => X b ∨ O b
structure CoreY (P : Program) (fr : Fr) (ro : Option Nat) (h0 : Nat) (a : Act) (N : Nat) (L : List Deferred) (R : YRef) (st : St) (X : Nat → Prop) (G : Nat → Option Value) (F : Nat → Nat → Prop) (O : Nat → Prop) (W : World) : Prop where
 mem : SimM P G F st.mem st.nx W
 slots : ∀ i, RV G F st.mem W (a.tmps.getD i undef) (st.get fr i)
 fresh : ∀ j, st.nx ≤ j → G j = none
 marks : Marks ⟨h0, ro, some L⟩ L W
 ok : OkX (· < fr.base) R (withO X O) G F st.mem W
 mks : MarksIn ro L X
 lo : ∀ b, O b → N ≤ b
 NW : N ≤ W.heap.size
 mlt : (∀ D, dmark D ∈ L → D < N) ∧ ∀ l0, ro = some l0 → l0 < N
 rlt : ∀ b, R.X b → b < N ∧ X b
theorem CoreY.it {N : Nat} {L : List Deferred} {R : YRef} {X O O' : Nat → Prop} (hJ : Stable J) (h : CoreY P fr ro h0 a N L R st X G F O w) (hj : J k F (OwnX G st.mem (withO X O)) w) (I : ItStep O F w O' F' w') :
  CoreY P fr ro h0 a N L R st X G F' O' w' ∧ J k F' (OwnX G st.mem (withO X O')) w' ∧ ∀ b, b < N → w'.heap[b]? = w.heap[b]? := by
 have dis : ∀ b, Owned G st.mem b → ¬ O b := fun b hb ho => h.ok.disj b (.inr ho) hb;have E : EnvStep (Owned G st.mem) F w F' w' :=
  ⟨I.size, fun b hb => I.out b (h.mem.lt hb) (dis b hb), I.F1, I.F2, fun b o hF hb => by
   rcases I.F3 b o hF with h' | h' | h'
   ·exact h'
   ·have := h.mem.lt hb; omega
   ·exact absurd h' (dis b hb), I.inF, I.kept⟩
 have nd : ∀ b, b < N → w'.heap[b]? = w.heap[b]? := fun b hb => I.out b (Nat.lt_of_lt_of_le hb h.NW) fun hO => by have := h.lo b hO; omega
 have ER : EnvStep R.X F w F' w' :=
  ⟨I.size, fun b hb => nd b (h.rlt b hb).1, I.F1, I.F2, fun b o hF hb => by
   rcases I.F3 b o hF with h' | h' | h'
   ·exact h'
   ·have := (h.rlt b hb).1; have := h.NW; omega
   ·have := h.lo b h'; have := (h.rlt b hb).1; omega, I.inF, I.kept⟩
 refine ⟨⟨h.mem.env E fun _ hb => hb, fun i => (h.slots i).env E, h.fresh, h.marks.keepX h.mlt.1 h.mlt.2 nd I.size, ⟨h.ok.env.trans ER, h.ok.gs.trans (.ofEnv E), ?_, ?_, fun b hb => .inl (h.rlt b hb).2⟩, h.mks, fun b hb => ?_, Nat.le_trans h.NW I.size, h.mlt, h.rlt⟩, ?_, nd⟩
 ·rintro b (hb | hb)
  ·exact Nat.lt_of_lt_of_le (h.ok.low b (.inl hb)) I.size
  ·exact I.low b hb
 ·rintro b (hb | hb) ho
  ·exact h.ok.disj b (.inl hb) ho
  ·rcases I.own b hb with h' | h'
   ·have := h.mem.lt ho; omega
   ·exact dis b ho h'
 ·rcases I.own b hb with h' | h'
  ·exact Nat.le_trans h.NW h'
  ·exact h.lo b h'
 ·refine hJ _ _ _ _ _ _ _ hj ⟨I.size, fun b hb ho => I.out b hb fun h => ho (.inr (.inr h)), I.F1, I.F2, fun b o hF => (I.F3 b o hF).imp_right fun h => h.imp_right fun h => .inr (.inr h), ?_, I.inF, ?_, I.kept⟩
  ·rintro b (hb | hb | hb)
   ·exact .inr (.inl hb)
   ·exact .inr (.inr (.inl hb))
   ·exact (I.own b hb).imp_right fun h => .inr (.inr h)
  ·rintro b (hb | hb | hb)
   ·exact Nat.lt_of_lt_of_le (h.mem.lt hb) I.size
   ·exact Nat.lt_of_lt_of_le (h.ok.low b (.inl hb)) I.size
   ·exact I.low b hb
theorem EvY.range {σ : Type} {g : Operand} {ps : Array Tmp} {assign body : Code} {gf : FuncId} {caps : List AV} {xs : List (List AV)} (hJ : Stable J) (hg : opnd fr st.clr g = .fn gf caps) (hn : AV.norefs caps = true) (hs : SeqIs P gf caps xs)
  (hps : ∀ x ∈ xs, x.length = ps.size) (hpk : ∀ p ∈ ps, p < fr.sz) (hbase : fr.base ≤ st.nx) (sh : Nat → σ → Mem) (kf : σ → Nat) (inv : Nat → σ → Prop) (hst : ∃ s, st.mem = sh 0 s ∧ inv 0 s ∧ k = some (kf s))
  (round : ∀ j s lp, (hk : j < xs.length) → inv j s → EvC P ⟨st.nx, fr.nv, fr.hid, fr.sz⟩ (some lp) ⟨0, some lp, true⟩ assign (bindP ⟨st.nx, fr.nv, fr.hid, fr.sz⟩ ps.toList xs[j] ⟨st.vars, [], sh j s, st.nx⟩) fun e st1 => e = .normal ∧
   EvY P ⟨st.nx, fr.nv, fr.hid, fr.sz⟩ (some lp) 0 J body st1 (some (kf s)) fun e st2 k' => match e with
    | .normal => ∃ K s', gcOk st.nx st.nx K = true ∧ renMem st2.mem K K = sh (j + 1) s' ∧ inv (j + 1) s' ∧ k' = some (kf s')
    | .ret => Q .ret ⟨st.vars, [], st2.mem, st2.nx⟩ k'
    | .exit id => Q (.exit id) ⟨st.vars, [], st2.mem, st2.nx⟩ k'
    | _ => False)
  (done : ∀ s, inv xs.length s → Q .normal ⟨st.vars, [], sh xs.length s, st.nx⟩ (some (kf s))) : EvY P fr ro h0 J (.rangeFunc g ps assign body) st k Q := by
 rintro R a w ⟨X, L0, G, F, hx, hm, s, hj⟩;refine wpIn_rangeFunc fun fn hfn => ?_;have hd0 : a.defers = L0 := s.defers.2.2.1 L0 rfl;obtain ⟨l, mk, W1, D, he, hlw, hl1, hsz1, hold1, hmk, hkp1, hmkn⟩ : ∃ (l : Nat) (mk : List Deferred) (W1 : World) (D : Nat), (Instr.enterLoop fn a.tmps ps assign body (fc ro).round).run P w = .ok (l, mk) W1 ∧ w.heap.size ≤ l ∧
   W1.heap[l]? = some (.loop { state := .ready, pending := none, fn, tmps := a.tmps, params := ps, assign, body, defers := D }) ∧ w.heap.size ≤ W1.heap.size ∧ (∀ b, b < w.heap.size → W1.heap[b]? = w.heap[b]?) ∧ Marks ⟨h0, ro, some (mk ++ L0)⟩ (mk ++ a.defers) W1 ∧ Kept w W1 ∧ (∀ D, dmark D ∈ mk → w.heap.size ≤ D) ∧ ∀ l0, ro = some l0 → mk ++ L0 = [] := by
  cases ro with
  | none =>
    have s' : Marks ⟨h0, none, none⟩ a.defers w := ⟨s.defers.1, s.defers.2.1, fun L h => (by cases h), s.defers.2.2.2⟩;obtain ⟨l, mk, W1, D, h1, h2, h3, h4, h5, h6, h7, h8⟩ := enter_loop (P := P) (ro := none) rfl (fun _ => rfl) s' fn ps assign body;exact ⟨l, mk, W1, D, h1, h2, h3, h4, h5, ⟨h6.1, h6.2.1, fun L h => by cases h; rw [hd0], h6.2.2.2⟩, h7, h8, fun l0 h => by cases h⟩
  | some l0 =>
    have hL : L0 = [] := hm.2.2 l0 rfl;subst hL;obtain ⟨l, mk, W1, D, h1, h2, h3, h4, h5, h6, h7, h8⟩ := enter_loop (P := P) (ro := some l0) rfl (fun h => by cases h) s.defers fn ps assign body;have : mk ++ a.defers = [] := h6.2.2.1 [] rfl;rw [hd0] at this;exact ⟨l, mk, W1, D, h1, h2, h3, h4, h5, ⟨h6.1, h6.2.1, fun L h => by cases h; rw [hd0], h6.2.2.2⟩, h7, h8, fun _ _ => this⟩
 obtain ⟨L, hL⟩ : ∃ L, L = mk ++ L0 := ⟨_, rfl⟩;rw [hd0, ← hL] at hmk;obtain ⟨rec, hrec⟩ : ∃ rec : LoopState → Option Code → Loop, rec = fun st pe => { state := st, pending := pe, fn, tmps := a.tmps, params := ps, assign, body, defers := D } := ⟨_, rfl⟩;have hl1 : W1.heap[l]? = some (.loop (rec .ready none)) := by rw [hrec]; exact hl1
 have hlN : l < W1.heap.size := (Array.getElem?_eq_some_iff.1 hl1).1;have hgv := s.clr.eval g;rw [hg] at hgv;obtain ⟨vs, hev, hvl, hvs⟩ := hgv.inv_fn;have hF1 : ∀ b o, F b o → b < W1.heap.size := fun b o h => Nat.lt_of_lt_of_le (s.sim.mem.inF b o h) hsz1;have hk1 : ∀ (b : Nat) (o : Obj), w.heap[b]? = some o → isData o = true → W1.heap[b]? = some o := fun b o hb _ => by rw [hold1 b (Array.getElem?_eq_some_iff.1 hb).1]; exact hb
 let I : Env := fun j F' O W => match j with
  | some j => ∃ X' G' s, inv j s ∧ CoreY P fr ro h0 a W1.heap.size L R ⟨st.vars, [], sh j s, st.nx⟩ X' G' F' O W ∧ J (some (kf s)) F' (OwnX G' (sh j s) (withO X' O)) W ∧ X' l ∧ W.heap[l]? = some (.loop (rec .ready none))
  | none => ∃ X' G' M' nx' k' c, ((c = Code.ret ∧ Q .ret ⟨st.vars, [], M', nx'⟩ k') ∨ ∃ id, c = Code.exit id ∧ Q (.exit id) ⟨st.vars, [], M', nx'⟩ k') ∧ CoreY P fr ro h0 a W1.heap.size L R ⟨st.vars, [], M', nx'⟩ X' G' F' O W ∧ J k' F' (OwnX G' M' (withO X' O)) W ∧ X' l ∧ W.heap[l]? = some (.loop (rec .done (some c)))
 have hI : Stable I := by
  intro j F O w F' O' w' h S;cases j with
  | some j =>
    obtain ⟨X', G', s, h1, h2, h3, h4, h5⟩ := h;obtain ⟨h6, h7, h8⟩ := h2.it hJ h3 S;exact ⟨X', G', s, h1, h6, h7, h4, (h8 _ hlN).trans h5⟩
  | none =>
    obtain ⟨X', G', M', nx', k', c, h1, h2, h3, h4, h5⟩ := h;obtain ⟨h6, h7, h8⟩ := h2.it hJ h3 S;exact ⟨X', G', M', nx', k', c, h1, h6, h7, h4, (h8 _ hlN).trans h5⟩
 have hy : Yields P I l xs := by
  intro j F O W vals hk hF hO hi ⟨X', G', σ', hinv, hc, hjW, hXl, hlW⟩;have hlt := (Array.getElem?_eq_some_iff.1 hlW).1;have hvals : vals.length = ps.size := hi.1.trans (hps _ (List.getElem_mem hk));have hyield := run_yield (P := P) (args := vals.toArray) hlW (by rw [hrec]; simpa using hvals);refine ⟨_, _, _, _, hyield, roundIn_of_wpIn (by rw [hrec]; exact hfn) ?_⟩;have s1 : SimA P ⟨st.nx, fr.nv, fr.hid, fr.sz⟩ ⟨0, some l, true⟩ G' F ⟨st.vars, [], sh j σ', st.nx⟩ { tmps := a.tmps, defers := [] } W :=
   ⟨⟨hc.mem, hc.slots, s.sim.size⟩, hc.fresh, .round hlW⟩
  have s2 := s1.bind (ps := ps.toList) (by simpa using hvals) hi (fun p hp => hpk p (by simpa using hp));have htm : (((rec .ready none).params.zip vals.toArray).foldl (fun tmps (t, a) => tmps.setIfInBounds t a) (rec .ready none).tmps) = (ps.toList.zip vals).foldl (fun t (p, v) => t.setIfInBounds p v) a.tmps := by
   rw [hrec];simp only;rw [← Array.foldl_toList];simp
  rw [htm];have em : (bindP ⟨st.nx, fr.nv, fr.hid, fr.sz⟩ ps.toList xs[j] ⟨st.vars, [], sh j σ', st.nx⟩).mem = sh j σ' := bindP_mem _ _ _;have hA := round j σ' l hk hinv G' F _ W G' F _ W (by rw [em]; exact .refl) s2;have hfe : (Fence.wide.inRound l) = fc (some l) := rfl;rw [hfe];have ea : (rec .ready none).assign = assign := by rw [hrec]
  have eb : (rec .ready none).body = body := by rw [hrec]
  rw [ea, eb];refine wpIn_mono hA ?_;rintro e a1 Wa ⟨Ga, Fa, sta, sa, Sa, rfl, hB⟩;have hla : Wa.heap[l]? = some (.loop (rec .ready none)) := Sa.keepObj hc.mem hlW rfl;refine ⟨_, run_beginRound hla (by rw [hrec]), ?_⟩;have hlta := (Array.getElem?_eq_some_iff.1 hla).1;obtain ⟨Wb, hWb⟩ : ∃ Wb, Wb = Wa.putObj l (.loop { rec .ready none with state := .busy }) := ⟨_, rfl⟩;rw [← hWb];have hsb : Wb.heap.size = Wa.heap.size := by rw [hWb, World.putObj_size]
  have hlb : Wb.heap[l]? = some (.loop { rec .ready none with state := .busy }) := by rw [hWb]; exact World.putObj_heap_same hlta
  have hda := sa.defers.2.2.1 [] rfl;have sb : SimA P ⟨st.nx, fr.nv, fr.hid, fr.sz⟩ ⟨0, some l, true⟩ Ga Fa sta a1 Wb := by
   rw [hWb];exact sa.keepData (keep_put hla rfl _) (by rw [World.putObj_size]; exact Nat.le_refl _) (by rw [hda]; exact .round (World.putObj_heap_same hlta))
  have oka : OkX (· < fr.base) R (withO X' O) Ga Fa sta.mem Wa := hc.ok.step (fun id (hid : id < fr.base) => Nat.lt_of_lt_of_le hid hbase) Sa sa.sim.mem;have ja : J (some (kf σ')) Fa (OwnX Ga sta.mem (withO X' O)) Wa := hJ _ _ _ _ _ _ _ hjW (itStep_of hc.ok Sa sa.sim.mem);have Ib : ItStep (OwnX Ga sta.mem (withO X' O)) Fa Wa (OwnX Ga sta.mem (withO X' O)) Fa Wb := by
   rw [hWb];exact .put hla rfl rfl (.inr (.inl hXl)) sa.sim.mem.inF fun b hb => hb.elim (fun hb => sa.sim.mem.lt hb) (oka.low b)
  have jb := hJ _ _ _ _ _ _ _ ja Ib;have okb : OkX (· < st.nx) ⟨withO X' O, Ga, Fa, sta.mem, Wb⟩ (withO X' O) Ga Fa sta.mem Wb := ⟨.refl sb.sim.mem.inF, .refl, fun b hb => by rw [hsb]; exact oka.low b hb, oka.disj, fun _ h => h⟩;have hround := hB ⟨withO X' O, Ga, Fa, sta.mem, Wb⟩ a1 Wb ⟨withO X' O, [], Ga, Fa, okb, ⟨fun _ h => (by cases h), fun l0 h => by cases h; exact .inl hXl, fun _ _ => rfl⟩, sb, jb⟩;refine wpIn_mono hround ?_;rintro e a3 W3 ⟨st3, k3, ⟨X3, L3, G3, F3, ok3, mk3, s3, j3⟩, hq⟩;have hl3 : W3.heap[l]? = some (.loop { rec .ready none with state := .busy }) := (ok3.env.own l (.inl hXl)).trans hlb;have hlt3 := (Array.getElem?_eq_some_iff.1 hl3).1;have hrb : ∀ jump : Option Code, (Instr.endRound l jump).run P W3 = .ok (.bool jump.isNone) (W3.putObj l (.loop (rec (if jump.isNone then .ready else .done) jump))) := fun jump => by
   have := run_endRound (P := P) jump hl3;rw [hrec] at this ⊢; exact this
  have hX3 : ∀ b, withO X' O b → X3 b := ok3.sub;have fin : ∀ (o4 : Obj), isData o4 = false → ∀ (G4 : Nat → Option Value) (st4 : St), SimM P G4 F3 st4.mem st4.nx W3 → (∀ j, st4.nx ≤ j → G4 j = none) → Step (· < st.nx) G3 F3 st3.mem W3 G4 F3 st4.mem W3 → st4.vars = st.vars → st4.tmps = [] →
    CoreY P fr ro h0 a W1.heap.size L R st4 X3 G4 F3 O (W3.putObj l o4) ∧ J k3 F3 (OwnX G4 st4.mem (withO X3 O)) (W3.putObj l o4) ∧ EnvStep O F W F3 (W3.putObj l o4) := by
   intro o4 h4 G4 st4 hm4 hf4 S4 hv4 ht4;obtain ⟨W4, hW4⟩ : ∃ W4, W4 = W3.putObj l o4 := ⟨_, rfl⟩;rw [← hW4];have hs4 : W4.heap.size = W3.heap.size := by rw [hW4, World.putObj_size]
   have hsz : W.heap.size ≤ W4.heap.size := by rw [hs4]; exact Nat.le_trans Sa.size (hsb ▸ ok3.env.size)
   have hlO : ¬ O l := fun h => by have := hc.lo l h; omega
   have hoth : ∀ b, b ≠ l → withO X' O b → W4.heap[b]? = W.heap[b]? := fun b hb hO' => by
    rw [hW4, World.putObj_heap_other hb, ok3.env.own b hO', hWb, World.putObj_heap_other hb];exact Sa.out b (hc.ok.low b hO') (hc.ok.disj b hO')
   have cb : ∀ b o, Wb.cell? ⟨b, o, none⟩ = Wa.cell? ⟨b, o, none⟩ := fun b o => by rw [hWb]; exact putNd hla rfl rfl b o
   have c4 : ∀ b o, W4.cell? ⟨b, o, none⟩ = W3.cell? ⟨b, o, none⟩ := fun b o => by rw [hW4]; exact putNd hl3 rfl h4 b o
   have F1 : ∀ b o, F b o → F3 b o := fun b o h => ok3.env.F1 b o (Sa.F1 b o h);have F2 : ∀ b o, F b o → W4.cell? ⟨b, o, none⟩ = W.cell? ⟨b, o, none⟩ := fun b o h => by
    rw [c4, ok3.env.F2 b o (Sa.F1 b o h), cb]; exact Sa.F2 b o h
   have F3' : ∀ b o, F3 b o → withO X' O b → F b o := fun b o h hb => by
    rcases Sa.F3 b o (ok3.env.F3 b o h hb) with h' | h' | h'
    ·exact h'
    ·have := hc.ok.low b hb; omega
    ·exact absurd h' (hc.ok.disj b hb)
   have kp : Kept W W4 := by
    have k1 : Kept Wa Wb := Ib.kept;have k4 : Kept W3 W4 := by rw [hW4]; exact (ItStep.put (O := fun b => b < W3.heap.size) (F := F3) hl3 rfl h4 hlt3 s3.sim.mem.inF fun b hb => hb).kept
    exact ((Sa.kept.trans k1).trans ok3.env.kept).trans k4
   have hinF : ∀ b o, F3 b o → b < W4.heap.size := fun b o h => by rw [hs4]; exact s3.sim.mem.inF b o h
   have hm4' : SimM P G4 F3 st4.mem st4.nx W4 := by rw [hW4]; exact hm4.keepData (keep_put hl3 rfl o4) (by rw [World.putObj_size]; exact Nat.le_refl _)
   have g1 : GS (· < st.nx) G' F (sh j σ') W G4 F3 st4.mem W4 := by
    have q1 : GS (· < st.nx) Ga Fa sta.mem Wa Ga Fa sta.mem Wb := { (GS.refl : GS (· < st.nx) Ga Fa sta.mem Wa Ga Fa sta.mem Wa) with F2 := fun b o _ => cb b o };have q2 : GS (· < st.nx) G4 F3 st4.mem W3 G4 F3 st4.mem W4 := { (GS.refl : GS (· < st.nx) G4 F3 st4.mem W3 G4 F3 st4.mem W3) with F2 := fun b o _ => c4 b o };exact (((Sa.gs.trans q1).trans ok3.gs).trans S4.gs).trans q2
   have sl : ∀ i, RV G4 F3 st4.mem W4 (a.tmps.getD i undef) (st4.get fr i) := fun i => by
    have h1 := hc.slots i;have e : (⟨st.vars, [], sh j σ', st.nx⟩ : St).get fr i = st4.get fr i := by unfold St.get; rw [hv4, ht4]
    rw [e] at h1;exact h1.gs g1 fun id hid => Nat.lt_of_not_le fun hle => hid (hc.fresh id hle)
   have ok4 : OkX (· < st.nx) ⟨withO X' O, Ga, Fa, sta.mem, Wb⟩ X3 G4 F3 st4.mem W3 := ok3.step (fun _ h => h) S4 hm4;have eX : withO X3 O = X3 := funext fun b => propext ⟨fun h => h.elim id fun h => hX3 b (.inr h), .inl⟩;have j4 : J k3 F3 (OwnX G4 st4.mem X3) W4 := by
    refine hJ _ _ _ _ _ _ _ (hJ _ _ _ _ _ _ _ j3 (itStep_of ok3 S4 hm4)) ?_;rw [hW4];exact .put hl3 rfl h4 (.inr (hX3 l (.inl hXl))) hm4.inF fun b hb => hb.elim (fun hb => hm4.lt hb) (ok4.low b)
   refine ⟨⟨hm4', sl, hf4, ?_, ⟨?_, ?_, ?_, ?_, fun b hb => .inl (hX3 b (.inl (hc.rlt b hb).2))⟩, ?_, hc.lo, ?_, hc.mlt, fun b hb => ⟨(hc.rlt b hb).1, hX3 b (.inl (hc.rlt b hb).2)⟩⟩, by rw [eX]; exact j4, ⟨hsz, fun b hb => ?_, F1, F2, fun b o h hb => F3' b o h (.inr hb), hinF, kp⟩⟩
   ·refine hc.marks.keep' (fun D hD => ?_) (fun l0 hl0 => ?_) hsz
    ·by_cases e : D = l
     ·subst e;obtain ⟨Ds, e1, _, e3⟩ := hc.marks.1;have : D ∈ Ds := by
       rw [e1] at hD;obtain ⟨D', h7, h8⟩ := List.mem_map.1 hD;have : D' = D := by simpa [dmark] using h8
       exact this ▸ h7
      have := (e3 D this).2;rw [hlW] at this; cases this
     ·exact hoth D e (.inl (hc.mks.1 D hD))
    ·refine hoth l0 ?_ (.inl (hc.mks.2.1 l0 hl0));rintro rfl;obtain ⟨r, hr⟩ := s.defers.2.1 l0 hl0;have := (Array.getElem?_eq_some_iff.1 hr).1;omega
   ·refine hc.ok.env.trans ⟨hsz, fun b hb => ?_, F1, F2, fun b o h hb => F3' b o h (.inl (hc.rlt b hb).2), hinF, kp⟩;refine hoth b ?_ (.inl (hc.rlt b hb).2);rintro rfl;have := hx.low b (hx.sub b hb);omega
   ·exact hc.ok.gs.trans (g1.mono fun id (hid : id < fr.base) => Nat.lt_of_lt_of_le hid hbase)
   ·rw [eX, hs4]; exact ok4.low
   ·rw [eX]; exact ok4.disj
   ·exact ⟨fun D hD => hX3 D (.inl (hc.mks.1 D hD)), fun l0 hl => hX3 l0 (.inl (hc.mks.2.1 l0 hl)), hc.mks.2.2⟩
   ·exact Nat.le_trans hc.NW hsz
   ·exact hoth b (by rintro rfl; exact hlO hb) (.inr hb)
  cases e with
  | normal =>
    obtain ⟨K, σ2, hK, hmem, hinv2, rfl⟩ := hq;obtain ⟨s4, S4⟩ := s3.gc (L := []) (nx := st.nx) hK;have em4 : (st3.gc [] K st.nx).mem = sh (j + 1) σ2 := hmem;obtain ⟨hcore, hj4, hE⟩ := fin (.loop (rec .ready none)) rfl _ ⟨st.vars, [], sh (j + 1) σ2, st.nx⟩ (by rw [← em4]; exact s4.sim.mem) s4.fresh (by rw [← em4]; exact S4) rfl rfl;exact ⟨_, _, hrb none, F3, hE, .inl ⟨rfl, X3, _, σ2, hinv2, hcore, hj4, hX3 l (.inl hXl), World.putObj_heap_same hlt3⟩⟩
  | ret =>
    obtain ⟨hcore, hj4, hE⟩ := fin (.loop (rec .done (some .ret))) rfl G3 ⟨st.vars, [], st3.mem, st3.nx⟩ s3.sim.mem s3.fresh .refl rfl rfl;exact ⟨_, _, hrb (some .ret), F3, hE, .inr ⟨rfl, X3, G3, st3.mem, st3.nx, k3, .ret, .inl ⟨rfl, hq⟩, hcore, hj4, hX3 l (.inl hXl), World.putObj_heap_same hlt3⟩⟩
  | exit id =>
    obtain ⟨hcore, hj4, hE⟩ := fin (.loop (rec .done (some (.exit id)))) rfl G3 ⟨st.vars, [], st3.mem, st3.nx⟩ s3.sim.mem s3.fresh .refl rfl rfl;exact ⟨_, _, hrb (some (.exit id)), F3, hE, .inr ⟨rfl, X3, G3, st3.mem, st3.nx, k3, .exit id, .inr ⟨id, rfl, hq⟩, hcore, hj4, hX3 l (.inl hXl), World.putObj_heap_same hlt3⟩⟩
  | goto t => exact hq.elim
  | panic ch => exact hq.elim
  | outgrown => exact hq.elim
 obtain ⟨X1, hX1⟩ : ∃ X1 : Nat → Prop, X1 = fun b => X b ∨ (w.heap.size ≤ b ∧ b < W1.heap.size) := ⟨_, rfl⟩;have hX1m : MarksIn ro L X1 := by
  rw [hX1];refine ⟨fun D hD => ?_, fun l0 hl => .inl (hm.2.1 l0 hl), fun l0 hl => ?_⟩
  ·have h1 := hmk.lt.1 D hD;rw [hL] at hD;rcases List.mem_append.1 hD with h | h
   ·exact .inr ⟨hmkn.1 D h, h1⟩
   ·exact .inl (hm.1 D h)
  ·rw [hL]; exact hmkn.2 l0 hl
 have I1 : ItStep (OwnX G st.mem X) F w (OwnX G st.mem X1) F W1 := by
  refine ⟨hsz1, fun b hb _ => hold1 b hb, fun _ _ h => h, fun b o h => cell?_same (hold1 b (s.sim.mem.inF b o h)) o, fun _ _ h => .inl h, fun b hb => ?_, hF1, fun b hb => ?_, hkp1⟩
  ·rw [hX1] at hb;rcases hb with h | h | h
   ·exact .inr (.inl h)
   ·exact .inr (.inr h)
   ·exact .inl h.1
  ·rw [hX1] at hb;rcases hb with h | h | h
   ·exact Nat.lt_of_lt_of_le (s.sim.mem.lt h) hsz1
   ·exact Nat.lt_of_lt_of_le (hx.low b h) hsz1
   ·exact h.2
 have E1 : EnvStep (fun b => b < w.heap.size) F w F W1 := ⟨hsz1, fun b hb => hold1 b hb, fun _ _ h => h, fun b o h => cell?_same (hold1 b (s.sim.mem.inF b o h)) o, fun _ _ h _ => h, hF1, hkp1⟩;have e10 : withO X1 (fun _ => False) = X1 := funext fun b => propext ⟨fun h => h.elim id False.elim, .inl⟩;obtain ⟨σ0, hm0, hinv0, rfl⟩ := hst;have hj0 : I (some 0) F (fun _ => False) W1 := by
  refine ⟨X1, G, σ0, hinv0, ⟨by rw [← hm0]; exact s.sim.mem.keepData hk1 hsz1, fun i => ?_, s.fresh, hmk, ?_, hX1m, fun _ h => h.elim, Nat.le_refl _, ⟨fun D hD => hmk.lt.1 D hD, fun l0 hl => hmk.lt.2 l0 hl⟩, fun b hb => ⟨?_, ?_⟩⟩, ?_, ?_, hl1⟩
  ·have := s.clr.sim.slots i;simp only [← hm0];exact this.keepData hk1
  ·rw [e10];simp only [← hm0];refine ⟨hx.env.trans (E1.sub fun b hb => hx.low b (hx.sub b hb)), hx.gs.trans (.ofEnv E1), fun b hb => I1.low b (.inr hb), fun b hb ho => ?_, fun b hb => by rw [hX1]; exact .inl (hx.sub b hb)⟩;rw [hX1] at hb;rcases hb with h | h
   ·exact hx.disj b h ho
   ·have := s.sim.mem.lt ho; omega
  ·have := hx.low b (hx.sub b hb); omega
  ·rw [hX1]; exact .inl (hx.sub b hb)
  ·rw [e10, ← hm0]; exact hJ _ _ _ _ _ _ _ hj I1
  ·rw [hX1]; exact .inr ⟨hlw, hlN⟩
 refine ⟨l, mk, W1, { target := .fn (.func gf) vs.toArray, args := #[yv l] }, W1, gf, #[yv l] ++ vs.toArray, W1, he, ?_, fun _ _ => trivial, ?_, fun h => by simp [fc, Fence.wide] at h, ?_⟩
 ·simp only [rangeCall, resolve, hev];simp [go_sem, yv, Deferred.ofValue]
 ·have := hs.1 (#[yv l] ++ vs.toArray) W1;simp only [invoke];exact this
 ·have hcall := hs.2 l I hI hy F W1 vs ⟨hF1, s.sim.mem.gl.mono (fun _ _ h => h) fun b o h => cell?_same (hold1 b (s.sim.mem.inF b o h)) o⟩ ⟨hvl, fun i h1 h2 => ((hvs i h1 h2).imm_of (norefs_get caps hn i h2)).mono (fun _ _ h => h) fun b o h => cell?_same (hold1 b (s.sim.mem.inF b o h)) o⟩ hj0;refine CallsIn.mono (F := fc ro) (n := 0 - 1) (callsIn_fc hcall) ?_;rintro e W2 ⟨v, F2, rfl, hj2⟩;have close : ∀ {X2 : Nat → Prop} {G2 : Nat → Option Value} {M2 : Mem} {nx2 : Nat} {k2 : Option Nat} {o1 o2 : Obj}, CoreY P fr ro h0 a W1.heap.size L R ⟨st.vars, [], M2, nx2⟩ X2 G2 F2 (fun _ => False) W2 → J k2 F2 (OwnX G2 M2 (withO X2 fun _ => False)) W2 → X2 l → W2.heap[l]? = some o1 → isData o1 = false → isData o2 = false → (∀ D, dmark D ∈ L → D ≠ l) →
    InY P fr ro h0 J R ⟨st.vars, [], M2, nx2⟩ k2 { a with defers := mk ++ a.defers } (W2.putObj l o2) := by
   intro X2 G2 M2 nx2 k2 o1 o2 hc hj3 hXl hl2 h1 h2 hDl;have e20 : withO X2 (fun _ => False) = X2 := funext fun b => propext ⟨fun h => h.elim id False.elim, .inl⟩;have ok2 := hc.ok;rw [e20] at hj3 ok2;have hk2 : ∀ (b : Nat) (o : Obj), W2.heap[b]? = some o → isData o = true → (W2.putObj l o2).heap[b]? = some o := keep_put hl2 h1 o2;have hl' : ∀ b, R.X b → b ≠ l := fun b hb => by rintro rfl; have := hx.low b (hx.sub b hb); omega
   refine ⟨X2, L, G2, F2, ⟨ok2.env.trans ⟨by rw [World.putObj_size]; exact Nat.le_refl _, fun b hb => World.putObj_heap_other (hl' b hb), fun _ _ h => h, fun b o _ => putNd hl2 h1 h2 b o, fun _ _ h _ => h, fun b o h => by rw [World.putObj_size]; exact hc.mem.inF b o h, .set hl2 (unfroz_nd h1) (unfroz_nd h2) (fun _ _ h => by subst h; cases h1)⟩, ok2.gs.trans { (GS.refl : GS (· < fr.base) G2 F2 M2 W2 G2 F2 M2 W2) with F2 := fun b o _ => putNd hl2 h1 h2 b o }, fun b hb => by rw [World.putObj_size]; exact ok2.low b hb, ok2.disj, ok2.sub⟩, hc.mks, ?_, ?_⟩
   ·refine ⟨⟨hc.mem.keepData hk2 (by rw [World.putObj_size]; exact Nat.le_refl _), fun i => (hc.slots i).keepData hk2, s.sim.size⟩, hc.fresh, ?_⟩;simp only;rw [hd0, ← hL];refine hc.marks.keep' (fun D hD => World.putObj_heap_other (hDl D hD)) (fun l0 hl0 => World.putObj_heap_other ?_) (by rw [World.putObj_size]; exact Nat.le_refl _);rintro rfl;obtain ⟨r, hr⟩ := s.defers.2.1 l0 hl0;have := (Array.getElem?_eq_some_iff.1 hr).1;omega
   ·exact hJ _ _ _ _ _ _ _ hj3 (.put hl2 h1 h2 (.inr hXl) hc.mem.inF fun b hb => hb.elim (fun hb => hc.mem.lt hb) (ok2.low b))
  have hDl : ∀ D, dmark D ∈ L → D ≠ l := fun D hD => by
   rintro rfl;obtain ⟨Ds, e1, _, e3⟩ := hmk.1;have : D ∈ Ds := by
    rw [e1] at hD;obtain ⟨D', h7, h8⟩ := List.mem_map.1 hD;have : D' = D := by simpa [dmark] using h8
    exact this ▸ h7
   have := (e3 D this).2;rw [hl1] at this; cases this
  rcases hj2 with hj2 | hj2
  ·obtain ⟨X2, G2, σ2, hinv2, hc, hj3, hXl, hl2⟩ := hj2;refine ⟨none, _, by have := run_endLoop (P := P) hl2 (by rw [hrec]; simp); rw [hrec] at this; exact this, ?_⟩;exact ⟨_, _, close hc hj3 hXl hl2 rfl rfl hDl, done σ2 hinv2⟩
  ·obtain ⟨X2, G2, M2, nx2, k2, c, hcq, hc, hj3, hXl, hl2⟩ := hj2;refine ⟨some c, _, by have := run_endLoop (P := P) hl2 (by rw [hrec]; simp); rw [hrec] at this; exact this, ?_⟩;rcases hcq with ⟨rfl, hq⟩ | ⟨id, rfl, hq⟩
   ·exact wpIn_ret (F := fc ro) (n := 0) (P := P) ⟨_, _, close hc hj3 hXl hl2 rfl rfl hDl, hq⟩
   ·exact wpIn_exit (F := fc ro) (n := 0) (P := P) ⟨_, _, close hc hj3 hXl hl2 rfl rfl hDl, hq⟩
end
section
variable {P : Program} {fr : Fr} {ro : Option Nat} {ds : DS} {st st' : St} {G G' : Nat → Option Value} {F F' : Nat → Nat → Prop} {a : Act} {w w' : World} {x y c : Code}
 {M : Mem} {ops : Array Oper} {l l1 l2 rest : List Oper} {o : Oper} {h0 : Nat} {J : Env} {k : Option Nat} {Q Q' : Exit → St → Option Nat → Prop}
theorem oper_monoQ {Fe : Fence} {n : Nat} {K K' : Act → World → Prop} {R R' : Exit → Act → World → Prop} (hK : ∀ a w, K a w → K' a w) (hR : ∀ e a w, e ≠ .normal → R e a w → R' e a w) (h : o.wpIn Fe n P a w K R) : o.wpIn Fe n P a w K' R' := by
 have h1 := Oper.wpIn_mono (o := o) hK h;unfold Oper.wpIn at *;refine ⟨h1.1, ?_⟩;have h1 := h1.2;clear h;generalize (o.semAt Fe.round a.eval).run P w = r at *;have lo : LetsOut R → LetsOut R' := fun ⟨a, w, hl⟩ => ⟨a, w, hR _ a w (by intro h; cases h) hl⟩;cases r with
 | ok v w2 =>
   cases v with
   | value v => exact h1
   | skip => exact h1
   | defer d => exact h1
   | enter f args =>
     refine ⟨h1.1, CallsIn.mono h1.2 fun e w3 h => ?_⟩;cases e with
     | returned v => exact h
     | panicked ch => exact hR _ _ _ (by intro h; cases h) h
     | outgrown => exact lo h
   | row row args => exact h1
   | round l f tmps assign body =>
     refine ⟨h1.1, RoundIn.mono h1.2 fun e w3 h => ?_⟩;cases e with
     | returned v => exact h
     | panicked ch => exact hR _ _ _ (by intro h; cases h) h
     | outgrown => exact lo h
   | _ => exact h1
 | halt v w2 =>
   cases v with
   | panic v => exact hR _ _ _ (by intro h; cases h) h1
   | _ => exact h1
theorem wpListIn_append {Fe : Fence} {n : Nat} {R R' : Exit → Act → World → Prop} (hN : ∀ a w, R .normal a w → wpListIn Fe n P ops R' l2 a w) (hR : ∀ e a w, e ≠ .normal → R e a w → R' e a w) : ∀ {l1 : List Oper} {a : Act} {w : World}, wpListIn Fe n P ops R l1 a w → wpListIn Fe n P ops R' (l1 ++ l2) a w
 | [], a, w, h => hN a w h
 | o :: l1, a, w, h => by
   simp only [wpListIn, List.cons_append] at h ⊢;split
   ·rename_i hw;rw [if_pos hw] at h;exact oper_monoQ (fun a w h => wpListIn_append hN hR h) hR h
   ·rename_i hw;rw [if_neg hw] at h;exact ⟨h.1, wpListIn_append hN hR h.2⟩
theorem XRY.pre (n : Nat) (hJ : Stable J) (h : ∀ {L : List Deferred}, XR P fr ro ⟨h0, ro, some L⟩ ops (l.take n) st fun e st' => e = .normal ∧ XRY P fr ro h0 J ops (l.drop n) st' k Q) : XRY P fr ro h0 J ops l st k Q := by
 rintro R a w ⟨X, L, G, F, hx, hm, s, hj⟩;have h1 := h (L := L) G F st.mem w G F a w .refl s;have h2 := wpListIn_append (l2 := l.drop n) (R' := PostY P fr ro h0 J R Q) (fun a' w' ⟨G', F', st', s', S', _, hq⟩ => hq R a' w' (.step hJ hx hm hj s' (fun _ h => h) S')) (fun e a' w' he ⟨_, _, _, _, _, h, _⟩ => absurd h he) h1
 rwa [List.take_append_drop] at h2
theorem yield_core {R : YRef} {lp : Nat} {xs : List (List AV)} {n : Nat} {callee : Operand} {args : Array Operand} {tys : Array TypeId} (hn : n < xs.length) (hy : Yields P J lp xs) (hop : o.op = .call ⟨.value callee, args, tys⟩) (hd : dok fr o.dst = true)
  (hcal : od fr st true callee = .sc (yv lp)) (hxs : callArgs fr st args = xs[n]) (hnr : AV.norefs xs[n] = true) {K : Act → World → Prop} {Q0 : Exit → Act → World → Prop}
  (hK : ∀ (b : Bool) a w, InY P fr ro h0 J R ((⟨st.vars, st.tmps, st.mem, st.nx + 1⟩ : St).put fr o.dst (.sc (.bool b))) (if b = true then some (n + 1) else none) a w → K a w) (i : InY P fr ro h0 J R st (some n) a w) : o.wpIn (fc ro) 0 P a w K Q0 := by
 obtain ⟨X, L, G, F, hx, hm, s, hj⟩ := i;refine ⟨fun _ _ => trivial, ?_⟩;have hsem : o.semAt (fc ro).round a.eval = execOp a.eval o := Oper.semAt_eq _ _ _ (by rw [hop]; intro c h; cases h);rw [hsem];have hv := (s.eval callee).unopt;have hv : RV G F st.mem w (a.eval callee) (.sc (yv lp)) := by unfold od at hcal; rwa [hcal] at hv
 have hev := hv.inv_sc;have hi : Imms F w (args.toList.map a.eval) xs[n] := by
  rw [← hxs];refine .of_rv (G := G) (M := st.mem) (by simp [callArgs]) (fun i h1 h2 => ?_) (by rw [hxs]; exact hnr);simp only [callArgs, List.getElem_map];exact ((s.eval _).unopt).snap s.sim.mem
 obtain ⟨fn, tmps, assign, body, hrun, hround⟩ := hy n F (OwnX G st.mem X) w _ hn s.sim.mem.fok (fun b hb => hb.elim (fun hb => s.sim.mem.lt hb) (hx.low b)) hi hj;have hrun' : (execOp a.eval o).run P w = .ok (.round lp fn tmps assign body) w := by
  obtain ⟨dst, op, ty, pos, after, guard⟩ := o;simp only at hop;subst hop;have e : args.map a.eval = (args.toList.map a.eval).toArray := by apply Array.ext'; simp
  rw [← e] at hrun;simp only [execOp, resolve, hev, yv, Deferred.ofValue, Sem.run_bind, Sem.run_pure, Result.andThen_ok, invoke];simpa using hrun
 rw [hrun', Oper.uponIn_round];refine ⟨fun h => by simp [fc, Fence.wide] at h, RoundIn.mono (roundIn_fc hround) ?_⟩;rintro e w' ⟨F', E, h1⟩;have hdl : a.defers = L := s.defers.2.2.1 L rfl;have s1 := s.env (fun D hD => .inr (hm.1 D (by rw [← hdl]; exact hD))) (fun l0 hl => .inr (hm.2.1 l0 hl)) E fun _ h => .inl h;have hput : ∀ b : Bool, SimA P fr ⟨h0, ro, some L⟩ G F' ((⟨st.vars, st.tmps, st.mem, st.nx + 1⟩ : St).put fr o.dst (.sc (.bool b))) (a.put o.dst (.bool b)) w' := fun b =>
  s1.step_put (st1 := ⟨st.vars, st.tmps, st.mem, st.nx + 1⟩) .refl (s1.sim.mem.more (Nat.le_succ _)) rfl rfl (fun j hj => s.fresh j (Nat.le_of_succ_le hj)) (dok_spec hd) (.imm (.sc _))
 have hx' := hx.envs E fun b hb => .inr hb;have fin : ∀ (b : Bool), J (if b = true then some (n + 1) else none) F' (OwnX G st.mem X) w' → InY P fr ro h0 J R ((⟨st.vars, st.tmps, st.mem, st.nx + 1⟩ : St).put fr o.dst (.sc (.bool b))) (if b = true then some (n + 1) else none) (a.put o.dst (.bool b)) w' := fun b hj' =>
  ⟨X, L, G, F', by rw [St.put_mem]; exact hx', hm, hput b, by rw [St.put_mem]; exact hj'⟩
 rcases h1 with ⟨rfl, hj'⟩ | ⟨rfl, hj'⟩
 ·exact hK true _ _ (fin true hj')
 ·exact hK false _ _ (fin false hj')
theorem XRY.yieldG {lp j g : Nat} {want : Bool} {xs : List (List AV)} {n : Nat} {callee : Operand} {args : Array Operand} {tys : Array TypeId} (hn : n < xs.length) (hy : Yields P J lp xs) (hg : o.guard = some (j, want)) (hj : gslot ops j = some g) (hk : gval want (st.get fr g) = some true) (hop : o.op = .call ⟨.value callee, args, tys⟩) (hd : dok fr o.dst = true)
  (hcal : od fr st true callee = .sc (yv lp)) (hxs : callArgs fr st args = xs[n]) (hnr : AV.norefs xs[n] = true)
  (h : ∀ b : Bool, XRY P fr ro h0 J ops rest ((⟨st.vars, st.tmps, st.mem, st.nx + 1⟩ : St).put fr o.dst (.sc (.bool b))) (if b = true then some (n + 1) else none) Q) : XRY P fr ro h0 J ops (o :: rest) st (some n) Q := by
 intro R a w i;have hw : Region.wanted o (yielded ops a.tmps) = true := by
  obtain ⟨X, L, G, F, hx, hm, s, hj'⟩ := i;exact wanted_ok s hg hj hk
 simp only [wpListIn, hw, if_true];exact yield_core hn hy hop hd hcal hxs hnr (fun b a w i => h b R a w i) i
end
mutual
def AV.ff : AV → Bool
 | .sl _ es _ => es.isEmpty
 | .ia cs => cs.isEmpty
 | .ag cs => AV.ffs cs
 | .tu cs => AV.ffs cs
 | .fn _ cs => AV.ffs cs
 | .ifc _ x => x.ff
 | .opt _ x => x.ff
 | _ => true
def AV.ffs : List AV → Bool
 | [] => true
 | c :: cs => c.ff && AV.ffs cs
end
theorem AV.ffs_get : ∀ {cs : List AV}, AV.ffs cs = true → ∀ i (h : i < cs.length), cs[i].ff = true
 | c :: cs, h, i, hi => by
   simp only [AV.ffs, Bool.and_eq_true] at h;cases i with
   | zero => exact h.1
   | succ i => exact AV.ffs_get h.2 i (by simpa using hi)
def RObj.ff : RObj → Bool
 | .cells cs => AV.ffs cs
 | .arr _ es _ => es.all AV.ffs
 | .map _ es => es.all fun e => e.2.ff
def memFf (M : Mem) : Bool := M.all fun p => p.2.ff
section
variable {P : Program} {fr : Fr} {ro : Option Nat} {ds : DS} {st st' : St} {G G' : Nat → Option Value} {F F' F2 : Nat → Nat → Prop} {a : Act} {w w' : World} {x y c : Code}
 {M : Mem} {ops : Array Oper} {l rest : List Oper} {o : Oper} {h0 : Nat} {J : Env} {k : Option Nat} {O : Nat → Prop}
theorem Imm.ff {v : Value} {x : AV} (h : Imm F w v x) (hf : x.ff = true) : Imm F2 w v x := by
 induction h with
 | sc v => exact .sc v
 | ag vs cs hl _ ih => exact .ag vs cs hl fun i h1 h2 => ih i h1 h2 (AV.ffs_get (by simpa [AV.ff] using hf) i h2)
 | tu vs cs hl _ ih => exact .tu vs cs hl fun i h1 h2 => ih i h1 h2 (AV.ffs_get (by simpa [AV.ff] using hf) i h2)
 | nil cap hc => exact .nil cap hc
 | sl b off c esz es cap vs hc hcap hes hF hi ih =>
   have : es = [] := by simpa [AV.ff] using hf
   subst this;exact .sl b off c esz [] cap vs hc hcap hes (fun i j h => absurd h (Nat.not_lt_zero _)) (fun i j h => absurd h (Nat.not_lt_zero _))
 | sz a cap hc => exact .sz a cap hc
 | ia b off cs vs hF hi ih =>
   have : cs = [] := by simpa [AV.ff] using hf
   subst this;exact .ia b off [] vs (fun j h => absurd h (Nat.not_lt_zero _)) (fun j h => absurd h (Nat.not_lt_zero _))
 | ifc t v x _ ih => exact .ifc t v x (ih (by simpa [AV.ff] using hf))
 | fn f vs cs hl _ ih => exact .fn f vs cs hl fun i h1 h2 => ih i h1 h2 (AV.ffs_get (by simpa [AV.ff] using hf) i h2)
 | opt b v x _ h' ih => exact .opt b v x (fun hb => ih hb (by simpa [AV.ff] using hf)) h'
 | junk v => exact .junk v
theorem RV.ff {v : Value} {x : AV} (h : RV G F M w v x) (hf : x.ff = true) : RV G F2 M w v x := by
 induction h with
 | imm h => exact .imm (h.ff hf)
 | ag vs cs hl _ ih => exact .ag vs cs hl fun i h1 h2 => ih i h1 h2 (AV.ffs_get (by simpa [AV.ff] using hf) i h2)
 | tu vs cs hl _ ih => exact .tu vs cs hl fun i h1 h2 => ih i h1 h2 (AV.ffs_get (by simpa [AV.ff] using hf) i h2)
 | ifc t v x _ ih => exact .ifc t v x (ih (by simpa [AV.ff] using hf))
 | fn f vs cs hl _ ih => exact .fn f vs cs hl fun i h1 h2 => ih i h1 h2 (AV.ffs_get (by simpa [AV.ff] using hf) i h2)
 | opt b v x _ h' ih => exact .opt b v x (fun hb => ih hb (by simpa [AV.ff] using hf)) h'
 | rf id off b h => exact .rf id off b h
 | tl id len nl v hG h => exact .tl id len nl v hG h
 | tv id n off len cap v hG h => exact .tv id n off len cap v hG h
 | ea id n i off v hG h => exact .ea id n i off v hG h
 | mp id b h => exact .mp id b h
theorem ObjOk.ff {id : Nat} {ob : RObj} (h : ObjOk P G F M w id ob) (hf : ob.ff = true) (h1 : ∀ b o, F2 b o → F b o) (h2 : ∀ v b, G id = some v → blkOf v = some b → ∀ o, F b o → F2 b o) : ObjOk P G F2 M w id ob := by
 cases ob with
 | cells cs =>
   obtain ⟨b, c, e, k1, k2, k3, k4, k5⟩ := h;exact ⟨b, c, e, k1, k2, k3, fun i a b => (k4 i a b).ff (AV.ffs_get hf i b), fun o hF => k5 o (h1 _ _ hF)⟩
 | arr esz es fz =>
   have hf : ∀ i (h : i < es.length) j (h' : j < es[i].length), es[i][j].ff = true := fun i h j h' => AV.ffs_get ((List.all_eq_true.1 hf) _ (List.getElem_mem h)) j h';rcases h with h | ⟨b, c, cc, e, k1, k2, k3, k4, k5, k6, k7, k8, k9⟩
   ·exact .inl h
   ·refine .inr ⟨b, c, cc, e, k1, k2, k3, k4, k5, k6, fun i j a b => let ⟨v, x, y, z⟩ := k7 i j a b; ⟨v, x, y, z.ff (hf i a j b)⟩, fun o hF => k8 o (h1 _ _ hF), fun hz => ⟨(k9 hz).1, fun o ho => h2 _ b k1 (by simp [blkOf, k2]) o ((k9 hz).2 o ho)⟩⟩
 | map kt es =>
   obtain ⟨b, ents, clock, k1, k2, k3, k4, k5⟩ := h;exact ⟨b, ents, clock, k1, k2, k3, fun i a b => let ⟨x, y, z⟩ := k4 i a b; ⟨x, y.ff ((List.all_eq_true.1 hf) _ (List.getElem_mem b)), z⟩, fun o hF => k5 o (h1 _ _ hF)⟩
theorem mlook_mem : ∀ {M : Mem} {i : Nat} {o : RObj}, mlook M i = some o → (i, o) ∈ M
 | (j, u) :: M, i, o, h => by
   simp only [mlook] at h;split at h
   ·rename_i e; cases h; subst e; exact List.mem_cons_self
   ·exact List.mem_cons_of_mem _ (mlook_mem h)
theorem SimM.ff {nx : Nat} (h : SimM P G F M nx w) (hf : memFf M = true) (h1 : ∀ b o, F2 b o → F b o) (h2 : ∀ b, Owned G M b → ∀ o, F b o → F2 b o) (hg : Globs F2 w) : SimM P G F2 M nx w :=
 ⟨fun id o ho => ⟨(h.obj id o ho).1, (h.obj id o ho).2.ff ((List.all_eq_true.1 hf) _ (mlook_mem ho)) h1 fun v b h3 h4 => h2 b ⟨id, o, v, ho, h3, h4⟩⟩, h.inj, fun b o hF => h.inF b o (h1 b o hF), hg⟩
def LentAt (O : Nat → Prop) (F : Nat → Nat → Prop) (w : World) (v : Value) (xs : List Int) : Prop :=
 ∃ b c, v = .slice (some ⟨b, 0, none⟩) xs.length c ∧ xs.length ≤ c ∧ O b ∧ (∀ o, ¬ F b o) ∧ ∀ i (h : i < xs.length), w.cell? ⟨b, i, none⟩ = some (.int .i64 xs[i])
def YieldsT (P : Program) (J : Env) (l : Nat) (xs : List (List Int)) : Prop :=
 ∀ k F O w v (h : k < xs.length), FOk F w → (∀ b, O b → b < w.heap.size) → LentAt O F w v xs[k] → J (some k) F O w →
   YieldAt Fence.wide 0 P l #[v] w fun e w' => ∃ F', EnvStep O F w F' w' ∧ ((e = .returned (.bool true) ∧ J (some (k + 1)) F' O w') ∨ (e = .returned (.bool false) ∧ J none F' O w'))
def SeqIsT (P : Program) (g : FuncId) (caps : List AV) (xs : List (List Int)) : Prop := SeqIsG P g caps xs.length fun J l => YieldsT P J l xs
def lentC (x : Int) : List AV := [.sc (.int .i64 x)]
theorem XRY.yieldT {Q : Exit → St → Option Nat → Prop} {lp : Nat} {xs : List (List Int)} {n id len : Nat} {cap : Cp} {fz : Bool} {callee x : Operand} {tys : Array TypeId} (hn : n < xs.length) (hy : YieldsT P J lp xs) (hg : o.guard = none) (hop : o.op = .call ⟨.value callee, #[x], tys⟩) (hd : dok fr o.dst = true)
  (hcal : od fr st true callee = .sc (yv lp)) (hx : od fr st true x = .tv id len 0 len cap) (hm : mlook st.mem id = some (.arr 1 (xs[n].map lentC) false)) (hlen : len = xs[n].length) (hpos : len ≠ 0)
  (h : ∀ b : Bool, XRY P fr ro h0 J ops rest ((⟨st.vars, st.tmps, st.mem, st.nx + 1⟩ : St).put fr o.dst (.sc (.bool b))) (if b = true then some (n + 1) else none) Q) : XRY P fr ro h0 J ops (o :: rest) st (some n) Q := by
 rintro R a w ⟨X, L, G, F, hxk, hmk, s, hj⟩;refine wpListIn_plain hg fun K hK => ?_;refine ⟨fun _ _ => trivial, ?_⟩;rw [Oper.semAt_eq _ _ _ (by rw [hop]; intro c h; cases h)];have hv := (s.eval callee).unopt;have hv : RV G F st.mem w (a.eval callee) (.sc (yv lp)) := by unfold od at hcal; rwa [hcal] at hv
 have hev := hv.inv_sc;have hvx := (s.eval x).unopt;have hvx : RV G F st.mem w (a.eval x) (.tv id len 0 len cap) := by unfold od at hx; rwa [hx] at hvx
 have hlent : LentAt (OwnX G st.mem X) F w (a.eval x) xs[n] := by
  obtain ⟨_, h1⟩ := hvx.inv_tv;obtain ⟨_, h2⟩ := h1 _ _ _ hm;have hl2 : (xs[n].map lentC).length = xs[n].length := List.length_map _;obtain ⟨_, b, c, hG, _, c', hv', hc', _⟩ := h2 (by rw [hl2]; exact hlen);rcases (s.sim.mem.obj id _ hm).2 with ⟨he, _⟩ | ⟨b2, c2, cc, e, k1, k2, k3, k4, k5, k6, k7, k8, k9⟩
  ·rw [List.map_eq_nil_iff] at he; rw [he] at hlen; exact absurd hlen hpos
  ·rw [hG] at k1;cases k1;refine ⟨b, c', by rw [hv', hlen, Nat.zero_mul], by omega, .inl ⟨id, _, _, hm, hG, by simp only [blkOf, if_neg k2]⟩, fun o hF => (by have := (k8 o hF).1; cases this), fun i hi => ?_⟩;obtain ⟨v, e1, e2, e3⟩ := k7 i 0 (by rw [hl2]; exact hi) (by simp [lentC]);have e4 : (xs[n].map lentC)[i]'(by rw [hl2]; exact hi) = lentC xs[n][i] := List.getElem_map _;have e5 : v = .int .i64 xs[n][i] := by
    have : RV G F st.mem w v (.sc (.int .i64 xs[n][i])) := by
     have h7 : ((xs[n].map lentC)[i]'(by rw [hl2]; exact hi))[0]'(by rw [e4]; simp [lentC]) = .sc (.int .i64 xs[n][i]) := by simp [e4, lentC]
     rw [← h7]; exact e3
    exact this.inv_sc
   subst e5;rw [Nat.mul_one, Nat.add_zero] at e1;simp only [World.cell?, k3, Option.bind_some, e1];rfl
 obtain ⟨fn, tmps, assign, body, hrun, hround⟩ := hy n F (OwnX G st.mem X) w _ hn s.sim.mem.fok (fun b hb => hb.elim (fun hb => s.sim.mem.lt hb) (hxk.low b)) hlent hj;have hrun' : (execOp a.eval o).run P w = .ok (.round lp fn tmps assign body) w := by
  obtain ⟨dst, op, ty, pos, after, guard⟩ := o;simp only at hop;subst hop;simp only [execOp, resolve, hev, yv, Deferred.ofValue, Sem.run_bind, Sem.run_pure, Result.andThen_ok, invoke];simpa using hrun
 rw [hrun', Oper.uponIn_round];refine ⟨fun h => by simp [fc, Fence.wide] at h, RoundIn.mono (roundIn_fc hround) ?_⟩;rintro e w' ⟨F', E, h1⟩;have hdl : a.defers = L := s.defers.2.2.1 L rfl;have s1 := s.env (fun D hD => .inr (hmk.1 D (by rw [← hdl]; exact hD))) (fun l0 hl => .inr (hmk.2.1 l0 hl)) E fun _ h => .inl h;have hput : ∀ b : Bool, SimA P fr ⟨h0, ro, some L⟩ G F' ((⟨st.vars, st.tmps, st.mem, st.nx + 1⟩ : St).put fr o.dst (.sc (.bool b))) (a.put o.dst (.bool b)) w' := fun b =>
  s1.step_put (st1 := ⟨st.vars, st.tmps, st.mem, st.nx + 1⟩) .refl (s1.sim.mem.more (Nat.le_succ _)) rfl rfl (fun j hj => s.fresh j (Nat.le_of_succ_le hj)) (dok_spec hd) (.imm (.sc _))
 have hx' := hxk.envs E fun b hb => .inr hb;have fin : ∀ (b : Bool), J (if b = true then some (n + 1) else none) F' (OwnX G st.mem X) w' → InY P fr ro h0 J R ((⟨st.vars, st.tmps, st.mem, st.nx + 1⟩ : St).put fr o.dst (.sc (.bool b))) (if b = true then some (n + 1) else none) (a.put o.dst (.bool b)) w' := fun b hj' =>
  ⟨X, L, G, F', by rw [St.put_mem]; exact hx', hmk, hput b, by rw [St.put_mem]; exact hj'⟩
 rcases h1 with ⟨rfl, hj'⟩ | ⟨rfl, hj'⟩
 ·exact hK _ _ (h true _ _ _ (fin true hj'))
 ·exact hK _ _ (h false _ _ _ (fin false hj'))
variable {Q : Exit → St → Prop}
end
section
variable {P : Program} {fr : Fr} {ro : Option Nat} {ds : DS} {st st' : St} {G G' : Nat → Option Value} {F F' F2 : Nat → Nat → Prop} {a : Act} {w w' : World} {x y c : Code}
 {M : Mem} {ops : Array Oper} {l rest : List Oper} {o : Oper} {h0 : Nat} {J : Env} {k : Option Nat} {O : Nat → Prop}
def resG (B : Nat) (G : Nat → Option Value) (id : Nat) : Option Value := if id < B then G id else none
theorem resG_lt {B : Nat} {G : Nat → Option Value} {id : Nat} (h : id < B) : resG B G id = G id := if_pos h
theorem resG_ne {B : Nat} {G : Nat → Option Value} {id : Nat} (h : resG B G id ≠ none) : id < B := by
 by_cases hb : id < B
 ·exact hb
 ·exact absurd (if_neg hb) h
theorem Step.res {B : Nat} {M' : Mem} (S : Step (· < B) G F M w G' F' M' w') : GS (· < B) (resG B G) F M w (resG B G') F' M' w' where
 F1 := S.F1
 F2 := S.F2
 some' := fun id hB h => by rw [resG_lt hB] at h ⊢; exact S.some' id hB h
 same := fun id v hB h hv => by rw [resG_lt hB] at h ⊢; exact S.same id v hB h hv
 keep := fun id o' hB h hm => by rw [resG_lt hB] at h ⊢; rw [resG_lt hB]; exact S.keep id o' hB h hm
theorem RV.unres {B : Nat} {v : Value} {x : AV} (h : RV (resG B G) F M w v x) : RV G F M w v x :=
 h.gs (B := (· < B)) (G' := G) (F' := F) (M' := M) (w' := w)
  { F1 := fun _ _ h => h, F2 := fun _ _ _ => rfl
    some' := fun id hB h => by rwa [resG_lt hB] at h
    same := fun id v hB h _ => by rwa [resG_lt hB] at h
    keep := fun id o' hB h hm => by
     rw [resG_lt hB] at h ⊢;obtain ⟨v, hv⟩ := Option.ne_none_iff_exists'.1 h;exact ⟨o', v, v, hm, hv, hv, by cases o' <;> simp [objKeep]⟩ } fun id h => resG_ne h
variable {Q : Exit → St → Prop}
theorem EvC.rangeN {σ : Type} {g : Operand} {ps : Array Tmp} {assign body : Code} {gf : FuncId} {caps : List AV} {xs : List (List Int)} (hro : ds.ro = ro) (hnm : ro = none → ds.nm = none) (hg : opnd fr st.clr g = .fn gf caps) (hn : AV.norefs caps = true) (hs : SeqIsT P gf caps xs)
  (hpos : ∀ x ∈ xs, x ≠ []) (hps : ps.size = 1) (hpk : ∀ p ∈ ps, p < fr.sz) (hbase : fr.base ≤ st.nx) (NX : Nat) (hNX : st.nx ≤ NX) (sh : Nat → σ → Mem) (inv : Nat → σ → Prop) (hff : ∀ k s, inv k s → memFf (sh k s) = true) (h0 : ∃ s, st.mem = sh 0 s ∧ inv 0 s)
  (round : ∀ k s lp, (hk : k < xs.length) → inv k s → EvC P ⟨st.nx, fr.nv, fr.hid, fr.sz⟩ (some lp) ⟨0, some lp, true⟩ assign (bindP ⟨st.nx, fr.nv, fr.hid, fr.sz⟩ ps.toList [.sl false (xs[k].map lentC) .unk] ⟨st.vars, [], sh k s, NX⟩) fun e st1 => e = .normal ∧
   EvC P ⟨st.nx, fr.nv, fr.hid, fr.sz⟩ (some lp) ⟨0, some lp, true⟩ body st1 fun e st2 => match e with
    | .normal => ∃ K s', gcOk st.nx NX K = true ∧ renMem st2.mem K K = sh (k + 1) s' ∧ inv (k + 1) s'
    | _ => False)
  (done : ∀ s, inv xs.length s → Q .normal ⟨st.vars, [], sh xs.length s, NX⟩) : EvC P fr ro ds (.rangeFunc g ps assign body) st Q := by
 intro G0 F0 M0 w0 G F a w S s;refine wpIn_rangeFunc fun fn hfn => ?_;obtain ⟨l, mk, W1, D, he, hlw, hl1, hsz1, hold1, hmk, hkp1, _⟩ := enter_loop (P := P) hro hnm s.defers fn ps assign body;obtain ⟨rec, hrec⟩ : ∃ rec : LoopState → Option Code → Loop, rec = fun st pe => { state := st, pending := pe, fn, tmps := a.tmps, params := ps, assign, body, defers := D } := ⟨_, rfl⟩;have hl1 : W1.heap[l]? = some (.loop (rec .ready none)) := by rw [hrec]; exact hl1
 have hw0 : w0.heap.size ≤ l := Nat.le_trans S.size hlw;have hgv := s.clr.eval g;rw [hg] at hgv;obtain ⟨vs, hev, hvl, hvs⟩ := hgv.inv_fn;have hF1 : ∀ b o, F b o → b < W1.heap.size := fun b o h => Nat.lt_of_lt_of_le (s.sim.mem.inF b o h) hsz1;have hk1 : ∀ (b : Nat) (o : Obj), w.heap[b]? = some o → isData o = true → W1.heap[b]? = some o := fun b o hb _ => by rw [hold1 b (Array.getElem?_eq_some_iff.1 hb).1]; exact hb
 let J : Env := fun k F' O W => match k with
  | some k => ∃ G' s, inv k s ∧ Core P fr ds a W1.heap.size mk G0 F0 M0 w0 ⟨st.vars, [], sh k s, NX⟩ G' F' O W ∧ W.heap[l]? = some (.loop (rec .ready none)) ∧ ∀ i, RV (resG st.nx G') F' (sh k s) W (a.tmps.getD i undef) ((⟨st.vars, [], sh k s, NX⟩ : St).get fr i)
  | none => ∃ G' M' nx' c, ((c = Code.ret ∧ Q .ret ⟨st.vars, [], M', nx'⟩) ∨ ∃ id, c = Code.exit id ∧ Q (.exit id) ⟨st.vars, [], M', nx'⟩) ∧ Core P fr ds a W1.heap.size mk G0 F0 M0 w0 ⟨st.vars, [], M', nx'⟩ G' F' O W ∧ W.heap[l]? = some (.loop (rec .done (some c)))
 have hlN : l < W1.heap.size := (Array.getElem?_eq_some_iff.1 hl1).1;have hJ : Stable J := by
  intro k F O w F' O' w' h I;cases k with
  | some k =>
    obtain ⟨G', s, h1, h2, h3, h6⟩ := h;obtain ⟨h4, h5⟩ := h2.it I;have E : EnvStep (fun _ => False) F w F' w' := ⟨I.size, fun b hb => hb.elim, I.F1, I.F2, fun b o _ hb => hb.elim, I.inF, I.kept⟩;exact ⟨G', s, h1, h4, (h5 _ hlN).trans h3, fun i => (h6 i).env E⟩
  | none =>
    obtain ⟨G', M', nx', c, h1, h2, h3⟩ := h;obtain ⟨h4, h5⟩ := h2.it I;exact ⟨G', M', nx', c, h1, h4, (h5 _ hlN).trans h3⟩
 have hy : YieldsT P J l xs := by
  intro k F O W v hk hF hO hi ⟨G', σ', hinv, hc, hlW, hsl⟩;obtain ⟨lb, lc, rfl, hlc, hlO2, hlF, hlx⟩ := hi;obtain ⟨Fp, hFp⟩ : ∃ Fp : Nat → Nat → Prop, Fp = fun b o => F b o ∨ (b = lb ∧ o < xs[k].length) := ⟨_, rfl⟩;have hFF : ∀ b o, F b o → Fp b o := fun b o h => by rw [hFp]; exact .inl h
  have E0 : EnvStep (Owned G' (sh k σ')) F W Fp W := ⟨Nat.le_refl _, fun _ _ => rfl, hFF, fun _ _ _ => rfl, fun b o h hb => by
   rw [hFp] at h;rcases h with h | ⟨rfl, _⟩
   ·exact h
   ·exact absurd hlO2 (hc.disj _ hb), fun b o h => by
   rw [hFp] at h;rcases h with h | ⟨rfl, _⟩
   ·exact hF.1 b o h
   ·exact hO _ hlO2, .refl⟩
  obtain ⟨vals, hvals0⟩ : ∃ vals : List Value, vals = [Value.slice (some ⟨lb, 0, none⟩) xs[k].length lc] := ⟨_, rfl⟩;have hi : Imms Fp W vals [.sl false (xs[k].map lentC) .unk] := by
   subst hvals0;refine ⟨rfl, fun i h1 h2 => ?_⟩;have : i = 0 := by simpa using h1
   subst this;have e := Imm.sl (F := Fp) (w := W) lb 0 lc 1 (xs[k].map lentC) .unk (fun i _ => .int .i64 (xs[k].getD i 0)) (by simpa using hlc) (.inl rfl) (fun i h => by simp [lentC]) (fun i j hi hj => by
    have hi : i < xs[k].length := by simpa using hi
    have hj : j = 0 := by omega
    subst hj;rw [Nat.mul_one, Nat.zero_add, Nat.add_zero];refine ⟨by rw [hFp]; exact .inr ⟨rfl, hi⟩, ?_, rfl⟩;rw [hlx i hi]; simp [List.getD_eq_getElem?_getD, hi]) (fun i j hi hj => by
    have hi : i < xs[k].length := by simpa using hi
    have e : (xs[k].map lentC)[i]'(by simpa using hi) = lentC xs[k][i] := List.getElem_map _;have hj : j = 0 := by simp [lentC] at hj; exact hj
    subst hj;simp only [List.getElem_map, lentC, List.getElem_cons_zero, List.getD_eq_getElem?_getD, List.getElem?_eq_getElem hi, Option.getD_some];exact .sc _)
   simpa using e
  have hlt := (Array.getElem?_eq_some_iff.1 hlW).1;have hvals : vals.length = ps.size := hi.1.trans hps.symm;have hyield := run_yield (P := P) (args := vals.toArray) hlW (by rw [hrec]; simpa using hvals);have hva : #[Value.slice (some ⟨lb, 0, none⟩) xs[k].length lc] = vals.toArray := by rw [hvals0]
  rw [hva];have hlO : ¬ O l := fun h => by have := hc.lo l h; omega
  refine ⟨_, _, _, _, hyield, roundIn_of_wpIn (by rw [hrec]; exact hfn) ?_⟩;have s1 : SimA P ⟨st.nx, fr.nv, fr.hid, fr.sz⟩ ⟨0, some l, true⟩ G' Fp ⟨st.vars, [], sh k σ', NX⟩ { tmps := a.tmps, defers := [] } W :=
   ⟨⟨hc.mem.env E0 fun _ h => h, fun i => (hc.slots i).env E0, s.sim.size⟩, hc.fresh, .round hlW⟩
  have s2 := s1.bind (ps := ps.toList) (by simpa using hvals) hi (fun p hp => hpk p (by simpa using hp));have htm : (((rec .ready none).params.zip vals.toArray).foldl (fun tmps (t, a) => tmps.setIfInBounds t a) (rec .ready none).tmps) = (ps.toList.zip vals).foldl (fun t (p, v) => t.setIfInBounds p v) a.tmps := by
   rw [hrec];simp only;rw [← Array.foldl_toList];simp
  rw [htm];have hA := round k σ' l hk hinv G' Fp _ W G' Fp _ W (by
   have : (bindP ⟨st.nx, fr.nv, fr.hid, fr.sz⟩ ps.toList [.sl false (xs[k].map lentC) .unk] ⟨st.vars, [], sh k σ', NX⟩).mem = sh k σ' := bindP_mem _ _ _;rw [this]; exact .refl) s2
  have hfe : (Fence.wide.inRound l) = fc (some l) := rfl;rw [hfe];have ea : (rec .ready none).assign = assign := by rw [hrec]
  have eb : (rec .ready none).body = body := by rw [hrec]
  rw [ea, eb];refine wpIn_mono hA ?_;rintro e a1 Wa ⟨Ga, Fa, sta, sa, Sa, rfl, hB⟩;have em : (bindP ⟨st.nx, fr.nv, fr.hid, fr.sz⟩ ps.toList [.sl false (xs[k].map lentC) .unk] ⟨st.vars, [], sh k σ', NX⟩).mem = sh k σ' := bindP_mem _ _ _;have hla : Wa.heap[l]? = some (.loop (rec .ready none)) := Sa.keepObj (by have := s2.sim.mem; rw [em] at this; exact this) hlW rfl;refine ⟨_, run_beginRound hla (by rw [hrec]), ?_⟩;have hlta := (Array.getElem?_eq_some_iff.1 hla).1;have hlb : (Wa.putObj l (.loop { rec .ready none with state := .busy })).heap[l]? = some (.loop { rec .ready none with state := .busy }) := World.putObj_heap_same hlta;have hda := sa.defers.2.2.1 [] rfl;have sb : SimA P ⟨st.nx, fr.nv, fr.hid, fr.sz⟩ ⟨0, some l, true⟩ Ga Fa sta a1 (Wa.putObj l (.loop { rec .ready none with state := .busy })) :=
   sa.keepData (keep_put hla rfl _) (by rw [World.putObj_size]; exact Nat.le_refl _) (by rw [hda]; exact .round hlb)
  refine wpIn_mono (hB Ga Fa sta.mem _ Ga Fa a1 _ .refl sb) ?_;rintro e a3 W3 ⟨G3, F3, st3, s3, S3, hq⟩;have hl3 : W3.heap[l]? = some (.loop { rec .ready none with state := .busy }) := S3.keepObj sb.sim.mem hlb rfl;have hlt3 := (Array.getElem?_eq_some_iff.1 hl3).1;have hrb : ∀ jump : Option Code, (Instr.endRound l jump).run P W3 = .ok (.bool jump.isNone) (W3.putObj l (.loop (rec (if jump.isNone then .ready else .done) jump))) := fun jump => by
   have := run_endRound (P := P) jump hl3;rw [hrec] at this ⊢; exact this
  have Sr : ∀ o4 : Obj, isData o4 = false → Step (· < st.nx) G' Fp (sh k σ') (W.putObj l o4) G3 F3 st3.mem (W3.putObj l o4) := fun o4 h4 => by
   have t1 := (Sa.put (by exact hlt) (.loop { rec .ready none with state := .busy })).trans S3;have t2 := t1.put (by rw [World.putObj_size]; exact hlt) o4;rw [putObj_put] at t2;exact t2
  obtain ⟨Fq, hFq⟩ : ∃ Fq : Nat → Nat → Prop, Fq = fun b o => F3 b o ∧ (O b → F b o) := ⟨_, rfl⟩;have fin : ∀ (o4 : Obj), isData o4 = false → ∀ (G4 : Nat → Option Value) (st4 : St), memFf st4.mem = true → SimM P G4 F3 st4.mem st4.nx W3 → (∀ j, st4.nx ≤ j → G4 j = none) → Step (· < st.nx) G3 F3 st3.mem W3 G4 F3 st4.mem W3 → st4.vars = st.vars → st4.tmps = [] →
    Core P fr ds a W1.heap.size mk G0 F0 M0 w0 st4 G4 Fq O (W3.putObj l o4) ∧ EnvStep O F W Fq (W3.putObj l o4) ∧ ∀ i, RV (resG st.nx G4) Fq st4.mem (W3.putObj l o4) (a.tmps.getD i undef) (st4.get fr i) := by
   intro o4 h4 G4 st4 hf4' hm4 hf4 S4 hv4 ht4;have Sx : Step (· < st.nx) G' Fp (sh k σ') (W.putObj l o4) G4 F3 st4.mem (W3.putObj l o4) := (Sr o4 h4).trans (S4.put hlt3 o4);have Sy : Step (· < st.nx) G' F (sh k σ') (W.putObj l o4) G4 Fq st4.mem (W3.putObj l o4) :=
    { Sx with
      F1 := fun b o h => by rw [hFq]; exact ⟨Sx.F1 b o (hFF b o h), fun _ => h⟩
      F2 := fun b o h => Sx.F2 b o (hFF b o h)
      F3 := fun b o h => by
       rw [hFq] at h;rcases Sx.F3 b o h.1 with h' | h'
       ·rw [hFp] at h';rcases h' with h' | ⟨rfl, _⟩
        ·exact .inl h'
        ·exact .inl (h.2 hlO2)
       ·exact .inr h' }
   have hkW := keep_put hlW rfl o4;have hdisj : ∀ b, O b → ¬ Owned G' (sh k σ') b := fun b hb hO => hc.disj b hO hb;have hown : ∀ b, O b → (W3.putObj l o4).heap[b]? = W.heap[b]? := fun b hb => by
    rw [Sx.out b (by rw [World.putObj_size]; exact hO b hb) (hdisj b hb)];exact World.putObj_heap_other (by rintro rfl; exact hlO hb)
   have hdis4 : ∀ b, Owned G4 st4.mem b → ¬ O b := fun b hb hO' => by
    rcases Sx.own b hb with h | h
    ·rw [World.putObj_size] at h; have := hO b hO'; omega
    ·exact hc.disj b h hO'
   have hm4' : SimM P G4 Fq st4.mem st4.nx (W3.putObj l o4) := by
    have := hm4.keepData (keep_put hl3 rfl o4) (by rw [World.putObj_size]; exact Nat.le_refl _);refine this.ff hf4' (fun b o h => by rw [hFq] at h; exact h.1) (fun b hb o h => by rw [hFq]; exact ⟨h, fun hO' => absurd hO' (hdis4 b hb)⟩) ?_;refine (hc.mem.gl.mono (F' := F) (w' := W.putObj l o4) (fun _ _ h => h) fun b o _ => ?_).mono Sy.F1 Sy.F2;exact putNd hlW rfl h4 b o
   have S0x := (hc.step.putAbove hw0 hlW rfl h4).trans (Sy.mono fun id hid => Nat.lt_of_lt_of_le hid hbase);have slr : ∀ i, RV (resG st.nx G4) Fq st4.mem (W3.putObj l o4) (a.tmps.getD i undef) (st4.get fr i) := fun i => by
    have h1 := hsl i;have e : (⟨st.vars, [], sh k σ', NX⟩ : St).get fr i = st4.get fr i := by unfold St.get; rw [hv4, ht4]
    rw [e] at h1;exact (h1.keepData hkW).gs Sy.res fun id hid => resG_ne hid
   have sl : ∀ i, RV G4 Fq st4.mem (W3.putObj l o4) (a.tmps.getD i undef) (st4.get fr i) := fun i => (slr i).unres;refine ⟨⟨hm4', sl, hf4, S0x, ?_, hdis4, hc.lo, hc.wN, ?_, hc.mlt⟩, ⟨?_, hown, fun b o h => Sy.F1 b o h, fun b o h => ?_, fun b o h hb => ?_, fun b o h => hm4'.inF b o h, Kept.trans (.set hlW rfl (unfroz_nd h4)) Sx.kept⟩, slr⟩
   ·have m1 : Marks ds (mk ++ a.defers) (W.putObj l o4) := hc.marks_put s.defers hlW hlw;exact m1.step (hc.mem.keepData hkW (by rw [World.putObj_size]; exact Nat.le_refl _)) Sy
   ·have := Sx.size; rw [World.putObj_size] at this; exact Nat.le_trans hc.NW this
   ·have := Sx.size; rw [World.putObj_size] at this; exact this
   ·rw [Sy.F2 b o h];exact putNd hlW rfl h4 b o
   ·rw [hFq] at h; exact h.2 hb
  cases e with
  | normal =>
    obtain ⟨K, σ2, hK, hmem, hinv2⟩ := hq;obtain ⟨s4, S4⟩ := s3.gc (L := []) (nx := NX) hK;have em4 : (st3.gc [] K NX).mem = sh (k + 1) σ2 := hmem;obtain ⟨hcore, hE, hsl2⟩ := fin (.loop (rec .ready none)) rfl _ ⟨st.vars, [], sh (k + 1) σ2, NX⟩ (hff _ _ hinv2) (by rw [← em4]; exact s4.sim.mem) s4.fresh (by rw [← em4]; exact S4) rfl rfl;exact ⟨_, _, hrb none, Fq, hE, .inl ⟨rfl, _, σ2, hinv2, hcore, World.putObj_heap_same hlt3, hsl2⟩⟩
  | ret => exact hq.elim
  | exit id => exact hq.elim
  | goto t => exact hq.elim
  | panic ch => exact hq.elim
  | outgrown => exact hq.elim
 obtain ⟨σ0, hm0, hinv0⟩ := h0;have hj0 : J (some 0) F (fun _ => False) W1 := by
  refine ⟨G, σ0, hinv0, ⟨by rw [← hm0]; exact (s.sim.mem.keepData hk1 hsz1).more hNX, fun i => ?_, fun j hj => s.fresh j (Nat.le_trans hNX hj), ?_, hmk, fun _ _ h => h, fun _ h => h.elim, Nat.le_trans S.size hsz1, Nat.le_refl _, hmk.lt⟩, hl1, fun i => ?_⟩
  ·have := s.clr.sim.slots i;simp only [← hm0];exact this.keepData hk1
  ·simp only [← hm0];exact S.allocs hsz1 hold1 s.sim.mem.inF hkp1
  ·have h1 := s.clr.sim.slots i;have h2 : RV (resG st.nx G) F st.mem W1 (a.tmps.getD i undef) (st.clr.get fr i) := (h1.keepData hk1).gs (B := (· < st.nx)) (G' := resG st.nx G)
    { F1 := fun _ _ h => h, F2 := fun _ _ _ => rfl
      some' := fun id hB h => by rwa [resG_lt hB]
      same := fun id v hB h _ => by rwa [resG_lt hB]
      keep := fun id o' hB h hm => by
       obtain ⟨v, hv⟩ := Option.ne_none_iff_exists'.1 h;exact ⟨o', v, v, hm, hv, by rw [resG_lt hB]; exact hv, by cases o' <;> simp [objKeep]⟩ } fun id hid => Nat.lt_of_not_le fun hle => hid (s.fresh id hle)
   rw [← hm0]; exact h2
 refine ⟨l, mk, W1, { target := .fn (.func gf) vs.toArray, args := #[yv l] }, W1, gf, #[yv l] ++ vs.toArray, W1, he, ?_, fun _ _ => trivial, ?_, fun h => by simp [fc, Fence.wide] at h, ?_⟩
 ·simp only [rangeCall, resolve, hev];simp [go_sem, yv, Deferred.ofValue]
 ·have := hs.1 (#[yv l] ++ vs.toArray) W1;simp only [invoke];exact this
 ·have hcall := hs.2 l J hJ hy F W1 vs ⟨hF1, s.sim.mem.gl.mono (fun _ _ h => h) fun b o h => cell?_same (hold1 b (s.sim.mem.inF b o h)) o⟩ ⟨hvl, fun i h1 h2 => ((hvs i h1 h2).imm_of (norefs_get caps hn i h2)).mono (fun _ _ h => h) fun b o h => cell?_same (hold1 b (s.sim.mem.inF b o h)) o⟩ hj0;refine CallsIn.mono (F := fc ro) (n := 0 - 1) (callsIn_fc hcall) ?_;rintro e W2 ⟨v, F2, rfl, hj⟩;rcases hj with hj | hj
  ·obtain ⟨G2, σ2, hinv2, hc, hl2, _⟩ := hj;refine ⟨none, _, by have := run_endLoop (P := P) hl2 (by rw [hrec]; simp); rw [hrec] at this; exact this, ?_⟩;refine ⟨G2, F2, _, ⟨⟨hc.mem.keepData (keep_put hl2 rfl _) (by rw [World.putObj_size]; exact Nat.le_refl _), fun i => (hc.slots i).keepData (keep_put hl2 rfl _), s.sim.size⟩, hc.fresh, ?_⟩, hc.step.putAbove hw0 hl2 rfl rfl, done σ2 hinv2⟩;exact hc.marks_put s.defers hl2 hlw
  ·obtain ⟨G2, M2, nx2, c, hcq, hc, hl2⟩ := hj;refine ⟨some c, _, by have := run_endLoop (P := P) hl2 (by rw [hrec]; simp); rw [hrec] at this; exact this, ?_⟩;have post : ∀ e, Q e ⟨st.vars, [], M2, nx2⟩ → Post P fr ds G0 F0 M0 w0 Q e { a with defers := mk ++ a.defers } (W2.putObj l (.loop { rec .done (some c) with state := .exhausted })) := fun e hq =>
    ⟨G2, F2, _, ⟨⟨hc.mem.keepData (keep_put hl2 rfl _) (by rw [World.putObj_size]; exact Nat.le_refl _), fun i => (hc.slots i).keepData (keep_put hl2 rfl _), s.sim.size⟩, hc.fresh, hc.marks_put s.defers hl2 hlw⟩, hc.step.putAbove hw0 hl2 rfl rfl, hq⟩
   rcases hcq with ⟨rfl, hq⟩ | ⟨id, rfl, hq⟩
   ·have := wpIn_ret (F := fc ro) (n := 0) (P := P) (post .ret hq);rw [hrec] at this; exact this
   ·have := wpIn_exit (F := fc ro) (n := 0) (P := P) (post (.exit id) hq);rw [hrec] at this; exact this
end
theorem noconf_slots {l : List It} {t u : It} {x : Nat} (h6 : rdOk l t = true) (h4 : ∀ x, x ∈ slotsOf l t.o ∨ x ∈ dstC t.o → x ∉ dstC u.o) (h5 : memless t.o.op = true ∧ t.r.fx = none ∨ u.r.fx = none) (hx : x ∈ t.rd ∨ x ∈ wl t.o.dst t.r) (hu : x ∈ wl u.o.dst u.r) : False := by
 unfold rdOk at h6;rw [List.all_eq_true] at h6;have hd : ∀ {o : Oper} {r : Rc}, x ∈ wl o.dst r → x ∈ dstC o ∨ (x % 2 = 1 ∧ r.fx ≠ none) := fun {o r} h => by
  rcases wl_split h with h | h
  ·exact .inl h.2
  ·exact .inr h
 have he : ∀ {o : Oper}, x ∈ dstC o → x % 2 = 0 := fun {o} h => by
  unfold dstC at h;split at h
  ·simp at h; omega
  ·cases h
 rcases hd hu with hu | ⟨hu1, hu2⟩
 ·have hev := he hu;rcases hx with hx | hx
  ·have := h6 x hx;simp only [Bool.or_eq_true, Bool.and_eq_true, beq_iff_eq, List.contains_iff_mem] at this;rcases this with h | h
   ·omega
   ·exact h4 x (.inl h) hu
  ·rcases hd hx with hx | ⟨h, _⟩
   ·exact h4 x (.inr hx) hu
   ·omega
 ·rcases h5 with ⟨h5, h5'⟩ | h5
  ·rcases hx with hx | hx
   ·have := h6 x hx;simp only [Bool.or_eq_true, Bool.and_eq_true, beq_iff_eq, List.contains_iff_mem, h5, Bool.not_true, Bool.false_eq_true, and_false, false_or] at this;have hs : ∀ y ∈ slotsOf l t.o, y % 2 = 0 := fun y hy => by
     unfold slotsOf at hy;rcases List.mem_append.1 hy with hy | hy
     ·have hos : ∀ xs : List Operand, ∀ y ∈ opSlots xs, y % 2 = 0 := by
        intro xs
        induction xs with
        | nil => intro y hy; simp [opSlots] at hy
        | cons z xs ih =>
          intro y hy;cases z with
          | tmp t =>
            simp only [opSlots, List.mem_cons] at hy;rcases hy with hy | hy
            ·omega
            ·exact ih y hy
          | const v => exact ih y (by simpa only [opSlots] using hy)
          | global g => exact ih y (by simpa only [opSlots] using hy)
          | func f => exact ih y (by simpa only [opSlots] using hy)
      exact hos _ y hy
     ·split at hy
      ·split at hy
       ·split at hy
        ·simp at hy; omega
        ·cases hy
       ·cases hy
      ·cases hy
    have := hs x this;omega
   ·rcases hd hx with hx | ⟨_, h⟩
    ·have := he hx; omega
    ·exact h h5'
  ·exact hu2 h5
def confTA (ops : List It) (i : Nat) (t : It) : Nat → List It → Bool
 | _, [] => true
 | m, u :: l => (i == m || ancB ops 4 i m || ancB ops 4 m i || (!((slotsOf ops t.o ++ dstC t.o).any fun x => (dstC u.o).contains x) && !((!memless t.o.op || t.r.fx.isSome) && u.r.fx.isSome))) && confTA ops i t (m + 1) l
def confSA (all : List It) : Nat → List It → Bool
 | _, [] => true
 | i, t :: l => (depsOf t.o).all (fun e => decide (e < i)) && confTA all i t 0 all && confSA all (i + 1) l
theorem confOneA_slots {all : List It} {i : Nat} {t : It} (hr : rdOk all t = true) : ∀ (l : List It) (m0 : Nat), confTA all i t m0 l = true → confOneA all i t m0 l = true
 | [], _, _ => rfl
 | u :: l, m0, h => by
   simp only [confTA, Bool.and_eq_true] at h;simp only [confOneA, Bool.and_eq_true];refine ⟨?_, confOneA_slots hr l (m0 + 1) h.2⟩;have h1 := h.1;simp only [Bool.or_eq_true, Bool.and_eq_true] at h1 ⊢;rcases h1 with ((h1 | h1) | h1) | h1
   ·exact .inl (.inl (.inl h1))
   ·exact .inl (.inr h1)
   ·exact .inr h1
   ·refine .inl (.inl (.inr ?_));rw [Bool.not_eq_true', List.any_eq_false];intro x hx;intro hxu;simp only [Bool.not_eq_true', List.any_eq_false, List.mem_append, List.contains_iff_mem] at h1;refine noconf_slots hr (fun y hy => h1.1 y hy) ?_ (List.mem_append.1 hx) (by simpa using hxu);have h2 := h1.2;cases hm : memless t.o.op <;> cases ht : t.r.fx <;> cases hu : u.r.fx <;> simp [hm, ht, hu] at h2 ⊢
theorem confAllA_slots {l : List It} (h1 : l.all (rdOk l) = true) (h2 : confSA l 0 l = true) : confAllA l 0 l = true := by
 rw [List.all_eq_true] at h1;have key : ∀ (k : List It) (i0 : Nat), (∀ t ∈ k, t ∈ l) → confSA l i0 k = true → confAllA l i0 k = true := by
  intro k
  induction k with
  | nil => intro _ _ _; rfl
  | cons t k ih =>
    intro i0 hm h;simp only [confSA, Bool.and_eq_true] at h;simp only [confAllA, Bool.and_eq_true];exact ⟨⟨h.1.1, confOneA_slots (h1 t (hm t List.mem_cons_self)) l 0 h.1.2⟩, ih (i0 + 1) (fun u hu => hm u (List.mem_cons_of_mem _ hu)) h.2⟩
 exact key l 0 (fun _ h => h) h2
section
variable {P : Program} {fr : Fr} {ro : Option Nat} {ds : DS} {st st' : St} {Q Q' : Exit → St → Prop} {x y c : Code} {l rest : List Oper} {o : Oper} {ok : Bool} {id : Nat} {ops : Array Oper} {its : List It}
theorem EvC.a (hq : EvC P fr ro ds y st'.clr Q) (h : xrun P fr l st.clr true = .done ok st' := by simp only [go_sem] <;> rfl) (hok : ok = true := by simp) : EvC P fr ro ds (.seq (.region id l.toArray false) y) st Q := .seq (.rg h hok hq)
theorem EvC.b (hq : Q .normal st'.clr) (h : xrun P fr l st.clr true = .done ok st' := by simp only [go_sem] <;> rfl) (hok : ok = true := by simp) : EvC P fr ro ds (.region id l.toArray false) st Q := .rg h hok hq
theorem EvC.s1 (ht : Tr P fr ro ds l.toArray st.nx l st.clr its st') (hq : EvC P fr ro ds y (st'.fin (st.nx + its.length)) Q) : EvC P fr ro ds (.seq (.region id l.toArray false) y) st Q := .seq (.tr ht hq)
theorem EvC.ct {o : Operand} (ht : EvC P fr ro ds x st Q) (ho : opnd fr st o = .sc (.bool true) := by simp only [go_sem] <;> rfl) : EvC P fr ro ds (.cond o x y) st Q := .cond_true ho ht
theorem EvC.cf {o : Operand} (ht : EvC P fr ro ds y st Q) (ho : opnd fr st o = .sc (.bool false) := by simp only [go_sem] <;> rfl) : EvC P fr ro ds (.cond o x y) st Q := .cond_false ho ht
theorem EvC.cs {o : Operand} (h : Q .normal st) (ho : opnd fr st o = .sc (.bool false) := by simp only [go_sem] <;> rfl) : EvC P fr ro ds (.cond o x .skip) st Q := .cond_false ho (.skip h)
theorem EvC.cr {o : Operand} (h : Q .normal st) (ho : opnd fr st o = .sc (.bool true) := by simp only [go_sem] <;> rfl) : EvC P fr ro ds (.cond o .skip y) st Q := .cond_true ho (.skip h)
theorem EvC.z (i : Nat) (hc : EvC P fr ro ds c st' Q) (h : st.frzB i = some st' := by simp only [go_sem] <;> rfl) : EvC P fr ro ds c st Q := .frzB i h hc
theorem EvC.rz {results : List ResultVar} {r : AV} {rs : List AV} (h2 : mkRes rs = r) (hQ : Q .ret st = retP P fr results r .ret st := by rfl) (h1 : resAll P fr st results = some rs := by simp only [go_sem] <;> rfl) (h3 : r.noref = true := by rfl) : EvC P fr ro ds .ret st Q := .ret (by rw [hQ]; exact ⟨.inl rfl, _, h1, h2, h3⟩)
theorem OpIs.ca {f : FuncId} {cs : List AV} {callee : Operand} {args : Array Operand} {tys : Array TypeId} {xs : List AV} {v : AV} {rd : List Nat} (hc : PureIs P f xs v) (hg : o.guard = none := by rfl) (hop : o.op = .call ⟨.value callee, args, tys⟩ := by rfl) (hd : dok fr o.dst = true := by simp only [go_sem] <;> rfl)
 (hcal : od fr st true callee = .fn f cs := by simp only [go_sem] <;> rfl) (hxs : callArgs fr st args ++ cs = xs := by simp only [go_sem] <;> rfl) (hn : AV.norefs xs = true := by simp only [go_sem] <;> rfl) (hrd : rdOf fr st [] o = rd := by simp only [go_sem] <;> rfl) : OpIs P fr ro ds ops id st ⟨o, ⟨v, none⟩, rd⟩ := .call hg hop hd hcal hxs hn hrd hc
theorem OpIs.cg {j k : Nat} {want : Bool} {f : FuncId} {cs : List AV} {callee : Operand} {args : Array Operand} {tys : Array TypeId} {xs : List AV} {v : AV} {rd : List Nat} (hc : PureIs P f xs v) (hg : o.guard = some (j, want) := by rfl) (hj : gslot ops j = some k := by rfl) (hk : gval want (st.get fr k) = some true := by simp only [go_sem] <;> rfl)
 (hop : o.op = .call ⟨.value callee, args, tys⟩ := by rfl) (hd : dok fr o.dst = true := by simp only [go_sem] <;> rfl)
 (hcal : od fr st true callee = .fn f cs := by simp only [go_sem] <;> rfl) (hxs : callArgs fr st args ++ cs = xs := by simp only [go_sem] <;> rfl) (hn : AV.norefs xs = true := by simp only [go_sem] <;> rfl) (hrd : rdOf fr st [2 * k] o = rd := by simp only [go_sem] <;> rfl) : OpIs P fr ro ds ops id st ⟨o, ⟨v, none⟩, rd⟩ := .callG hg hj hk hop hd hcal hxs hn hrd hc
theorem PureIs.of1 (nv : Nat) (hid : List Nat) {f : FuncId} {fn : Func} {args : List AV} {r : AV} {n : Nat} {rs : Array ResultVar} (hf : P.funcs[f]? = some fn) (hn : fn.ntmps = n) (hr : fn.results = rs)
  (h : ∀ h0 : Nat, EvC P ⟨0, nv, hid, n⟩ none ⟨h0, none, false⟩ c (st0 args) (retP P ⟨0, nv, hid, n⟩ rs.toList r)) (hb : fn.body = some c := by rfl) (hnm : (fn.name == "runtime.NumGoroutine") = false := by kernel_rfl) (hsz : args.length ≤ n := by simp) : PureIs P f args r := by
 subst hn hr;exact .of hf hb hnm hsz h
end
section
variable {P : Program} {fr : Fr} {ro : Option Nat} {ds : DS} {st st1 st2 st3 st4 : St} {Q : Exit → St → Prop} {y : Code} {l r1 r2 r3 : List Oper} {o1 o2 o3 : Oper} {b1 b2 b3 b4 : Bool} {id n1 n2 n3 : Nat} {i1 i2 i3 i4 : List It} {x1 x2 x3 : Rc} {d1 d2 d3 : List Nat}
theorem EvC.g (hq : EvC P fr ro ds y (st1.fin (st.nx + i1.length)) Q) (h : trun P fr l l st.nx st.clr = .done b1 i1 st1 := by simp only [go_sem] <;> rfl) (hok : b1 = true := by simp) : EvC P fr ro ds (.seq (.region id l.toArray false) y) st Q := .seq (.trd h hok hq)
theorem EvC.gL (hq : Q .normal (st1.fin (st.nx + i1.length))) (h : trun P fr l l st.nx st.clr = .done b1 i1 st1 := by simp only [go_sem] <;> rfl) (hok : b1 = true := by simp) : EvC P fr ro ds (.region id l.toArray false) st Q := .trd h hok hq
theorem EvC.d (m : P.follows .mixedOrders = true) (hq : EvC P fr ro ds y (st1.fin (st.nx + i1.length)) Q) (h : trun P fr l l st.nx st.clr = .done b1 i1 st1 := by simp only [go_sem] <;> rfl) (hok : b1 = true := by simp) (hc : confAll i1 0 i1 = true := by kernel_rfl) : EvC P fr ro ds (.seq (.region id l.toArray true) y) st Q := .seq (.drd m h hok hc hq)
theorem EvC.dL (m : P.follows .mixedOrders = true) (hq : Q .normal (st1.fin (st.nx + i1.length))) (h : trun P fr l l st.nx st.clr = .done b1 i1 st1 := by simp only [go_sem] <;> rfl) (hok : b1 = true := by simp) (hc : confAll i1 0 i1 = true := by kernel_rfl) : EvC P fr ro ds (.region id l.toArray true) st Q := .drd m h hok hc hq
theorem EvC.k1 (hq : EvC P fr ro ds y (st2.fin (st.nx + (i1 ++ ⟨o1, x1, d1⟩ :: i2).length)) Q) (h1 : trun P fr l l st.nx st.clr = .stop b1 i1 st1 (o1 :: r1) n1 := by simp only [go_sem] <;> rfl) (k1 : b1 = true := by simp)
 (c1 : OpIs P fr ro ds l.toArray n1 st1 ⟨o1, x1, d1⟩) (h2 : trun P fr l r1 (n1 + 1) (run1 fr o1.dst x1 st1) = .done b2 i2 st2 := by simp only [go_sem] <;> rfl) (k2 : b2 = true := by simp) : EvC P fr ro ds (.seq (.region id l.toArray false) y) st Q := .seq (.tr (.run h1 k1 (.cons c1 (.done h2 k2))) hq)
theorem EvC.k1L (hq : Q .normal (st2.fin (st.nx + (i1 ++ ⟨o1, x1, d1⟩ :: i2).length))) (h1 : trun P fr l l st.nx st.clr = .stop b1 i1 st1 (o1 :: r1) n1 := by simp only [go_sem] <;> rfl) (k1 : b1 = true := by simp)
 (c1 : OpIs P fr ro ds l.toArray n1 st1 ⟨o1, x1, d1⟩) (h2 : trun P fr l r1 (n1 + 1) (run1 fr o1.dst x1 st1) = .done b2 i2 st2 := by simp only [go_sem] <;> rfl) (k2 : b2 = true := by simp) : EvC P fr ro ds (.region id l.toArray false) st Q := .tr (.run h1 k1 (.cons c1 (.done h2 k2))) hq
theorem EvC.k1D (m : P.follows .mixedOrders = true) (hq : EvC P fr ro ds y (st2.fin (st.nx + (i1 ++ ⟨o1, x1, d1⟩ :: i2).length)) Q) (h1 : trun P fr l l st.nx st.clr = .stop b1 i1 st1 (o1 :: r1) n1 := by simp only [go_sem] <;> rfl) (k1 : b1 = true := by simp)
 (c1 : OpIs P fr ro ds l.toArray n1 st1 ⟨o1, x1, d1⟩) (h2 : trun P fr l r1 (n1 + 1) (run1 fr o1.dst x1 st1) = .done b2 i2 st2 := by simp only [go_sem] <;> rfl) (k2 : b2 = true := by simp) (hc : confAll (i1 ++ ⟨o1, x1, d1⟩ :: i2) 0 (i1 ++ ⟨o1, x1, d1⟩ :: i2) = true := by kernel_rfl) : EvC P fr ro ds (.seq (.region id l.toArray true) y) st Q := .seq (.drw m (.run h1 k1 (.cons c1 (.done h2 k2))) hc hq)
theorem EvC.k1LD (m : P.follows .mixedOrders = true) (hq : Q .normal (st2.fin (st.nx + (i1 ++ ⟨o1, x1, d1⟩ :: i2).length))) (h1 : trun P fr l l st.nx st.clr = .stop b1 i1 st1 (o1 :: r1) n1 := by simp only [go_sem] <;> rfl) (k1 : b1 = true := by simp)
 (c1 : OpIs P fr ro ds l.toArray n1 st1 ⟨o1, x1, d1⟩) (h2 : trun P fr l r1 (n1 + 1) (run1 fr o1.dst x1 st1) = .done b2 i2 st2 := by simp only [go_sem] <;> rfl) (k2 : b2 = true := by simp) (hc : confAll (i1 ++ ⟨o1, x1, d1⟩ :: i2) 0 (i1 ++ ⟨o1, x1, d1⟩ :: i2) = true := by kernel_rfl) : EvC P fr ro ds (.region id l.toArray true) st Q := .drw m (.run h1 k1 (.cons c1 (.done h2 k2))) hc hq
theorem EvC.k2 (hq : EvC P fr ro ds y (st3.fin (st.nx + (i1 ++ ⟨o1, x1, d1⟩ :: (i2 ++ ⟨o2, x2, d2⟩ :: i3)).length)) Q) (h1 : trun P fr l l st.nx st.clr = .stop b1 i1 st1 (o1 :: r1) n1 := by simp only [go_sem] <;> rfl) (k1 : b1 = true := by simp)
 (c1 : OpIs P fr ro ds l.toArray n1 st1 ⟨o1, x1, d1⟩) (h2 : trun P fr l r1 (n1 + 1) (run1 fr o1.dst x1 st1) = .stop b2 i2 st2 (o2 :: r2) n2 := by simp only [go_sem] <;> rfl) (k2 : b2 = true := by simp)
 (c2 : OpIs P fr ro ds l.toArray n2 st2 ⟨o2, x2, d2⟩) (h3 : trun P fr l r2 (n2 + 1) (run1 fr o2.dst x2 st2) = .done b3 i3 st3 := by simp only [go_sem] <;> rfl) (k3 : b3 = true := by simp) : EvC P fr ro ds (.seq (.region id l.toArray false) y) st Q := .seq (.tr (.run h1 k1 (.cons c1 (.run h2 k2 (.cons c2 (.done h3 k3))))) hq)
theorem EvC.k2D (m : P.follows .mixedOrders = true) (hq : EvC P fr ro ds y (st3.fin (st.nx + (i1 ++ ⟨o1, x1, d1⟩ :: (i2 ++ ⟨o2, x2, d2⟩ :: i3)).length)) Q) (h1 : trun P fr l l st.nx st.clr = .stop b1 i1 st1 (o1 :: r1) n1 := by simp only [go_sem] <;> rfl) (k1 : b1 = true := by simp)
 (c1 : OpIs P fr ro ds l.toArray n1 st1 ⟨o1, x1, d1⟩) (h2 : trun P fr l r1 (n1 + 1) (run1 fr o1.dst x1 st1) = .stop b2 i2 st2 (o2 :: r2) n2 := by simp only [go_sem] <;> rfl) (k2 : b2 = true := by simp)
 (c2 : OpIs P fr ro ds l.toArray n2 st2 ⟨o2, x2, d2⟩) (h3 : trun P fr l r2 (n2 + 1) (run1 fr o2.dst x2 st2) = .done b3 i3 st3 := by simp only [go_sem] <;> rfl) (k3 : b3 = true := by simp) (hc : confAll (i1 ++ ⟨o1, x1, d1⟩ :: (i2 ++ ⟨o2, x2, d2⟩ :: i3)) 0 (i1 ++ ⟨o1, x1, d1⟩ :: (i2 ++ ⟨o2, x2, d2⟩ :: i3)) = true := by kernel_rfl) : EvC P fr ro ds (.seq (.region id l.toArray true) y) st Q := .seq (.drw m (.run h1 k1 (.cons c1 (.run h2 k2 (.cons c2 (.done h3 k3))))) hc hq)
theorem EvC.k3 (hq : EvC P fr ro ds y (st4.fin (st.nx + (i1 ++ ⟨o1, x1, d1⟩ :: (i2 ++ ⟨o2, x2, d2⟩ :: (i3 ++ ⟨o3, x3, d3⟩ :: i4))).length)) Q) (h1 : trun P fr l l st.nx st.clr = .stop b1 i1 st1 (o1 :: r1) n1 := by simp only [go_sem] <;> rfl) (k1 : b1 = true := by simp)
 (c1 : OpIs P fr ro ds l.toArray n1 st1 ⟨o1, x1, d1⟩) (h2 : trun P fr l r1 (n1 + 1) (run1 fr o1.dst x1 st1) = .stop b2 i2 st2 (o2 :: r2) n2 := by simp only [go_sem] <;> rfl) (k2 : b2 = true := by simp)
 (c2 : OpIs P fr ro ds l.toArray n2 st2 ⟨o2, x2, d2⟩) (h3 : trun P fr l r2 (n2 + 1) (run1 fr o2.dst x2 st2) = .stop b3 i3 st3 (o3 :: r3) n3 := by simp only [go_sem] <;> rfl) (k3 : b3 = true := by simp)
 (c3 : OpIs P fr ro ds l.toArray n3 st3 ⟨o3, x3, d3⟩) (h4 : trun P fr l r3 (n3 + 1) (run1 fr o3.dst x3 st3) = .done b4 i4 st4 := by simp only [go_sem] <;> rfl) (k4 : b4 = true := by simp) : EvC P fr ro ds (.seq (.region id l.toArray false) y) st Q := .seq (.tr (.run h1 k1 (.cons c1 (.run h2 k2 (.cons c2 (.run h3 k3 (.cons c3 (.done h4 k4))))))) hq)
end
open Go Go.Proofs.Tryz
@[go_sem] theorem ty_cellsOf_108 : Program.cellsOf prog 108 = 2 := by kernel_rfl
@[go_sem] theorem ty_cellsOf_121 : Program.cellsOf prog 121 = 4 := by kernel_rfl
@[go_sem] theorem ty_cellsOf_124 : Program.cellsOf prog 124 = 1 := by kernel_rfl
@[go_sem] theorem ty_cellsOf_159 : Program.cellsOf prog 159 = 4 := by kernel_rfl
@[go_sem] theorem ty_cellsOf_162 : Program.cellsOf prog 162 = 2 := by kernel_rfl
@[go_sem] theorem ty_cellsOf_182 : Program.cellsOf prog 182 = 4 := by kernel_rfl
@[go_sem] theorem ty_cellsOf_22 : Program.cellsOf prog 22 = 1 := by kernel_rfl
@[go_sem] theorem ty_cellsOf_24 : Program.cellsOf prog 24 = 5 := by kernel_rfl
@[go_sem] theorem ty_cellsOf_27 : Program.cellsOf prog 27 = 1 := by kernel_rfl
@[go_sem] theorem ty_cellsOf_29 : Program.cellsOf prog 29 = 3 := by kernel_rfl
@[go_sem] theorem ty_cellsOf_3 : Program.cellsOf prog 3 = 1 := by kernel_rfl
@[go_sem] theorem ty_cellsOf_34 : Program.cellsOf prog 34 = 1 := by kernel_rfl
@[go_sem] theorem ty_cellsOf_4 : Program.cellsOf prog 4 = 1 := by kernel_rfl
@[go_sem] theorem ty_cellsOf_43 : Program.cellsOf prog 43 = 1 := by kernel_rfl
@[go_sem] theorem ty_cellsOf_44 : Program.cellsOf prog 44 = 1 := by kernel_rfl
@[go_sem] theorem ty_cellsOf_46 : Program.cellsOf prog 46 = 3 := by kernel_rfl
@[go_sem] theorem ty_cellsOf_5 : Program.cellsOf prog 5 = 1 := by kernel_rfl
@[go_sem] theorem ty_cellsOf_52 : Program.cellsOf prog 52 = 6 := by kernel_rfl
@[go_sem] theorem ty_cellsOf_53 : Program.cellsOf prog 53 = 1 := by kernel_rfl
@[go_sem] theorem ty_cellsOf_62 : Program.cellsOf prog 62 = 2 := by kernel_rfl
@[go_sem] theorem ty_cellsOf_65 : Program.cellsOf prog 65 = 2 := by kernel_rfl
@[go_sem] theorem ty_cellsOf_69 : Program.cellsOf prog 69 = 1 := by kernel_rfl
@[go_sem] theorem ty_cellsOf_88 : Program.cellsOf prog 88 = 1 := by kernel_rfl
@[go_sem] theorem ty_cellsOf_90 : Program.cellsOf prog 90 = 2 := by kernel_rfl
@[go_sem] theorem ty_eqKinds_162 : eqKinds prog 162 = some [Kd.int IntKind.i64, Kd.int IntKind.i64] := by kernel_rfl
@[go_sem] theorem ty_eqKinds_52 : eqKinds prog 52 = some [Kd.int IntKind.i64, Kd.int IntKind.i64, Kd.int IntKind.i64, Kd.int IntKind.i64, Kd.int IntKind.i64, Kd.int IntKind.i64] := by kernel_rfl
@[go_sem] theorem ty_eqKinds_90 : eqKinds prog 90 = some [Kd.int IntKind.i64, Kd.int IntKind.i64] := by kernel_rfl
@[go_sem] theorem ty_nilTy_43 : nilTy prog 43 = 1 := by kernel_rfl
@[go_sem] theorem ty_nilTy_88 : nilTy prog 88 = 1 := by kernel_rfl
@[go_sem] theorem ty_placeOf_101_0 : placeOf prog 101 0 = some (0, 1) := by kernel_rfl
@[go_sem] theorem ty_placeOf_101_1 : placeOf prog 101 1 = some (1, 1) := by kernel_rfl
@[go_sem] theorem ty_placeOf_108_0 : placeOf prog 108 0 = some (0, 1) := by kernel_rfl
@[go_sem] theorem ty_placeOf_108_1 : placeOf prog 108 1 = some (1, 1) := by kernel_rfl
@[go_sem] theorem ty_placeOf_121_0 : placeOf prog 121 0 = some (0, 3) := by kernel_rfl
@[go_sem] theorem ty_placeOf_121_1 : placeOf prog 121 1 = some (3, 1) := by kernel_rfl
@[go_sem] theorem ty_placeOf_162_0 : placeOf prog 162 0 = some (0, 1) := by kernel_rfl
@[go_sem] theorem ty_placeOf_162_1 : placeOf prog 162 1 = some (1, 1) := by kernel_rfl
@[go_sem] theorem ty_placeOf_167_0 : placeOf prog 167 0 = some (0, 1) := by kernel_rfl
@[go_sem] theorem ty_placeOf_167_1 : placeOf prog 167 1 = some (1, 1) := by kernel_rfl
@[go_sem] theorem ty_placeOf_167_2 : placeOf prog 167 2 = some (2, 2) := by kernel_rfl
@[go_sem] theorem ty_placeOf_167_3 : placeOf prog 167 3 = some (4, 2) := by kernel_rfl
@[go_sem] theorem ty_placeOf_182_0 : placeOf prog 182 0 = some (0, 2) := by kernel_rfl
@[go_sem] theorem ty_placeOf_182_1 : placeOf prog 182 1 = some (2, 1) := by kernel_rfl
@[go_sem] theorem ty_placeOf_182_2 : placeOf prog 182 2 = some (3, 1) := by kernel_rfl
@[go_sem] theorem ty_placeOf_29_0 : placeOf prog 29 0 = some (0, 1) := by kernel_rfl
@[go_sem] theorem ty_placeOf_29_1 : placeOf prog 29 1 = some (1, 1) := by kernel_rfl
@[go_sem] theorem ty_placeOf_29_2 : placeOf prog 29 2 = some (2, 1) := by kernel_rfl
@[go_sem] theorem ty_placeOf_46_0 : placeOf prog 46 0 = some (0, 1) := by kernel_rfl
@[go_sem] theorem ty_placeOf_52_0 : placeOf prog 52 0 = some (0, 1) := by kernel_rfl
@[go_sem] theorem ty_placeOf_52_1 : placeOf prog 52 1 = some (1, 1) := by kernel_rfl
@[go_sem] theorem ty_placeOf_52_2 : placeOf prog 52 2 = some (2, 1) := by kernel_rfl
@[go_sem] theorem ty_placeOf_52_3 : placeOf prog 52 3 = some (3, 1) := by kernel_rfl
@[go_sem] theorem ty_placeOf_52_4 : placeOf prog 52 4 = some (4, 1) := by kernel_rfl
@[go_sem] theorem ty_placeOf_52_5 : placeOf prog 52 5 = some (5, 1) := by kernel_rfl
@[go_sem] theorem ty_placeOf_62_0 : placeOf prog 62 0 = some (0, 1) := by kernel_rfl
@[go_sem] theorem ty_placeOf_62_1 : placeOf prog 62 1 = some (1, 1) := by kernel_rfl
@[go_sem] theorem ty_placeOf_65_0 : placeOf prog 65 0 = some (0, 1) := by kernel_rfl
@[go_sem] theorem ty_placeOf_65_1 : placeOf prog 65 1 = some (1, 1) := by kernel_rfl
@[go_sem] theorem ty_placeOf_71_0 : placeOf prog 71 0 = some (0, 1) := by kernel_rfl
@[go_sem] theorem ty_placeOf_71_1 : placeOf prog 71 1 = some (1, 1) := by kernel_rfl
@[go_sem] theorem ty_placeOf_71_2 : placeOf prog 71 2 = some (2, 1) := by kernel_rfl
@[go_sem] theorem ty_placeOf_90_0 : placeOf prog 90 0 = some (0, 1) := by kernel_rfl
@[go_sem] theorem ty_placeOf_90_1 : placeOf prog 90 1 = some (1, 1) := by kernel_rfl
@[go_sem] theorem ty_tarr_160 : tarr prog 160 = some (5, 159) := by kernel_rfl
@[go_sem] theorem ty_tarr_162 : tarr prog 162 = some (2, 3) := by kernel_rfl
@[go_sem] theorem ty_tbool_4 : tbool prog 4 = true := by kernel_rfl
@[go_sem] theorem ty_tbuild_101 : tbuild prog 101 = true := by kernel_rfl
@[go_sem] theorem ty_tbuild_108 : tbuild prog 108 = true := by kernel_rfl
@[go_sem] theorem ty_tbuild_121 : tbuild prog 121 = true := by kernel_rfl
@[go_sem] theorem ty_tbuild_162 : tbuild prog 162 = true := by kernel_rfl
@[go_sem] theorem ty_tbuild_167 : tbuild prog 167 = true := by kernel_rfl
@[go_sem] theorem ty_tbuild_182 : tbuild prog 182 = true := by kernel_rfl
@[go_sem] theorem ty_tbuild_29 : tbuild prog 29 = true := by kernel_rfl
@[go_sem] theorem ty_tbuild_46 : tbuild prog 46 = true := by kernel_rfl
@[go_sem] theorem ty_tbuild_52 : tbuild prog 52 = true := by kernel_rfl
@[go_sem] theorem ty_tbuild_62 : tbuild prog 62 = true := by kernel_rfl
@[go_sem] theorem ty_tbuild_65 : tbuild prog 65 = true := by kernel_rfl
@[go_sem] theorem ty_tbuild_71 : tbuild prog 71 = true := by kernel_rfl
@[go_sem] theorem ty_tbuild_90 : tbuild prog 90 = true := by kernel_rfl
@[go_sem] theorem ty_telem_117 : telem prog 117 = some 121 := by kernel_rfl
@[go_sem] theorem ty_telem_124 : telem prog 124 = some 4 := by kernel_rfl
@[go_sem] theorem ty_telem_125 : telem prog 125 = some 124 := by kernel_rfl
@[go_sem] theorem ty_telem_137 : telem prog 137 = some 162 := by kernel_rfl
@[go_sem] theorem ty_telem_160 : telem prog 160 = none := by kernel_rfl
@[go_sem] theorem ty_telem_162 : telem prog 162 = none := by kernel_rfl
@[go_sem] theorem ty_telem_168 : telem prog 168 = some 182 := by kernel_rfl
@[go_sem] theorem ty_telem_178 : telem prog 178 = some 34 := by kernel_rfl
@[go_sem] theorem ty_telem_22 : telem prog 22 = some 53 := by kernel_rfl
@[go_sem] theorem ty_telem_27 : telem prog 27 = some 88 := by kernel_rfl
@[go_sem] theorem ty_telem_30 : telem prog 30 = some 52 := by kernel_rfl
@[go_sem] theorem ty_telem_33 : telem prog 33 = some 46 := by kernel_rfl
@[go_sem] theorem ty_telem_41 : telem prog 41 = some 43 := by kernel_rfl
@[go_sem] theorem ty_telem_43 : telem prog 43 = some 3 := by kernel_rfl
@[go_sem] theorem ty_telem_44 : telem prog 44 = some 65 := by kernel_rfl
@[go_sem] theorem ty_telem_54 : telem prog 54 = some 29 := by kernel_rfl
@[go_sem] theorem ty_telem_59 : telem prog 59 = some 62 := by kernel_rfl
@[go_sem] theorem ty_telem_69 : telem prog 69 = some 108 := by kernel_rfl
@[go_sem] theorem ty_telem_88 : telem prog 88 = some 90 := by kernel_rfl
@[go_sem] theorem ty_tfield_108_0 : tfield prog 108 0 = some (0, 43) := by kernel_rfl
@[go_sem] theorem ty_tfield_108_1 : tfield prog 108 1 = some (1, 43) := by kernel_rfl
@[go_sem] theorem ty_tfield_121_0 : tfield prog 121 0 = some (0, 29) := by kernel_rfl
@[go_sem] theorem ty_tfield_121_1 : tfield prog 121 1 = some (3, 43) := by kernel_rfl
@[go_sem] theorem ty_tfield_159_1 : tfield prog 159 1 = some (1, 4) := by kernel_rfl
@[go_sem] theorem ty_tfield_159_2 : tfield prog 159 2 = some (2, 4) := by kernel_rfl
@[go_sem] theorem ty_tfield_159_3 : tfield prog 159 3 = some (3, 4) := by kernel_rfl
@[go_sem] theorem ty_tfield_167_0 : tfield prog 167 0 = some (0, 3) := by kernel_rfl
@[go_sem] theorem ty_tfield_167_1 : tfield prog 167 1 = some (1, 3) := by kernel_rfl
@[go_sem] theorem ty_tfield_167_2 : tfield prog 167 2 = some (2, 90) := by kernel_rfl
@[go_sem] theorem ty_tfield_167_3 : tfield prog 167 3 = some (4, 90) := by kernel_rfl
@[go_sem] theorem ty_tfield_182_0 : tfield prog 182 0 = some (0, 162) := by kernel_rfl
@[go_sem] theorem ty_tfield_182_1 : tfield prog 182 1 = some (2, 3) := by kernel_rfl
@[go_sem] theorem ty_tfield_182_2 : tfield prog 182 2 = some (3, 3) := by kernel_rfl
@[go_sem] theorem ty_tfield_24_0 : tfield prog 24 0 = some (0, 5) := by kernel_rfl
@[go_sem] theorem ty_tfield_24_1 : tfield prog 24 1 = some (1, 5) := by kernel_rfl
@[go_sem] theorem ty_tfield_24_2 : tfield prog 24 2 = some (2, 5) := by kernel_rfl
@[go_sem] theorem ty_tfield_24_3 : tfield prog 24 3 = some (3, 4) := by kernel_rfl
@[go_sem] theorem ty_tfield_24_4 : tfield prog 24 4 = some (4, 22) := by kernel_rfl
@[go_sem] theorem ty_tfield_26_0 : tfield prog 26 0 = some (0, 24) := by kernel_rfl
@[go_sem] theorem ty_tfield_26_1 : tfield prog 26 1 = some (5, 22) := by kernel_rfl
@[go_sem] theorem ty_tfield_29_0 : tfield prog 29 0 = some (0, 3) := by kernel_rfl
@[go_sem] theorem ty_tfield_29_1 : tfield prog 29 1 = some (1, 3) := by kernel_rfl
@[go_sem] theorem ty_tfield_29_2 : tfield prog 29 2 = some (2, 27) := by kernel_rfl
@[go_sem] theorem ty_tfield_46_0 : tfield prog 46 0 = some (0, 43) := by kernel_rfl
@[go_sem] theorem ty_tfield_46_1 : tfield prog 46 1 = some (1, 43) := by kernel_rfl
@[go_sem] theorem ty_tfield_46_2 : tfield prog 46 2 = some (2, 44) := by kernel_rfl
@[go_sem] theorem ty_tfield_52_0 : tfield prog 52 0 = some (0, 3) := by kernel_rfl
@[go_sem] theorem ty_tfield_52_1 : tfield prog 52 1 = some (1, 3) := by kernel_rfl
@[go_sem] theorem ty_tfield_52_2 : tfield prog 52 2 = some (2, 3) := by kernel_rfl
@[go_sem] theorem ty_tfield_52_3 : tfield prog 52 3 = some (3, 3) := by kernel_rfl
@[go_sem] theorem ty_tfield_52_4 : tfield prog 52 4 = some (4, 3) := by kernel_rfl
@[go_sem] theorem ty_tfield_52_5 : tfield prog 52 5 = some (5, 3) := by kernel_rfl
@[go_sem] theorem ty_tfield_62_0 : tfield prog 62 0 = some (0, 43) := by kernel_rfl
@[go_sem] theorem ty_tfield_62_1 : tfield prog 62 1 = some (1, 43) := by kernel_rfl
@[go_sem] theorem ty_tfield_65_0 : tfield prog 65 0 = some (0, 43) := by kernel_rfl
@[go_sem] theorem ty_tfield_65_1 : tfield prog 65 1 = some (1, 3) := by kernel_rfl
@[go_sem] theorem ty_tfield_71_0 : tfield prog 71 0 = some (0, 3) := by kernel_rfl
@[go_sem] theorem ty_tfield_71_1 : tfield prog 71 1 = some (1, 3) := by kernel_rfl
@[go_sem] theorem ty_tfield_71_2 : tfield prog 71 2 = some (2, 69) := by kernel_rfl
@[go_sem] theorem ty_tfield_90_0 : tfield prog 90 0 = some (0, 3) := by kernel_rfl
@[go_sem] theorem ty_tfield_90_1 : tfield prog 90 1 = some (1, 3) := by kernel_rfl
@[go_sem] theorem ty_tinf_108 : tinf prog 108 = true := by kernel_rfl
@[go_sem] theorem ty_tinf_121 : tinf prog 121 = true := by kernel_rfl
@[go_sem] theorem ty_tinf_124 : tinf prog 124 = true := by kernel_rfl
@[go_sem] theorem ty_tinf_159 : tinf prog 159 = true := by kernel_rfl
@[go_sem] theorem ty_tinf_162 : tinf prog 162 = true := by kernel_rfl
@[go_sem] theorem ty_tinf_182 : tinf prog 182 = true := by kernel_rfl
@[go_sem] theorem ty_tinf_29 : tinf prog 29 = true := by kernel_rfl
@[go_sem] theorem ty_tinf_3 : tinf prog 3 = true := by kernel_rfl
@[go_sem] theorem ty_tinf_34 : tinf prog 34 = true := by kernel_rfl
@[go_sem] theorem ty_tinf_4 : tinf prog 4 = true := by kernel_rfl
@[go_sem] theorem ty_tinf_43 : tinf prog 43 = true := by kernel_rfl
@[go_sem] theorem ty_tinf_46 : tinf prog 46 = true := by kernel_rfl
@[go_sem] theorem ty_tinf_52 : tinf prog 52 = true := by kernel_rfl
@[go_sem] theorem ty_tinf_53 : tinf prog 53 = true := by kernel_rfl
@[go_sem] theorem ty_tinf_62 : tinf prog 62 = true := by kernel_rfl
@[go_sem] theorem ty_tinf_65 : tinf prog 65 = true := by kernel_rfl
@[go_sem] theorem ty_tinf_88 : tinf prog 88 = true := by kernel_rfl
@[go_sem] theorem ty_tinf_90 : tinf prog 90 = true := by kernel_rfl
@[go_sem] theorem ty_tinfo_101 : tinfo prog 101 = some { size := 2, agg := true, zero := [Value.int IntKind.i64 0, Value.int IntKind.i64 0], bytes := 16 } := by kernel_rfl
@[go_sem] theorem ty_tinfo_108 : tinfo prog 108 = some { size := 2, agg := true, zero := [Value.slice none 0 0, Value.slice none 0 0], bytes := 48 } := by kernel_rfl
@[go_sem] theorem ty_tinfo_121 : tinfo prog 121 = some { size := 4, agg := true, zero := [Value.int IntKind.i64 0, Value.int IntKind.i64 0, Value.slice none 0 0, Value.slice none 0 0], bytes := 64 } := by kernel_rfl
@[go_sem] theorem ty_tinfo_124 : tinfo prog 124 = some { size := 1, agg := false, zero := [Value.slice none 0 0], bytes := 24 } := by kernel_rfl
@[go_sem] theorem ty_tinfo_137 : tinfo prog 137 = some { size := 1, agg := false, zero := [Value.slice none 0 0], bytes := 24 } := by kernel_rfl
@[go_sem] theorem ty_tinfo_157 : tinfo prog 157 = some { size := 1, agg := false, zero := [Value.nilFunc], bytes := 8 } := by kernel_rfl
@[go_sem] theorem ty_tinfo_159 : tinfo prog 159 = some { size := 4, agg := true, zero := [Value.string { data := { toList := [] } }, Value.bool false, Value.bool false, Value.bool false], bytes := 24 } := by kernel_rfl
@[go_sem] theorem ty_tinfo_162 : tinfo prog 162 = some { size := 2, agg := true, zero := [Value.int IntKind.i64 0, Value.int IntKind.i64 0], bytes := 16 } := by kernel_rfl
@[go_sem] theorem ty_tinfo_167 : tinfo prog 167 = some { size := 6, agg := true, zero := [Value.int IntKind.i64 0, Value.int IntKind.i64 0, Value.int IntKind.i64 0, Value.int IntKind.i64 0, Value.int IntKind.i64 0, Value.int IntKind.i64 0], bytes := 48 } := by kernel_rfl
@[go_sem] theorem ty_tinfo_182 : tinfo prog 182 = some { size := 4, agg := true, zero := [Value.int IntKind.i64 0, Value.int IntKind.i64 0, Value.int IntKind.i64 0, Value.int IntKind.i64 0], bytes := 32 } := by kernel_rfl
@[go_sem] theorem ty_tinfo_22 : tinfo prog 22 = some { size := 1, agg := false, zero := [Value.slice none 0 0], bytes := 24 } := by kernel_rfl
@[go_sem] theorem ty_tinfo_24 : tinfo prog 24 = some { size := 5, agg := true, zero := [Value.int IntKind.u8 0, Value.int IntKind.u8 0, Value.int IntKind.u8 0, Value.bool false, Value.slice none 0 0], bytes := 32 } := by kernel_rfl
@[go_sem] theorem ty_tinfo_26 : tinfo prog 26 = some { size := 6, agg := true, zero := [Value.int IntKind.u8 0, Value.int IntKind.u8 0, Value.int IntKind.u8 0, Value.bool false, Value.slice none 0 0, Value.slice none 0 0], bytes := 56 } := by kernel_rfl
@[go_sem] theorem ty_tinfo_27 : tinfo prog 27 = some { size := 1, agg := false, zero := [Value.slice none 0 0], bytes := 24 } := by kernel_rfl
@[go_sem] theorem ty_tinfo_29 : tinfo prog 29 = some { size := 3, agg := true, zero := [Value.int IntKind.i64 0, Value.int IntKind.i64 0, Value.slice none 0 0], bytes := 40 } := by kernel_rfl
@[go_sem] theorem ty_tinfo_3 : tinfo prog 3 = some { size := 1, agg := false, zero := [Value.int IntKind.i64 0], bytes := 8 } := by kernel_rfl
@[go_sem] theorem ty_tinfo_30 : tinfo prog 30 = some { size := 1, agg := false, zero := [Value.slice none 0 0], bytes := 24 } := by kernel_rfl
@[go_sem] theorem ty_tinfo_34 : tinfo prog 34 = some { size := 1, agg := false, zero := [Value.int IntKind.i64 0], bytes := 8 } := by kernel_rfl
@[go_sem] theorem ty_tinfo_4 : tinfo prog 4 = some { size := 1, agg := false, zero := [Value.bool false], bytes := 1 } := by kernel_rfl
@[go_sem] theorem ty_tinfo_43 : tinfo prog 43 = some { size := 1, agg := false, zero := [Value.slice none 0 0], bytes := 24 } := by kernel_rfl
@[go_sem] theorem ty_tinfo_44 : tinfo prog 44 = some { size := 1, agg := false, zero := [Value.slice none 0 0], bytes := 24 } := by kernel_rfl
@[go_sem] theorem ty_tinfo_46 : tinfo prog 46 = some { size := 3, agg := true, zero := [Value.slice none 0 0, Value.slice none 0 0, Value.slice none 0 0], bytes := 72 } := by kernel_rfl
@[go_sem] theorem ty_tinfo_5 : tinfo prog 5 = some { size := 1, agg := false, zero := [Value.int IntKind.u8 0], bytes := 1 } := by kernel_rfl
@[go_sem] theorem ty_tinfo_52 : tinfo prog 52 = some { size := 6, agg := true, zero := [Value.int IntKind.i64 0, Value.int IntKind.i64 0, Value.int IntKind.i64 0, Value.int IntKind.i64 0, Value.int IntKind.i64 0, Value.int IntKind.i64 0], bytes := 48 } := by kernel_rfl
@[go_sem] theorem ty_tinfo_53 : tinfo prog 53 = some { size := 1, agg := false, zero := [Value.int IntKind.u16 0], bytes := 2 } := by kernel_rfl
@[go_sem] theorem ty_tinfo_54 : tinfo prog 54 = some { size := 1, agg := false, zero := [Value.slice none 0 0], bytes := 24 } := by kernel_rfl
@[go_sem] theorem ty_tinfo_62 : tinfo prog 62 = some { size := 2, agg := true, zero := [Value.slice none 0 0, Value.slice none 0 0], bytes := 48 } := by kernel_rfl
@[go_sem] theorem ty_tinfo_65 : tinfo prog 65 = some { size := 2, agg := true, zero := [Value.slice none 0 0, Value.int IntKind.i64 0], bytes := 32 } := by kernel_rfl
@[go_sem] theorem ty_tinfo_69 : tinfo prog 69 = some { size := 1, agg := false, zero := [Value.slice none 0 0], bytes := 24 } := by kernel_rfl
@[go_sem] theorem ty_tinfo_71 : tinfo prog 71 = some { size := 3, agg := true, zero := [Value.int IntKind.i64 0, Value.int IntKind.i64 0, Value.slice none 0 0], bytes := 40 } := by kernel_rfl
@[go_sem] theorem ty_tinfo_88 : tinfo prog 88 = some { size := 1, agg := false, zero := [Value.slice none 0 0], bytes := 24 } := by kernel_rfl
@[go_sem] theorem ty_tinfo_90 : tinfo prog 90 = some { size := 2, agg := true, zero := [Value.int IntKind.i64 0, Value.int IntKind.i64 0], bytes := 16 } := by kernel_rfl
@[go_sem] theorem ty_tint_3 : tint prog 3 = some IntKind.i64 := by kernel_rfl
@[go_sem] theorem ty_tknown_5 : tknown prog 5 = true := by kernel_rfl
@[go_sem] theorem ty_tknown_53 : tknown prog 53 = true := by kernel_rfl
@[go_sem] theorem ty_tmap_180 : tmap prog 180 = some (162, 4) := by kernel_rfl
set_option maxRecDepth 10000
attribute [go_sem] Nat.reduceLT Nat.reduceLeDiff Nat.reduceEqDiff Nat.reduceAdd Nat.reduceSub Nat.reduceMul Nat.reduceBEq Int.reduceToNat Int.reduceEq Int.reduceLT Int.reduceLE Int.reduceAdd reduceCtorEq
attribute [go_sem ↓] reduceIte
theorem mixed : prog.follows .mixedOrders = true := by kernel_rfl
theorem none_is : PureIs prog 83 [] (.ag [.sc (.int .i64 (-1)), .sc (.int .i64 (-1))]) := by
 refine PureIs.of (nv := 1) (hid := []) func83 rfl (by kernel_rfl) (by simp) fun _ => ?_;rw [ntmps83, results83];refine EvC.seq (EvC.rg (by simp only [go_sem]; rfl) rfl ?_);refine EvC.seq (EvC.rg (by simp only [go_sem]; rfl) rfl ?_);refine EvC.ret ⟨.inl rfl, _, (by simp only [go_sem]; rfl), rfl, rfl⟩
def I (n : Int) : AV := .sc (.int .i64 n)
def B (b : Bool) : AV := .sc (.bool b)
def intC (x : Int) : List AV := [.sc (.int .i64 x)]
@[go_sem] theorem norefs_ints (l : List Int) : (l.map intC).all AV.norefs = true := by simp [List.all_eq_true, intC, AV.norefs, AV.noref]
def fitsR (n o to out : Int) : Bool := decide (to = -1) && decide (out = -1) || (decide (0 ≤ to) && decide (to < n) && decide (0 ≤ out) && decide (out < o))
theorem fits_is (i o : Int) (nl : Bool) (rows : List (List AV)) (c : Cp) (to out : Int) :
  PureIs prog 63 [.ag [.sc (.int .i64 i), .sc (.int .i64 o), .sl nl rows c], .ag [.sc (.int .i64 to), .sc (.int .i64 out)]] (.sc (.bool (fitsR rows.length o to out))) := by
 refine PureIs.of1 5 [] func63 ntmps63 results63 fun _ => ?_;refine EvC.seq (EvC.rg (by simp only [go_sem]; rfl) rfl ?_);apply EvC.seq;apply EvC.drw mixed
 case ht =>
  apply Tr.run
  ·simp only [go_sem] <;> rfl
  ·rfl
  apply Tr.cons
  ·exact .call rfl rfl (by simp only [go_sem] <;> rfl) (by simp only [go_sem] <;> rfl) (by simp only [go_sem] <;> rfl) (by simp only [go_sem] <;> rfl) (by simp only [go_sem] <;> rfl) none_is
  apply Tr.done
  ·simp only [go_sem] <;> rfl
  ·simp
 case hc => kernel_rfl
 case hq =>
  refine EvC.rz ?_;simp only [go_sem];congr 2;unfold fitsR;by_cases h1 : to = -1 <;> by_cases h2 : out = -1 <;> by_cases h3 : 0 ≤ to <;> by_cases h4 : to < rows.length <;> by_cases h5 : 0 ≤ out <;> simp [h1, h2, h3, h4, h5]
def edgeC (e : Int × Int) : List AV := [.sc (.int .i64 e.1), .sc (.int .i64 e.2)]
@[go_sem] theorem norefs_edges (l : List (Int × Int)) : (l.map edgeC).all AV.norefs = true := by simp [List.all_eq_true, edgeC, AV.norefs, AV.noref]
theorem check1_is (i o : Int) (nl : Bool) (rows : List (List AV)) (c : Cp) (to out : Int) :
  PureIs prog 62 [.ag [.sc (.int .i64 to), .sc (.int .i64 out)], .ia [.sc (.int .i64 i), .sc (.int .i64 o), .sl nl rows c]] (.sc (.bool (!fitsR rows.length o to out))) := by
 refine PureIs.of1 4 [] func62 ntmps62 results62 fun _ => ?_;refine EvC.seq (EvC.rg (by simp only [go_sem] <;> rfl) rfl ?_);apply EvC.s1
 ·apply Tr.run
  ·simp only [go_sem] <;> rfl
  ·rfl
  apply Tr.cons
  ·exact .ca (fits_is _ _ _ _ _ _ _)
  apply Tr.done
  ·simp only [go_sem] <;> rfl
  ·rfl
 refine EvC.rz ?_;simp only [go_sem]
def findIdxR (p : Int × Int → Bool) : List (Int × Int) → Int → Int
 | [], _ => -1
 | e :: es, i => if p e = true then i else findIdxR p es (i + 1)
theorem indexFunc_is (nl : Bool) (xs : List (Int × Int)) (c : Cp) (f : FuncId) (cs : List AV) (hcs : AV.norefs cs = true) (p : Int × Int → Bool) (hp : ∀ e ∈ xs, PureIs prog f (.ag (edgeC e) :: cs) (.sc (.bool (p e)))) (hl : xs.length < 1000000) :
  PureIs prog 82 [.sl nl (xs.map edgeC) c, .fn f cs] (.sc (.int .i64 (findIdxR p xs 0))) := by
 refine PureIs.of1 6 [6, 7, 8, 9, 16] func82 ntmps82 results82 fun _ => ?_;refine EvC.seq (EvC.rg (by simp only [go_sem] <;> rfl) rfl ?_);refine EvC.seq ?_;refine EvC.seq (EvC.rg (by simp only [go_sem] <;> rfl) rfl ?_);refine EvC.block (EvC.loopS (σ := Nat) (fun i => ⟨[(0, .sl nl (xs.map edgeC) c), (1, .fn f cs), (7, .sc (.int .i64 xs.length)), (8, .sc (.int .i64 i))], [], [], 0⟩) (fun i => xs.length - i) (fun i => i ≤ xs.length ∧ findIdxR p xs 0 = findIdxR p (xs.drop i) i) [0, 1, 7, 8] 0 ?_ ?_)
 ·refine ⟨[], 0, rfl, (by simp only [go_sem, hcs] <;> rfl), Nat.zero_le _, by simp⟩
 ·rintro i ⟨h1, h2⟩;refine EvC.seq (EvC.rg (by simp only [go_sem] <;> rfl) rfl ?_);refine EvC.seq (EvC.cond (by simp only [go_sem] <;> rfl) (fun hc => ?_) (fun hc => ?_))
  ·refine EvC.skip ?_;have hi : i < xs.length := by simpa using hc
   have he : xs[i]? = some xs[i] := List.getElem?_eq_getElem hi;generalize xs[i] = e at he;have hm : e ∈ xs := List.mem_of_getElem? he;have hd : xs.drop i = e :: xs.drop (i + 1) := by
    rw [List.drop_eq_getElem_cons hi]; congr 1; rw [List.getElem?_eq_getElem hi] at he; simpa using he
   refine EvC.seq ?_;refine EvC.block (EvC.seq (EvC.rg (by simp only [go_sem] <;> rfl) rfl ?_));apply EvC.s1
   ·apply Tr.run
    ·simp only [go_sem, he, edgeC] <;> rfl
    ·simp
    apply Tr.cons
    ·exact .call rfl rfl (by simp only [go_sem] <;> rfl) (by simp only [go_sem] <;> rfl) (by simp only [go_sem] <;> rfl) (by simp only [go_sem, hcs] <;> rfl) (by simp only [go_sem] <;> rfl) (hp e hm)
    apply Tr.done
    ·simp only [go_sem] <;> rfl
    ·rfl
   refine EvC.cond (by simp only [go_sem] <;> rfl) (fun hc => ?_) (fun hc => ?_)
   ·refine EvC.seq (EvC.rg (by simp only [go_sem] <;> rfl) rfl ?_);refine EvC.rz ?_;simp only [go_sem];rw [h2, hd, findIdxR, if_pos hc]
   ·refine EvC.skip ?_;refine EvC.rg (by simp only [go_sem] <;> rfl) ?_ ?_
    ·exact inI64_of (by omega) (by omega)
    refine ⟨[], i + 1, rfl, ?_, ⟨by omega, ?_⟩, by omega⟩
    ·simp only [go_sem, hcs] <;> rfl
    ·rw [h2, hd, findIdxR, if_neg (by simp [hc])]; rfl
  ·refine EvC.exit ?_;have hi : ¬ i < xs.length := by simpa using hc
   refine EvC.seq (EvC.rg (by simp only [go_sem] <;> rfl) rfl ?_);refine EvC.rz ?_;simp only [go_sem];rw [h2, List.drop_of_length_le (by omega)]; rfl
theorem findIdxR_any (p : Int × Int → Bool) : ∀ (es : List (Int × Int)) (i : Int), 0 ≤ i → decide (0 ≤ findIdxR p es i) = es.any p
 | [], i, _ => by simp [findIdxR]
 | e :: es, i, h => by
   unfold findIdxR;split
   ·rename_i hp; simp [hp, h]
   ·rename_i hp;rw [findIdxR_any p es (i + 1) (by omega)];simp [hp]
theorem containsFunc_is (nl : Bool) (xs : List (Int × Int)) (c : Cp) (f : FuncId) (cs : List AV) (hcs : AV.norefs cs = true) (p : Int × Int → Bool) (hp : ∀ e ∈ xs, PureIs prog f (.ag (edgeC e) :: cs) (.sc (.bool (p e)))) (hl : xs.length < 1000000) :
  PureIs prog 61 [.sl nl (xs.map edgeC) c, .fn f cs] (.sc (.bool (xs.any p))) := by
 refine PureIs.of1 5 [] func61 ntmps61 results61 fun _ => ?_;refine EvC.seq (EvC.rg (by simp only [go_sem] <;> rfl) rfl ?_);apply EvC.s1
 ·apply Tr.run
  ·simp only [go_sem] <;> rfl
  ·rfl
  apply Tr.cons
  ·exact .call rfl rfl (by simp only [go_sem] <;> rfl) (by simp only [go_sem] <;> rfl) (by simp only [go_sem] <;> rfl) (by simp only [go_sem, hcs] <;> rfl) (by simp only [go_sem] <;> rfl) (indexFunc_is _ _ _ _ _ hcs _ hp hl)
  apply Tr.done
  ·simp only [go_sem] <;> rfl
  ·rfl
 refine EvC.rz ?_;simp only [go_sem];rw [findIdxR_any _ _ _ (Int.le_refl 0)]
abbrev Row := Bool × List (Int × Int)
def rowC (r : Row) : List AV := [.sl r.1 (r.2.map edgeC) .unk]
structure Mach where
 ins : Int
 outs : Int
 nl : Bool
 rows : List Row
def Mach.cells (m : Mach) : List AV := [.sc (.int .i64 m.ins), .sc (.int .i64 m.outs), .sl m.nl (m.rows.map rowC) .unk]
def rowOk (m : Mach) (r : Row) : Bool := decide ((r.2.length : Int) = m.ins) && !(r.2.any fun e => !fitsR m.rows.length m.outs e.1 e.2)
def checkM (m : Mach) : Int :=
 if 16 < m.ins ∨ 16 < m.outs ∨ 64 < (m.rows.length : Int) then 3
 else if m.ins < 1 ∨ m.outs < 1 ∨ (m.rows.length : Int) < 1 then 1
 else if m.rows.all (rowOk m) = true then 0 else 1
theorem check_is (m : Mach) (hr : ∀ r ∈ m.rows, r.2.length < 1000000) : PureIs prog 35 [.ag m.cells] (.sc (.int .i64 (checkM m))) := by
 refine PureIs.of1 5 [18, 32, 34, 35, 36, 37, 49] func35 ntmps35 results35 fun _ => ?_;refine EvC.seq (EvC.rg (by simp only [go_sem, Mach.cells] <;> rfl) rfl ?_);refine EvC.z 0 ?_;refine EvC.seq ?_;apply EvC.seq;apply EvC.trd
 ·simp only [go_sem] <;> rfl
 ·simp
 refine EvC.cond (by simp only [go_sem] <;> rfl) (fun hc => ?_) (fun hc => ?_)
 ·refine EvC.seq (EvC.rg (by simp only [go_sem] <;> rfl) rfl ?_);refine EvC.rz ?_;simp only [go_sem];have h : 16 < m.ins ∨ 16 < m.outs ∨ 64 < (m.rows.length : Int) := by
   by_cases h1 : 16 < m.ins <;> by_cases h2 : 16 < m.outs <;> simp_all
  rw [checkM, if_pos h]
 have hn : ¬ (16 < m.ins ∨ 16 < m.outs ∨ 64 < (m.rows.length : Int)) := by
  by_cases h1 : 16 < m.ins <;> by_cases h2 : 16 < m.outs <;> simp_all
 refine EvC.skip ?_;refine EvC.seq ?_;apply EvC.seq;apply EvC.trd
 ·simp only [go_sem] <;> rfl
 ·simp
 refine EvC.cond (by simp only [go_sem] <;> rfl) (fun hc => ?_) (fun hc => ?_)
 ·refine EvC.seq (EvC.rg (by simp only [go_sem] <;> rfl) rfl ?_);refine EvC.rz ?_;simp only [go_sem];have h : m.ins < 1 ∨ m.outs < 1 ∨ (m.rows.length : Int) < 1 := by
   by_cases h1 : m.ins < 1 <;> by_cases h2 : m.outs < 1 <;> simp_all
  rw [checkM, if_neg hn, if_pos h]
 have hn2 : ¬ (m.ins < 1 ∨ m.outs < 1 ∨ (m.rows.length : Int) < 1) := by
  by_cases h1 : m.ins < 1 <;> by_cases h2 : m.outs < 1 <;> simp_all
 refine EvC.skip ?_;have hlen : (m.rows.length : Int) ≤ 64 := by omega
 refine EvC.seq ?_;refine EvC.a ?_;refine EvC.block (EvC.loopS (σ := Nat) (fun i => ⟨[(1, .ia m.cells), (34, .sl m.nl (m.rows.map rowC) .unk), (35, .sc (.int .i64 m.rows.length)), (36, .sc (.int .i64 i))], [], [], 0⟩) (fun i => m.rows.length - i) (fun i => i ≤ m.rows.length ∧ m.rows.all (rowOk m) = (m.rows.drop i).all (rowOk m)) [1, 34, 35, 36] 0 ?_ ?_)
 ·refine ⟨[], 0, rfl, (by simp only [go_sem, Mach.cells] <;> rfl), Nat.zero_le _, by simp⟩
 rintro i ⟨h1, h2⟩;refine EvC.seq (EvC.rg (by simp only [go_sem] <;> rfl) rfl ?_);refine EvC.seq (EvC.cond (by simp only [go_sem] <;> rfl) (fun hc => ?_) (fun hc => ?_))
 ·refine EvC.skip ?_;have hi : i < m.rows.length := by simpa using hc
  have he : m.rows[i]? = some m.rows[i] := List.getElem?_eq_getElem hi;generalize m.rows[i] = r at he;have hm : r ∈ m.rows := List.mem_of_getElem? he;have hd : m.rows.drop i = r :: m.rows.drop (i + 1) := by
   rw [List.drop_eq_getElem_cons hi]; congr 1; rw [List.getElem?_eq_getElem hi] at he; simpa using he
  refine EvC.seq ?_;refine EvC.block (EvC.seq (EvC.rg (by simp only [go_sem, he, rowC] <;> rfl) (by simp) ?_));by_cases hl : (r.2.length : Int) = m.ins
  ·apply EvC.s1
   ·apply Tr.run
    ·simp only [go_sem, Mach.cells, hl] <;> rfl
    ·simp
    apply Tr.cons
    ·exact .cg (containsFunc_is r.1 r.2 .unk 62 [.ia m.cells] rfl (fun e => !fitsR m.rows.length m.outs e.1 e.2) (fun e _ => by simpa [edgeC, Mach.cells] using check1_is m.ins m.outs m.nl (m.rows.map rowC) .unk e.1 e.2) (hr r hm))
    apply Tr.done
    ·simp only [go_sem] <;> rfl
    ·simp
   refine EvC.cond (by simp only [go_sem] <;> rfl) (fun hc2 => ?_) (fun hc2 => ?_)
   ·refine EvC.seq (EvC.rg (by simp only [go_sem] <;> rfl) rfl ?_);refine EvC.rz ?_;simp only [go_sem];rw [checkM, if_neg hn, if_neg hn2, h2, hd, List.all_cons];simp [rowOk, hc2]
   ·refine EvC.skip ?_;refine EvC.rg (by simp only [go_sem] <;> rfl) ?_ ?_
    ·exact inI64_of (by omega) (by omega)
    refine ⟨[], i + 1, rfl, (by simp only [go_sem, Mach.cells] <;> rfl), ⟨by omega, ?_⟩, by omega⟩;rw [h2, hd, List.all_cons];simp [rowOk, hl, hc2]
  ·apply EvC.s1
   ·apply Tr.run
    ·simp only [go_sem, Mach.cells, hl] <;> rfl
    ·simp
    apply Tr.cons
    ·exact .skipv (.sc (.bool false)) rfl rfl (by simp only [go_sem] <;> rfl) (by simp only [go_sem] <;> rfl)
    apply Tr.done
    ·simp only [go_sem] <;> rfl
    ·simp
   refine EvC.ct ?_;refine EvC.seq (EvC.rg (by simp only [go_sem] <;> rfl) rfl ?_);refine EvC.rz ?_;simp only [go_sem];rw [checkM, if_neg hn, if_neg hn2, h2, hd, List.all_cons];simp [rowOk, hl]
 ·refine EvC.exit ?_;have hi : ¬ i < m.rows.length := by simpa using hc
  refine EvC.seq (EvC.rg (by simp only [go_sem] <;> rfl) rfl ?_);refine EvC.rz ?_;simp only [go_sem];rw [checkM, if_neg hn, if_neg hn2, h2, List.drop_of_length_le (by omega)]; rfl
end Go.Avl
