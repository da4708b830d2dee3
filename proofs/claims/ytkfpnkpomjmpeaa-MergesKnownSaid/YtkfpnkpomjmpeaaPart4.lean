/-
  Operations of a drawn region, one by one and in runs.
  Calls in drawn regions; runs of operations at once, guards and all.
  The rules for regions in their last shape; the rest of the simp set.
  A box is frozen: nobody writes it any more; its address is read by the cells behind it.
  Blocks that hold no data are turned: nothing that is read changes.
  What texts behind the iterators need of them (claims without Ev12 and Ev13).
  Frozen slices are read by their contents in boxes, too.
  A slice without room is an object that nobody has written; contracts under weaker readings.
  A call by its body: the callee works on the caller's own objects, and may hand back new ones.
  Functions whose result is read from new cells alone; calls that lend objects.
  Contracts with a result in new cells, from a body.
  Scopes that nobody jumps in, and labels.
  A slice of length 0 at the front of an object that nobody else keeps: an empty object with room.
  Calls that lend objects, whatever they hold, in regions that are drawn, too.
  An empty object, to be grown by rows that are still written.
  Many objects at once: those with the numbers below n (n at most 1000000; the others have greater ones). Renaming, freezing.
  Another test of a drawn region's order: by the slots that its operations name, where the numbers of objects are not known.
  Tables whose rows are slices of their own, still written: the rows are the objects below n.
  Functions that work on objects that are there: what comes of them from given arguments and memory.
  Boxes that keep a whole object: as a view of it from its front.
  Functions whose result is a new slice that nobody else has: it may go on being written.
-/
import Derived.Scope
import Derived.Test.YtkfpnkpomjmpeaaPart3
set_option linter.unusedSimpArgs false
set_option linter.unusedVariables false
set_option linter.unnecessarySimpa false
set_option linter.deprecated false
namespace Go.Avl
open Go
def memless : Op → Bool
 | .move _ | .assign _ | .pick _ _ _ | .alloc _ | .field _ _ _ | .index _ _ _ | .unOp _ _ _ | .convert _ _ _ | .makeInterface _ _ | .makeFunc _ _ _ | .makeMap _ _ | .makeSlice _ _ _ | .typeAssert _ _ _ _ | .extract _ _ => true
 | _ => false
def opSlots : List Operand → List Nat
 | [] => []
 | .tmp t :: xs => 2 * t :: opSlots xs
 | _ :: xs => opSlots xs
def odds : List Nat → List Nat
 | [] => []
 | i :: l => (2 * i + 1) :: odds l
def opIds (fr : Fr) (st : St) : List Operand → List Nat
 | [] => []
 | x :: xs => odds (opnd fr st x).ids ++ opIds fr st xs
def adrOp : Op → Bool
 | .nilCheck _ | .fieldAddr _ _ _ | .indexAddr _ _ _ => true
 | _ => false
def AV.idsA : AV → List Nat
 | .rf _ _ => []
 | .opt _ (.rf _ _) => []
 | v => v.ids
def opIdsA (fr : Fr) (st : St) : List Operand → List Nat
 | [] => []
 | x :: xs => odds (opnd fr st x).idsA ++ opIdsA fr st xs
def rdOf (fr : Fr) (st : St) (gs : List Nat) (o : Oper) : List Nat := gs ++ (opSlots o.op.operands.toList ++ if memless o.op = true then [] else if adrOp o.op = true then opIdsA fr st o.op.operands.toList else opIds fr st o.op.operands.toList)
def efRc (id : Nat) : Ef → Option (Bool × Rc)
 | .bad => none
 | .val ok v => some (ok, ⟨v, none⟩)
 | .new ok v ob => some (ok, ⟨v, some (id, ob)⟩)
 | .upd ok v i ob => some (ok, ⟨v, some (i, ob)⟩)
 | .key _ _ _ _ => none
def efRcG (g : Bool) : Ef → Option (Bool × Rc)
 | .val ok v => some (!g || ok, ⟨.opt g v, none⟩)
 | _ => none
section
variable {P : Program} {fr : Fr} {ro : Option Nat} {ds : DS} {st st' : St} {Q : Exit → St → Prop} {G G' : Nat → Option Value} {F F' : Nat → Nat → Prop} {a : Act} {w w' : World}
 {M M' : Mem} {ops : Array Oper} {o : Oper} {id N : Nat} {d : Option Nat} {r : Rc} {x y : Nat} {rest : List Oper} {its : List It} {rd gs : List Nat} {ok : Bool}
theorem opSlots_mem {t : Nat} : ∀ {xs : List Operand}, Operand.tmp t ∈ xs → 2 * t ∈ opSlots xs
 | x :: xs, h => by
   rcases List.mem_cons.1 h with h | h
   ·subst h; exact List.mem_cons_self
   ·have := opSlots_mem h
    cases x <;> simp [opSlots, this]
theorem odds_mem {i : Nat} : ∀ {l : List Nat}, i ∈ l → 2 * i + 1 ∈ odds l
 | j :: l, h => by
   rcases List.mem_cons.1 h with h | h
   ·subst h; exact List.mem_cons_self
   ·exact List.mem_cons_of_mem _ (odds_mem h)
theorem opIds_mem {x : Operand} {i : Nat} : ∀ {xs : List Operand}, x ∈ xs → i ∈ (opnd fr st x).ids → 2 * i + 1 ∈ opIds fr st xs
 | y :: xs, h, hi => by
   simp only [opIds, List.mem_append]
   rcases List.mem_cons.1 h with h | h
   ·subst h; exact .inl (odds_mem hi)
   ·exact .inr (opIds_mem h hi)
theorem look_slot {k : Nat} (h : look fr st' (2 * k) = look fr st (2 * k)) : st'.get fr k = st.get fr k := by
 unfold look at h
 rw [if_pos (by omega), if_pos (by omega)] at h
 simpa [show 2 * k / 2 = k by omega] using h
theorem look_obj {i : Nat} (h : look fr st' (2 * i + 1) = look fr st (2 * i + 1)) : mlook st'.mem i = mlook st.mem i := by
 unfold look at h
 rw [if_neg (by omega), if_neg (by omega)] at h
 simpa [show (2 * i + 1) / 2 = i by omega] using h
theorem xop_memless {g : Bool} (h : memless o.op = true) (M : Mem) (nx : Nat) : xop P fr ⟨st.vars, st.tmps, M, nx⟩ g id o = xop P fr st g id o := by
 obtain ⟨dst, op, ty, pos, after, guard⟩ := o
 have ho : ∀ x, opnd fr (⟨st.vars, st.tmps, M, nx⟩ : St) x = opnd fr st x := fun x => by cases x <;> rfl
 have hod : ∀ x, od fr (⟨st.vars, st.tmps, M, nx⟩ : St) g x = od fr st g x := fun x => by unfold od; rw [ho]
 have hod' : od fr (⟨st.vars, st.tmps, M, nx⟩ : St) g = od fr st g := funext hod
 cases op <;> first
  | (simp [memless] at h; done)
  | (simp only [xop, hod, hod', ho]; done)
  | rfl
  | (simp only [xop, hod, hod', ho])
theorem opIdsA_mem {x : Operand} {i : Nat} : ∀ {xs : List Operand}, x ∈ xs → i ∈ (opnd fr st x).idsA → 2 * i + 1 ∈ opIdsA fr st xs
 | y :: xs, h, hi => by
   simp only [opIdsA, List.mem_append]
   rcases List.mem_cons.1 h with h | h
   ·subst h; exact .inl (odds_mem hi)
   ·exact .inr (opIdsA_mem h hi)
theorem idsA_unopt {g : Bool} {v : AV} {i : Nat} (hn : ∀ j off, unopt g v ≠ .rf j off) (h : i ∈ (unopt g v).ids) : i ∈ v.idsA := by
 unfold unopt at hn h
 split at h
 ·rename_i b u
  split at h
  ·rename_i hb
   simp only [hb, if_true] at hn
   cases u <;> first | exact absurd rfl (hn _ _) | simpa [AV.idsA, AV.ids] using h
  ·simp [AV.ids] at h
 ·rename_i hno
  cases v <;> first | exact absurd rfl (hn _ _) | exact absurd rfl (hno _ _) | simpa [AV.idsA, AV.ids] using h
theorem xop_adr {g : Bool} (ha : adrOp o.op = true) (h : ∀ x ∈ o.op.operands.toList, opnd fr st' x = opnd fr st x ∧ ∀ i ∈ (opnd fr st x).idsA, mlook st'.mem i = mlook st.mem i) : xop P fr st' g id o = xop P fr st g id o := by
 have hod : ∀ x ∈ o.op.operands.toList, od fr st' g x = od fr st g x ∧ ((∀ j off, od fr st g x ≠ .rf j off) → ∀ i ∈ (od fr st g x).ids, mlook st'.mem i = mlook st.mem i) := fun x hx =>
  ⟨by unfold od; rw [(h x hx).1], fun hn i hi => (h x hx).2 i (idsA_unopt hn hi)⟩
 obtain ⟨dst, op, ty, pos, after, guard⟩ := o
 cases op with
 | nilCheck x =>
   obtain ⟨h1, h2⟩ := hod x (by simp [Op.operands])
   simp only [xop]; rw [h1]
   generalize od fr st g x = X at h2
   cases X <;> try rfl
   (try simp only); rw [h2 (fun _ _ => nofun) _ (by simp [AV.ids])]
 | fieldAddr t x f =>
   obtain ⟨h1, h2⟩ := hod x (by simp [Op.operands])
   simp only [xop]; rw [h1]
   generalize od fr st g x = X at h2
   split
   ·cases X <;> try rfl
    (try simp only); rw [h2 (fun _ _ => nofun) _ (by simp [AV.ids])]
   ·rfl
 | indexAddr t x ix =>
   obtain ⟨h1, h2⟩ := hod x (by simp [Op.operands])
   simp only [xop]; rw [h1, (hod ix (by simp [Op.operands])).1]
   generalize od fr st g x = X at h2
   split
   ·split
    ·split
     ·rfl
     ·cases X <;> try rfl
      all_goals ((try simp only); rw [h2 (fun _ _ => nofun) _ (by simp [AV.ids])])
    ·split
     ·split
      ·rfl
      ·cases X <;> try rfl
       (try simp only); rw [h2 (fun _ _ => nofun) _ (by simp [AV.ids])]
     ·rfl
   ·rfl
 | _ => simp [adrOp] at ha
theorem xop_look {g : Bool} (h : ∀ x ∈ rdOf fr st gs o, look fr st' x = look fr st x) : xop P fr st' g id o = xop P fr st g id o := by
 have hop : ∀ x ∈ o.op.operands.toList, opnd fr st' x = opnd fr st x := fun x hx => by
  cases x with
  | tmp t => exact look_slot (h _ (by unfold rdOf; exact List.mem_append_right _ (List.mem_append_left _ (opSlots_mem hx))))
  | _ => rfl
 by_cases hm : memless o.op = true
 ·rw [← xop_memless (st := st) (id := id) (g := g) (P := P) (fr := fr) hm st'.mem st.nx]
  refine xop_congr fun x hx => ⟨?_, fun _ _ => rfl⟩
  rw [hop x hx]
  cases x <;> rfl
 by_cases ha : adrOp o.op = true
 ·refine xop_adr ha fun x hx => ⟨hop x hx, fun i hi => look_obj (h _ ?_)⟩
  unfold rdOf
  rw [if_neg hm, if_pos ha]
  exact List.mem_append_right _ (List.mem_append_right _ (opIdsA_mem hx hi))
 ·refine xop_congr fun x hx => ⟨hop x hx, fun i hi => look_obj (h _ ?_)⟩
  unfold rdOf
  rw [if_neg hm, if_neg ha]
  exact List.mem_append_right _ (List.mem_append_right _ (opIds_mem hx hi))
theorem SimD.eval (s : SimD P fr ds G F st N a w) (x : Operand) : RV G F st.mem w (a.eval x) (opnd fr st x) := by
 cases x with
 | tmp t => exact s.slots t
 | const v => exact .imm (Imm.ofVal v)
 | global g =>
   cases hg : laidAt g with
   | none =>
     have e : opnd fr st (.global g) = .sc (.pointer (some ⟨g, 0, none⟩)) := by simp only [opnd, hg]
     rw [e]; exact .imm (.sc _)
   | some vs =>
     have e : opnd fr st (.global g) = .ia (vs.map AV.sc) := by simp only [opnd, hg]
     rw [e]; exact .imm (s.mem.gl.imm hg)
 | func f => exact .fn f [] [] rfl (fun _ h => absurd h (Nat.not_lt_zero _))
theorem SimD.put {u : Value} (s : SimD P fr ds G F st N a w) (hm : SimM P G' F' M' N w') (e : ∀ i, mlook (r.mem st.mem) i = mlook M' i) (S : Step All G F st.mem w G' F' M' w') (hd : dok fr d = true) (hr : RV G' F' M' w' u r.val) :
  SimD P fr ds G' F' (run1 fr d r st) N (a.put d u) w' ∧ Step All G F st.mem w G' F' (run1 fr d r st).mem w' := by
 have hm' : SimM P G' F' (r.mem st.mem) N w' := hm.ext e
 have S' : Step All G F st.mem w G' F' (r.mem st.mem) w' := S.ext e
 refine ⟨⟨by unfold run1; rw [St.put_mem]; exact hm', fun k => ?_, ?_, ?_⟩, by unfold run1; rw [St.put_mem]; exact S'⟩
 ·have hold : ∀ k, RV G' F' (r.mem st.mem) w' (a.tmps.getD k undef) (st.get fr k) := fun k => (s.slots k).step S' (fun _ _ => trivial)
  unfold run1
  rw [St.put_mem]
  cases d with
  | none => exact hold k
  | some d =>
    rw [St.get_put, getD_put]
    by_cases hk : k = d
    ·subst hk
     rw [if_pos rfl, if_pos ⟨rfl, by rw [s.size]; exact dok_spec hd k rfl⟩]; exact hr.ext e
    ·rw [if_neg hk, if_neg (fun h => hk h.1)]; exact hold k
 ·cases d with
  | none => exact s.size
  | some d => simp only [Act.put, Array.size_setIfInBounds]; exact s.size
 ·cases d with
  | none => exact s.defers.step s.mem S'
  | some d => exact s.defers.step s.mem S'
theorem efRc_ok {ef : Ef} {run : Result Next} (h : EfOk P G F M N w id run ef) (he : efRc id ef = some (ok, r)) (hok : ok = true) : ∃ M', OpOk P G F M N w id run r.val M' ∧ ∀ i, mlook (r.mem M) i = mlook M' i := by
 cases ef with
 | bad => cases he
 | val b v => simp only [efRc, Option.some.injEq, Prod.mk.injEq] at he; obtain ⟨rfl, rfl⟩ := he; exact ⟨_, h hok, fun _ => rfl⟩
 | new b v ob =>
   simp only [efRc, Option.some.injEq, Prod.mk.injEq] at he; obtain ⟨rfl, rfl⟩ := he
   exact ⟨_, h hok, fun i => by rw [mlook_rc]; rfl⟩
 | upd b v i ob => simp only [efRc, Option.some.injEq, Prod.mk.injEq] at he; obtain ⟨rfl, rfl⟩ := he; exact ⟨_, h hok, fun _ => rfl⟩
 | key b v old ob => cases he
theorem efRc_defer {g : Bool} {b : Bool} (he : efRc id (xop P fr st g id o) = some (b, r)) : ∀ c, o.op ≠ .defer c := by
 intro c hc
 obtain ⟨d, op, ty, pos, after, gu⟩ := o
 simp only at hc
 subst hc
 simp [xop, efRc] at he
theorem SimD.wp {K : Act → World → Prop} {Q1 : Exit → Act → World → Prop} (s : SimD P fr ds G F st' N a w) (hN : id < N) (hG : G id = none) (hd : dok fr o.dst = true)
  (hx : xop P fr st' true id o = xop P fr st true id o) (he : efRc id (xop P fr st true id o) = some (ok, r)) (hok : ok = true)
  (h : ∀ G' F' a' w', SimD P fr ds G' F' (run1 fr o.dst r st') N a' w' → Step All G F st'.mem w G' F' (run1 fr o.dst r st').mem w' → (∀ j, j ≠ id → G j = none → G' j = none) → K a' w') :
  o.wpIn (fc ro) 0 P a w K Q1 := by
 have hk := xop_ok (id := id) (fr := fr) (st := st') s.mem s.eval (fun _ => rfl) hG hN o
 rw [hx] at hk
 obtain ⟨M', ⟨u, w', G', F', hrun, hm', S', hr, hfr⟩, e⟩ := efRc_ok hk he hok
 obtain ⟨s1, S1⟩ := s.put (d := o.dst) (u := u) hm' e S' hd hr
 refine ⟨fun _ _ => trivial, ?_⟩
 rw [Oper.semAt_eq _ _ _ (efRc_defer he)]
 rcases hrun with hrun | ⟨hrun, rfl⟩ <;> rw [hrun]
 ·exact h _ _ _ _ s1 S1 hfr
 ·exact h _ _ _ _ s1 S1 hfr
theorem OpIs.op (hg : o.guard = none) (hd : dok fr o.dst = true) (he : efRc id (xop P fr st true id o) = some (ok, r)) (hok : ok = true) (hrd : rdOf fr st [] o = rd) : OpIs P fr ro ds ops id st ⟨o, r, rd⟩ := by
 intro st' G F a w N K Q1 s hN hG hl h
 simp only [Region.wanted, hg, if_true]
 exact s.wp hN hG hd (xop_look (gs := []) (by rw [hrd]; exact hl)) he hok h
theorem wantedD {j k : Nat} {want g : Bool} (s : SimD P fr ds G F st N a w) (hg : o.guard = some (j, want)) (hj : gslot ops j = some k) (hk : gval want (st.get fr k) = some g) : Region.wanted o (yielded ops a.tmps) = g := by
 have := gval_ok (s.slots k) hk
 simp only [Region.wanted, hg, yielded]
 unfold gslot at hj
 rw [hj, ← this]
 simp only [Option.bind_some, Array.getD_eq_getD_getElem?]
 cases h : a.tmps[k]? with
 | none => simp [undef, bov]
 | some v => cases v <;> simp [bov]
theorem SimD.skip {K : Act → World → Prop} {v : AV} (s : SimD P fr ds G F st' N a w) (hd : dok fr o.dst = true) (hv : RV G F st'.mem w undef v)
  (h : ∀ G' F' a' w', SimD P fr ds G' F' (run1 fr o.dst ⟨v, none⟩ st') N a' w' → Step All G F st'.mem w G' F' (run1 fr o.dst ⟨v, none⟩ st').mem w' → (∀ j, j ≠ id → G j = none → G' j = none) → K a' w') : K (a.put o.dst undef) w := by
 obtain ⟨s1, S1⟩ := s.put (d := o.dst) (r := ⟨v, none⟩) (u := undef) s.mem (fun _ => rfl) .refl hd hv
 exact h _ _ _ _ s1 S1 (fun _ _ h => h)
theorem OpIs.skip {j k : Nat} {want : Bool} (hg : o.guard = some (j, want)) (hj : gslot ops j = some k) (hk : gval want (st.get fr k) = some false) (hd : dok fr o.dst = true) : OpIs P fr ro ds ops id st ⟨o, ⟨.sc undef, none⟩, [2 * k]⟩ := by
 intro st' G F a w N K Q1 s hN hG hl h
 have hw := wantedD s hg hj (by rw [look_slot (hl _ List.mem_cons_self)]; exact hk)
 rw [hw]
 simp only [Bool.false_eq_true, if_false]
 exact ⟨fun _ _ => trivial, s.skip hd (.imm (.sc _)) h⟩
theorem OpIs.want {j k : Nat} {want : Bool} (hg : o.guard = some (j, want)) (hj : gslot ops j = some k) (hk : gval want (st.get fr k) = some true) (hd : dok fr o.dst = true)
  (he : efRc id (xop P fr st true id o) = some (ok, r)) (hok : ok = true) (hrd : rdOf fr st [2 * k] o = rd) : OpIs P fr ro ds ops id st ⟨o, r, rd⟩ := by
 intro st' G F a w N K Q1 s hN hG hl h
 have hw := wantedD s hg hj (by rw [look_slot (hl _ (by rw [← hrd]; exact List.mem_cons_self))]; exact hk)
 rw [hw]
 simp only [if_true]
 exact s.wp hN hG hd (xop_look (gs := [2 * k]) (by rw [hrd]; exact hl)) he hok h
theorem run1_opt {g : Bool} {v : AV} (hgt : g = true) (s : SimD P fr ds G F (run1 fr d ⟨v, none⟩ st) N a w) : SimD P fr ds G F (run1 fr d ⟨.opt g v, none⟩ st) N a w := by
 subst hgt
 have hm : (run1 fr d ⟨.opt true v, none⟩ st).mem = (run1 fr d ⟨v, none⟩ st).mem := by unfold run1; rw [St.put_mem, St.put_mem]; rfl
 refine ⟨by rw [hm]; exact s.mem, fun k => ?_, s.size, s.defers⟩
 rw [hm]
 have hk := s.slots k
 unfold run1 at hk ⊢
 cases d with
 | none => exact hk
 | some d =>
   rw [St.get_put] at hk ⊢
   by_cases hkd : k = d
   ·rw [if_pos hkd] at hk ⊢; exact .opt true _ _ (fun _ => hk) (fun h => by cases h)
   ·rw [if_neg hkd] at hk ⊢; exact hk
theorem OpIs.guard {j k : Nat} {want g : Bool} (hg : o.guard = some (j, want)) (hj : gslot ops j = some k) (hk : gval want (st.get fr k) = some g) (hd : dok fr o.dst = true)
  (he : efRcG g (xop P fr st g id o) = some (ok, r)) (hok : ok = true) (hrd : rdOf fr st [2 * k] o = rd) : OpIs P fr ro ds ops id st ⟨o, r, rd⟩ := by
 intro st' G F a w N K Q1 s hN hG hl h
 have hw := wantedD s hg hj (by rw [look_slot (hl _ (by rw [← hrd]; exact List.mem_cons_self))]; exact hk)
 rw [hw]
 cases hx : xop P fr st g id o with
 | val b v =>
   rw [hx] at he
   simp only [efRcG, Option.some.injEq, Prod.mk.injEq] at he
   obtain ⟨he1, rfl⟩ := he
   cases g with
   | false =>
     simp only [Bool.false_eq_true, if_false]
     exact ⟨fun _ _ => trivial, s.skip hd (.imm (.opt false _ _ (fun h => by cases h) (fun _ => rfl))) h⟩
   | true =>
     simp only [if_true]
     have hb : b = true := by rw [← he1] at hok; simpa using hok
     have he' : efRc id (xop P fr st true id o) = some (b, ⟨v, none⟩) := by rw [hx]; rfl
     refine s.wp hN hG hd (xop_look (gs := [2 * k]) (by rw [hrd]; exact hl)) he' hb fun G' F' a' w' s' S' hf => h G' F' a' w' (run1_opt rfl s') ?_ hf
     have hm : (run1 fr o.dst ⟨.opt true v, none⟩ st').mem = (run1 fr o.dst ⟨v, none⟩ st').mem := by unfold run1; rw [St.put_mem, St.put_mem]; rfl
     rw [hm]; exact S'
 | _ => rw [hx] at he; cases he
end
end Go.Avl
namespace Go.Avl
open Go
section
variable {P : Program} {fr : Fr} {ro : Option Nat} {ds : DS} {st st' : St} {Q : Exit → St → Prop} {G G' : Nat → Option Value} {F F' : Nat → Nat → Prop} {a : Act} {w w' : World}
 {M M' : Mem} {ops : Array Oper} {o : Oper} {id N : Nat} {d : Option Nat} {r : Rc} {x y : Nat} {rest : List Oper} {its : List It} {rd gs : List Nat} {ok : Bool}
theorem opSame_look (h : ∀ x ∈ rdOf fr st gs o, look fr st' x = look fr st x) (hm : memless o.op = false) (ha : adrOp o.op = false) : OpSame fr st' st o.op.operands.toList := fun x hx => by
 refine ⟨?_, fun i hi => look_obj (h _ ?_)⟩
 ·cases x with
  | tmp t => exact look_slot (h _ (by unfold rdOf; exact List.mem_append_right _ (List.mem_append_left _ (opSlots_mem hx))))
  | _ => rfl
 ·unfold rdOf
  rw [if_neg (by simp [hm]), if_neg (by simp [ha])]
  exact List.mem_append_right _ (List.mem_append_right _ (opIds_mem hx hi))
theorem SimD.call {f : FuncId} {cs : List AV} {callee : Operand} {args : Array Operand} {tys : Array TypeId} {xs : List AV} {v : AV} {K : Act → World → Prop} {Q1 : Exit → Act → World → Prop}
  (s : SimD P fr ds G F st N a w) (hop : o.op = .call ⟨.value callee, args, tys⟩) (hd : dok fr o.dst = true) (hcal : od fr st true callee = .fn f cs)
  (hxs : callArgs fr st args ++ cs = xs) (hn : AV.norefs xs = true) (hc : PureIs P f xs v)
  (h : ∀ G' F' a' w', SimD P fr ds G' F' (run1 fr o.dst ⟨v, none⟩ st) N a' w' → Step All G F st.mem w G' F' (run1 fr o.dst ⟨v, none⟩ st).mem w' → (∀ j, j ≠ id → G j = none → G' j = none) → K a' w') : o.wpIn (fc ro) 0 P a w K Q1 := by
 refine ⟨fun _ _ => trivial, ?_⟩
 rw [Oper.semAt_eq _ _ _ (by rw [hop]; intro c h; cases h)]
 have hv := (s.eval callee).unopt
 have hv : RV G F st.mem w (a.eval callee) (.fn f cs) := by unfold od at hcal; rwa [hcal] at hv
 obtain ⟨vs, hev, hl, hcs⟩ := hv.inv_fn
 have hrun : (execOp a.eval o).run P w = .ok (.enter f ((args.toList.map a.eval ++ vs).toArray)) w := by
  obtain ⟨dst, op, ty, pos, after, guard⟩ := o
  simp only at hop
  subst hop
  simp only [execOp, resolve, hev, Deferred.ofValue, Sem.run_bind, Sem.run_pure, Result.andThen_ok, invoke]
  rw [hc.1]
  congr 2
  apply Array.ext'
  simp
 rw [hrun]
 have hi : Imms F w (args.toList.map a.eval ++ vs) xs := by
  subst hxs
  refine .of_rv (G := G) (M := st.mem) (by simp [callArgs, hl]) (fun i h1 h2 => ?_) hn
  by_cases hlt : i < args.toList.length
  ·rw [List.getElem_append_left (by simpa using hlt), List.getElem_append_left (by simpa [callArgs] using hlt)]
   simp only [callArgs, List.getElem_map]
   exact ((s.eval _).unopt).snap s.mem
  ·rw [List.getElem_append_right (by simpa using hlt), List.getElem_append_right (by simpa [callArgs] using hlt)]
   simp only [List.length_map, callArgs]
   exact hcs _ _ _
 refine ⟨fun h => by simp [fc, Fence.wide] at h, callsIn_fc ((hc.2 F w _ s.mem.fok hi).mono ?_)⟩
 rintro e w' ⟨u, F', rfl, hu, g⟩
 obtain ⟨hm', S'⟩ := simM_grown s.mem g
 obtain ⟨s1, S1⟩ := s.put (d := o.dst) (r := ⟨v, none⟩) (u := u) hm' (fun _ => rfl) S' hd (.imm hu)
 exact h G F' _ w' s1 S1 (fun _ _ h => h)
theorem callArgs_look (h : ∀ x ∈ rdOf fr st gs o, look fr st' x = look fr st x) {callee : Operand} {args : Array Operand} {tys : Array TypeId} (hop : o.op = .call ⟨.value callee, args, tys⟩) :
  od fr st' true callee = od fr st true callee ∧ callArgs fr st' args = callArgs fr st args := by
 have hs := opSame_look h (by rw [hop]; rfl) (by rw [hop]; rfl)
 rw [hop] at hs
 refine ⟨(hs.od (x := callee) (by simp [Op.operands, Call.operands]) true).1, ?_⟩
 unfold callArgs
 refine List.map_congr_left fun x hx => ?_
 obtain ⟨h1, h2⟩ := hs.od (x := x) (by simp only [Op.operands, Call.operands]; simp; exact .inr (by simpa using hx)) true
 rw [h1, snap_congr h2]
theorem OpIs.call {f : FuncId} {cs : List AV} {callee : Operand} {args : Array Operand} {tys : Array TypeId} {xs : List AV} {v : AV} (hg : o.guard = none) (hop : o.op = .call ⟨.value callee, args, tys⟩) (hd : dok fr o.dst = true)
  (hcal : od fr st true callee = .fn f cs) (hxs : callArgs fr st args ++ cs = xs) (hn : AV.norefs xs = true) (hrd : rdOf fr st [] o = rd) (hc : PureIs P f xs v) : OpIs P fr ro ds ops id st ⟨o, ⟨v, none⟩, rd⟩ := by
 intro st' G F a w N K Q1 s hN hG hl h
 simp only [Region.wanted, hg, if_true]
 obtain ⟨e1, e2⟩ := callArgs_look (gs := []) (by rw [hrd]; exact hl) hop
 exact s.call hop hd (by rw [e1]; exact hcal) (by rw [e2]; exact hxs) hn hc h
theorem OpIs.callG {j k : Nat} {want : Bool} {f : FuncId} {cs : List AV} {callee : Operand} {args : Array Operand} {tys : Array TypeId} {xs : List AV} {v : AV} (hg : o.guard = some (j, want)) (hj : gslot ops j = some k) (hk : gval want (st.get fr k) = some true)
  (hop : o.op = .call ⟨.value callee, args, tys⟩) (hd : dok fr o.dst = true)
  (hcal : od fr st true callee = .fn f cs) (hxs : callArgs fr st args ++ cs = xs) (hn : AV.norefs xs = true) (hrd : rdOf fr st [2 * k] o = rd) (hc : PureIs P f xs v) : OpIs P fr ro ds ops id st ⟨o, ⟨v, none⟩, rd⟩ := by
 intro st' G F a w N K Q1 s hN hG hl h
 have hw := wantedD s hg hj (by rw [look_slot (hl _ (by rw [← hrd]; exact List.mem_cons_self))]; exact hk)
 rw [hw]
 simp only [if_true]
 obtain ⟨e1, e2⟩ := callArgs_look (gs := [2 * k]) (by rw [hrd]; exact hl) hop
 exact s.call hop hd (by rw [e1]; exact hcal) (by rw [e2]; exact hxs) hn hc h
inductive TRes where
 | done (ok : Bool) (its : List It) (st : St)
 | stop (ok : Bool) (its : List It) (st : St) (rest : List Oper) (id : Nat)
def TRes.cons (b : Bool) (t : It) : TRes → TRes
 | .done ok its st => .done (b && ok) (t :: its) st
 | .stop ok its st rest id => .stop (b && ok) (t :: its) st rest id
noncomputable def trun (P : Program) (fr : Fr) (all : List Oper) : List Oper → Nat → St → TRes
 | [], _, st => .done true [] st
 | o :: rest, id, st => match dok fr o.dst with
   | false => .stop true [] st (o :: rest) id
   | true => match o.guard with
     | none => match efRc id (xop P fr st true id o) with
       | none => .stop true [] st (o :: rest) id
       | some (b, r) => (trun P fr all rest (id + 1) (run1 fr o.dst r st)).cons b ⟨o, r, rdOf fr st [] o⟩
     | some (j, want) => match gslot all.toArray j with
       | none => .stop true [] st (o :: rest) id
       | some k => match gval want (st.get fr k) with
         | none => .stop true [] st (o :: rest) id
         | some g => match efRcG g (xop P fr st g id o) with
           | none => .stop true [] st (o :: rest) id
           | some (b, r) => (trun P fr all rest (id + 1) (run1 fr o.dst r st)).cons b ⟨o, r, rdOf fr st [2 * k] o⟩
theorem Tr.append {id : Nat} {l1 l2 : List Oper} {st1 st2 st3 : St} {i1 i2 : List It} (h1 : Tr P fr ro ds ops id l1 st1 i1 st2) : ∀ {id2 : Nat}, id2 = id + i1.length → Tr P fr ro ds ops id2 l2 st2 i2 st3 → Tr P fr ro ds ops id (l1 ++ l2) st1 (i1 ++ i2) st3 := by
 induction h1 with
 | nil id st => intro id2 he h2; simp at he; subst he; exact h2
 | cons h t ih => intro id2 he h2; exact .cons h (ih (by simp at he; omega) h2)
theorem trun_ok {all : List Oper} : ∀ {l : List Oper} {id : Nat} {st : St},
  (∀ ok its st', trun P fr all l id st = .done ok its st' → ok = true → Tr P fr ro ds all.toArray id l st its st') ∧
  (∀ ok its st' rest id', trun P fr all l id st = .stop ok its st' rest id' → ok = true → ∀ its2 st2, Tr P fr ro ds all.toArray id' rest st' its2 st2 → Tr P fr ro ds all.toArray id l st (its ++ its2) st2)
 | [], id, st => by
   refine ⟨fun ok its st' h _ => ?_, fun ok its st' rest id' h => ?_⟩
   ·simp only [trun] at h; cases h; exact .nil _ _
   ·simp only [trun] at h; cases h
 | o :: rest, id, st => by
   have stopCase : ∀ {res : TRes}, trun P fr all (o :: rest) id st = res → res = .stop true [] st (o :: rest) id →
     (∀ ok its st', trun P fr all (o :: rest) id st = .done ok its st' → ok = true → Tr P fr ro ds all.toArray id (o :: rest) st its st') ∧
     (∀ ok its st' rest' id', trun P fr all (o :: rest) id st = .stop ok its st' rest' id' → ok = true → ∀ its2 st2, Tr P fr ro ds all.toArray id' rest' st' its2 st2 → Tr P fr ro ds all.toArray id (o :: rest) st (its ++ its2) st2) := by
    intro res h1 h2
    rw [h1, h2]
    refine ⟨fun ok its st' h => (by cases h), fun ok its st' rest' id' h _ its2 st2 t => ?_⟩
    cases h; exact t
   have goCase : ∀ {b : Bool} {r : Rc} {rd : List Nat}, trun P fr all (o :: rest) id st = (trun P fr all rest (id + 1) (run1 fr o.dst r st)).cons b ⟨o, r, rd⟩ →
     (b = true → OpIs P fr ro ds all.toArray id st ⟨o, r, rd⟩) →
     (∀ ok its st', trun P fr all (o :: rest) id st = .done ok its st' → ok = true → Tr P fr ro ds all.toArray id (o :: rest) st its st') ∧
     (∀ ok its st' rest' id', trun P fr all (o :: rest) id st = .stop ok its st' rest' id' → ok = true → ∀ its2 st2, Tr P fr ro ds all.toArray id' rest' st' its2 st2 → Tr P fr ro ds all.toArray id (o :: rest) st (its ++ its2) st2) := by
    intro b r rd h1 h2
    obtain ⟨k1, k2⟩ := @trun_ok all rest (id + 1) (run1 fr o.dst r st)
    rw [h1]
    cases hres : trun P fr all rest (id + 1) (run1 fr o.dst r st) with
    | done ok its st1 =>
      rw [hres] at k1
      refine ⟨fun ok' its' st' h hok => ?_, fun ok its st' rest' id' h => (by cases h)⟩
      simp only [TRes.cons] at h
      cases h
      simp only [Bool.and_eq_true] at hok
      exact .cons (h2 hok.1) (k1 _ _ _ rfl hok.2)
    | stop ok its st1 rest1 id1 =>
      rw [hres] at k2
      refine ⟨fun ok its st' h => (by cases h), fun ok' its' st' rest' id' h hok its2 st2 t => ?_⟩
      simp only [TRes.cons] at h
      cases h
      simp only [Bool.and_eq_true] at hok
      exact .cons (h2 hok.1) (k2 _ _ _ _ _ rfl hok.2 its2 st2 t)
   cases hd : dok fr o.dst with
   | false => exact stopCase rfl (by simp only [trun, hd])
   | true =>
     cases hg : o.guard with
     | none =>
       cases he : efRc id (xop P fr st true id o) with
       | none => exact stopCase rfl (by simp only [trun, hd, hg, he])
       | some p =>
         obtain ⟨b, r⟩ := p
         exact goCase (by simp only [trun, hd, hg, he]) fun hb => .op hg hd he hb rfl
     | some p =>
       obtain ⟨j, want⟩ := p
       cases hj : gslot all.toArray j with
       | none => exact stopCase rfl (by simp only [trun, hd, hg, hj])
       | some k =>
         cases hk : gval want (st.get fr k) with
         | none => exact stopCase rfl (by simp only [trun, hd, hg, hj, hk])
         | some g =>
           cases he : efRcG g (xop P fr st g id o) with
           | none => exact stopCase rfl (by simp only [trun, hd, hg, hj, hk, he])
           | some p =>
             obtain ⟨b, r⟩ := p
             exact goCase (by simp only [trun, hd, hg, hj, hk, he]) fun hb => .guard hg hj hk hd he hb rfl
theorem Tr.done {all l : List Oper} (h : trun P fr all l id st = .done ok its st') (hok : ok = true) : Tr P fr ro ds all.toArray id l st its st' := trun_ok.1 _ _ _ h hok
theorem Tr.run {all l : List Oper} {id' : Nat} {its2 : List It} {st2 : St} (h : trun P fr all l id st = .stop ok its st' rest id') (hok : ok = true) (t : Tr P fr ro ds all.toArray id' rest st' its2 st2) : Tr P fr ro ds all.toArray id l st (its ++ its2) st2 := trun_ok.2 _ _ _ _ _ h hok _ _ t
theorem XR.tr : ∀ {l : List Oper} {st : St} {its : List It} {st' : St} {id : Nat}, id = st.nx → Tr P fr ro ds ops id l st its st' → Q .normal ⟨st'.vars, st'.tmps, st'.mem, st.nx + its.length⟩ → XR P fr ro ds ops l st Q := by
 intro l st its st' id he t
 subst he
 have key : ∀ {id : Nat} {l : List Oper} {st : St} {its : List It} {st' : St}, Tr P fr ro ds ops id l st its st' → ∀ (n : Nat), n = id + its.length → Q .normal ⟨st'.vars, st'.tmps, st'.mem, n⟩ → XR P fr ro ds ops l ⟨st.vars, st.tmps, st.mem, id⟩ Q := by
  intro id l st its st' t
  induction t with
  | nil id st => intro n hn hq; simp at hn; subst hn; exact .nil hq
  | cons h t ih =>
    rename_i id o rest st st' r rd l
    intro n hn hq
    have ih := ih n (by simp at hn; omega) hq
    intro G0 F0 M0 w0 G F a w S s
    have sd : SimD P fr ds G F st (id + 1) a w := ⟨s.sim.mem.more (Nat.le_succ _), s.sim.slots, s.sim.size, s.defers⟩
    have hr : (⟨(run1 fr o.dst r st).vars, (run1 fr o.dst r st).tmps, (run1 fr o.dst r st).mem, id + 1⟩ : St) = (⟨(run1 fr o.dst r st).vars, (run1 fr o.dst r st).tmps, (run1 fr o.dst r st).mem, id + 1⟩ : St) := rfl
    have := h st G F a w (id + 1) (wpListIn (fc ro) 0 P ops (Post P fr ds G0 F0 M0 w0 Q) rest) (Post P fr ds G0 F0 M0 w0 Q) sd (Nat.lt_succ_self _) (s.fresh _ (Nat.le_refl _)) (fun _ _ => rfl) fun G' F' a' w' s' S' hf => by
     refine ih _ _ _ _ _ _ _ _ (S.trans (S'.mono fun _ _ => trivial)) ⟨⟨s'.mem, s'.slots, s'.size⟩, fun j hj => hf j (by show j ≠ id; have : id + 1 ≤ j := hj; omega) (s.fresh j (by have : id + 1 ≤ j := hj; exact (by show id ≤ j; omega))), s'.defers⟩
    simp only [wpListIn]
    exact this
 exact fun hq => key t _ rfl hq
end
end Go.Avl
namespace Go.Avl
open Go
section
variable {P : Program} {fr : Fr} {ro : Option Nat} {ds : DS} {st st' : St} {Q : Exit → St → Prop} {l rest : List Oper} {its : List It} {ok : Bool} {id : Nat}
def St.fin (st : St) (n : Nat) : St := ⟨st.vars, [], st.mem, n⟩
theorem EvC.tr (ht : Tr P fr ro ds l.toArray st.nx l st.clr its st') (hq : Q .normal (st'.fin (st.nx + its.length))) : EvC P fr ro ds (.region id l.toArray false) st Q :=
 .clrQ (.region (.tr rfl ht hq))
theorem EvC.trd (h : trun P fr l l st.nx st.clr = .done ok its st') (hok : ok = true) (hq : Q .normal (st'.fin (st.nx + its.length))) : EvC P fr ro ds (.region id l.toArray false) st Q :=
 .tr (.done h hok) hq
theorem EvC.drw (hm : P.follows .mixedOrders = true) (ht : Tr P fr ro ds l.toArray st.nx l st.clr its st') (hc : confAll its 0 its = true) (hq : Q .normal (st'.fin (st.nx + its.length))) : EvC P fr ro ds (.region id l.toArray true) st Q :=
 .clrQ (.draw hm ht hc hq)
theorem EvC.drd (hm : P.follows .mixedOrders = true) (h : trun P fr l l st.nx st.clr = .done ok its st') (hok : ok = true) (hc : confAll its 0 its = true) (hq : Q .normal (st'.fin (st.nx + its.length))) : EvC P fr ro ds (.region id l.toArray true) st Q :=
 .drw hm (.done h hok) hc hq
end
theorem inI64_of {x : Int} (h1 : -9223372036854775808 ≤ x) (h2 : x ≤ 9223372036854775807) : inI64 x = true := by
 rw [inI64_eq]; simp only [Bool.and_eq_true, decide_eq_true_eq]; exact ⟨h1, h2⟩
theorem imp_and1 (x y : Bool) : (!(x && y) || x) = true := by cases x <;> cases y <;> rfl
theorem imp_and2 (x y z : Bool) : (!(x && y && z) || x) = true := by cases x <;> cases y <;> cases z <;> rfl
theorem imp_and3 (x y z u : Bool) : (!(x && y && z && u) || x) = true := by cases x <;> cases y <;> cases z <;> cases u <;> rfl
theorem imp_and4 (x y z u v : Bool) : (!(x && y && z && u && v) || x) = true := by cases x <;> cases y <;> cases z <;> cases u <;> cases v <;> rfl
attribute [go_sem] St.fin gb imp_and1 imp_and2 imp_and3 imp_and4 Bool.not_not Bool.or_not_self Bool.not_or_self trun TRes.cons efRc efRcG rdOf memless adrOp AV.idsA opIdsA opSlots odds opIds AV.ids AV.idss run1 Rc.mem Op.operands Call.operands wl depsOf confOne confAll
 Array.toList_append Array.append_assoc List.append_toArray List.getElem?_toArray Option.getD_none Option.getD_some Int.toNat_natCast List.take_length Int.le_refl Nat.le_refl Int.natCast_nonneg List.length_map List.getElem?_map Int.natCast_zero Int.natCast_add
end Go.Avl
namespace Go.Avl
open Go
def toIa (i : Nat) (cs : List AV) : AV → AV
 | .rf j off => if j = i then .ia (cs.drop off) else .rf j off
 | v => v
def St.frzB (i : Nat) (st : St) : Option St :=
 match mlook st.mem i with
 | some (.cells cs) => if AV.norefs cs = true then some ((⟨st.vars, st.tmps, mdel st.mem i, st.nx⟩ : St).map (AV.deep (toIa i cs))) else none
 | _ => none
section
variable {P : Program} {fr : Fr} {ro : Option Nat} {ds : DS} {st st' : St} {Q Q' : Exit → St → Prop} {G G' : Nat → Option Value} {F F' : Nat → Nat → Prop} {a : Act} {w w' : World} {x y c : Code}
 {M : Mem} {ops : Array Oper} {l rest : List Oper} {o : Oper}
theorem simM_frzB {nx i : Nat} {cs : List AV} (hm : SimM P G F M nx w) (ho : mlook M i = some (.cells cs)) :
  ∃ b, G i = some (.pointer (some ⟨b, 0, none⟩)) ∧ SimM P G (frzF F b cs.length) (mdel M i) nx w ∧ Step All G F M w G (frzF F b cs.length) (mdel M i) w := by
 obtain ⟨b, cc, e, h1, h2, h3, h4, h5⟩ := (hm.obj i _ ho).2
 have S : Step All G F M w G (frzF F b cs.length) (mdel M i) w :=
  { kept := .refl
    size := Nat.le_refl _
    out := fun _ _ _ => rfl
    F1 := fun _ _ h => .inl h
    F2 := fun _ _ _ => rfl
    F3 := fun b' o h => by
     rcases h with h | ⟨rfl, _⟩
     ·exact .inl h
     ·exact .inr (.inr ⟨i, _, _, ho, h1, rfl⟩)
    own := fun b ⟨id, o, v, h3, h4, h5⟩ => by
     rw [mlook_mdel] at h3
     by_cases hi : id = i
     ·rw [if_pos hi] at h3; cases h3
     ·rw [if_neg hi] at h3; exact .inr ⟨id, o, v, h3, h4, h5⟩
    some' := fun _ _ h => h
    same := fun _ _ _ h _ => h
    keep := fun id o' _ hG h3 => by
     obtain ⟨v, hv⟩ := Option.ne_none_iff_exists'.1 hG
     rw [mlook_mdel] at h3
     by_cases hi : id = i
     ·rw [if_pos hi] at h3; cases h3
     ·rw [if_neg hi] at h3
      exact ⟨o', v, v, h3, hv, hv, objKeep.refl v o'⟩ }
 have ne : ∀ {id}, mlook (mdel M i) id ≠ none → id ≠ i ∧ mlook M id ≠ none := fun {id} h => by
  rw [mlook_mdel] at h
  by_cases hi : id = i
  ·rw [if_pos hi] at h; exact absurd rfl h
  ·rw [if_neg hi] at h; exact ⟨hi, h⟩
 refine ⟨b, h1, simM_gen hm S (fun id o' h => ?_) (fun id id' v v' b' k1 k2 => hm.inj id id' v v' b' (ne k1).2 (ne k2).2) (fun b' o h => ?_), S⟩
 ·have hne := ne (id := id) (by rw [h]; simp)
  have h' : mlook M id = some o' := by
   rw [mlook_mdel, if_neg hne.1] at h; exact h
  refine ⟨(hm.obj id _ h').1, .inr ⟨h', rfl, fun b' v hG hb => ⟨rfl, fun o hF => ?_⟩⟩⟩
  rcases hF with hF | ⟨rfl, _⟩
  ·exact hF
  ·exact absurd (hm.inj id i _ _ _ (by rw [h']; simp) (by rw [ho]; simp) hG h1 hb rfl) hne.1
 ·rcases h with h | ⟨rfl, _⟩
  ·exact hm.inF _ _ h
  ·exact (Array.getElem?_eq_some_iff.1 h2).1
theorem SimA.frzB {i : Nat} {st' : St} (s : SimA P fr ds G F st a w) (h : st.frzB i = some st') : ∃ F', SimA P fr ds G F' st' a w ∧ Step (· < fr.base) G F st.mem w G F' st'.mem w := by
 unfold St.frzB at h
 split at h
 ·rename_i cs ho
  split at h
  ·rename_i hn
   cases h
   obtain ⟨b, hG, hm', S'⟩ := simM_frzB s.sim.mem ho
   refine ⟨_, ?_, S'.mono fun _ _ => trivial⟩
   have s1 : SimA P fr ds G (frzF F b cs.length) ⟨st.vars, st.tmps, mdel st.mem i, st.nx⟩ a w := ⟨⟨hm', fun k => (s.sim.slots k).step S' (fun _ _ => trivial), s.sim.size⟩, s.fresh, s.defers⟩
   obtain ⟨b', cc, e, h1, h2, h3, h4, h5⟩ := (s.sim.mem.obj i _ ho).2
   rw [hG] at h1; cases h1
   refine s1.map rfl fun v y h => h.deep fun v y h => ?_
   unfold toIa
   split
   ·rename_i j off
    split
    ·rename_i hj
     subst hj
     obtain ⟨b', hG', rfl⟩ := h.inv_rf
     rw [hG] at hG'; cases hG'
     refine .imm (.ia b off (cs.drop off) (fun j => (cc[off + j]?).getD undef) (fun k hk => ⟨.inr ⟨rfl, by simp at hk; omega⟩, ?_⟩) (fun k hk => ?_))
     ·rw [cell?_block h2]
      simp only [List.length_drop] at hk
      rw [Array.getElem?_eq_getElem (by omega)]; rfl
     ·simp only [List.length_drop] at hk
      rw [List.getElem_drop, Array.getElem?_eq_getElem (by omega)]
      exact ((h4 (off + k) (by omega) (by omega)).step S' (fun _ _ => trivial)).imm_of (norefs_get cs hn _ _)
    ·exact h
   ·exact h
  ·cases h
 ·cases h
theorem EvC.frzB (i : Nat) {st' : St} (h : st.frzB i = some st') (hc : EvC P fr ro ds c st' Q) : EvC P fr ro ds c st Q :=
 EvC.conv (fun _ _ _ _ s => let ⟨F', s', S'⟩ := s.frzB h; ⟨_, F', s', S'⟩) hc
theorem OpIs.skipv {id j k : Nat} {want : Bool} (v : AV) (hg : o.guard = some (j, want)) (hj : gslot ops j = some k) (hk : gval want (st.get fr k) = some false) (hd : dok fr o.dst = true) : OpIs P fr ro ds ops id st ⟨o, ⟨.opt false v, none⟩, [2 * k]⟩ := by
 intro st' G F a w N K Q1 s hN hG hl h
 have hw := wantedD s hg hj (by rw [look_slot (hl _ List.mem_cons_self)]; exact hk)
 rw [hw]
 simp only [Bool.false_eq_true, if_false]
 exact ⟨fun _ _ => trivial, s.skip hd (.imm (.opt false _ _ (fun h => by cases h) (fun _ => rfl))) h⟩
end
attribute [go_sem] St.frzB toIa
end Go.Avl
namespace Go.Avl
open Go
theorem cell?_put {w : World} {l : Nat} {ob : Obj} {b o : Nat} (h : b ≠ l) : (w.putObj l ob).cell? ⟨b, o, none⟩ = w.cell? ⟨b, o, none⟩ := cell?_same (World.putObj_heap_other h) o
theorem unfroz_nd {o : Obj} (h : isData o = false) : unfroz o = true := by cases o <;> simp_all [isData, unfroz]
theorem Step.putAbove {G : Nat → Option Value} {F : Nat → Nat → Prop} {M : Mem} {w : World} {B : Nat → Prop} {G0 : Nat → Option Value} {F0 : Nat → Nat → Prop} {M0 : Mem} {w0 : World} {l : Nat} {o1 : Obj} (S : Step B G0 F0 M0 w0 G F M w) (hl : w0.heap.size ≤ l) (h : w.heap[l]? = some o1) (h1 : isData o1 = false) {o2 : Obj} (h2 : isData o2 = false) : Step B G0 F0 M0 w0 G F M (w.putObj l o2) :=
 { kept := S.kept.trans (.set h (unfroz_nd h1) (unfroz_nd h2) (fun _ _ h => by subst h; cases h1))
   size := by rw [World.putObj_size]; exact S.size
   out := fun b hb ho => by rw [World.putObj_heap_other (by omega)]; exact S.out b hb ho
   F1 := S.F1
   F2 := fun b o hF => by
    by_cases e : b = l
    ·subst e
     have k := S.F2 b o hF
     rw [← k]
     simp only [World.cell?, h, World.putObj_heap_same (Array.getElem?_eq_some_iff.1 h).1]
     cases o1 <;> cases o2 <;> simp_all [isData]
    ·rw [cell?_put e]; exact S.F2 b o hF
   F3 := S.F3, own := S.own, some' := S.some', same := S.same, keep := S.keep }
end Go.Avl
namespace Go.Avl
open Go
section
variable {P : Program} {fr : Fr} {ds : DS} {st : St} {G : Nat → Option Value} {F : Nat → Nat → Prop} {M : Mem} {w w' : World}
theorem SimA.keepData {a : Act} (s : SimA P fr ds G F st a w) (hk : ∀ (b : Nat) (o : Obj), w.heap[b]? = some o → isData o = true → w'.heap[b]? = some o) (hs : w.heap.size ≤ w'.heap.size) (hm : Marks ds a.defers w') : SimA P fr ds G F st a w' :=
 ⟨⟨s.sim.mem.keepData hk hs, fun k => (s.sim.slots k).keepData hk, s.sim.size⟩, s.fresh, hm⟩
theorem keep_put {l : Nat} {o1 : Obj} (h : w.heap[l]? = some o1) (h1 : isData o1 = false) (o2 : Obj) : ∀ (b : Nat) (o : Obj), w.heap[b]? = some o → isData o = true → (w.putObj l o2).heap[b]? = some o := fun b o hb ho => by
 rw [World.putObj_heap_other (by rintro rfl; rw [h] at hb; cases hb; rw [h1] at ho; cases ho)]; exact hb
theorem Step.allocs {B : Nat → Prop} {G0 : Nat → Option Value} {F0 : Nat → Nat → Prop} {M0 : Mem} {w0 : World} (S : Step B G0 F0 M0 w0 G F M w) (hs : w.heap.size ≤ w'.heap.size) (hk : ∀ b, b < w.heap.size → w'.heap[b]? = w.heap[b]?) (hF : ∀ b o, F b o → b < w.heap.size) (hkp : Kept w w') : Step B G0 F0 M0 w0 G F M w' :=
 { kept := S.kept.trans hkp
   size := Nat.le_trans S.size hs
   out := fun b hb ho => (hk b (Nat.lt_of_lt_of_le hb S.size)).trans (S.out b hb ho)
   F1 := S.F1
   F2 := fun b o h => (cell?_same (hk b (hF b o (S.F1 b o h))) o).trans (S.F2 b o h)
   F3 := S.F3, own := S.own, some' := S.some', same := S.same, keep := S.keep }
end
end Go.Avl
namespace Go.Avl
open Go
def RObj.snapC (f : AV → AV) : RObj → RObj
 | .cells cs => .cells (cs.map f)
 | o => o
def memMap (f : AV → AV) : List (Nat × RObj) → List (Nat × RObj)
 | [] => []
 | (i, o) :: r => (i, o.snapC f) :: memMap f r
def St.frzD (i : Nat) (st : St) : Option St :=
 match st.frz i with
 | some st' => match mlook st.mem i with
   | some (.arr esz es _) => some ⟨st'.vars, st'.tmps, memMap (AV.deep (snap [(i, .arr esz es true)])) st'.mem, st'.nx⟩
   | _ => none
 | none => none
section
variable {P : Program} {fr : Fr} {ro : Option Nat} {ds : DS} {st st' : St} {G G' : Nat → Option Value} {F F' : Nat → Nat → Prop} {a : Act} {w w' : World} {x y c : Code}
 {M : Mem} {Q : Exit → St → Prop} {f : AV → AV}
theorem mlook_memMap : ∀ (M : Mem) (i : Nat), mlook (memMap f M) i = (mlook M i).map (RObj.snapC f)
 | [], _ => rfl
 | (j, o) :: r, i => by
   simp only [memMap, mlook]
   split
   ·rfl
   ·exact mlook_memMap r i
theorem memMap_arr {i esz : Nat} {es : List (List AV)} {fz : Bool} (h : mlook (memMap f M) i = some (.arr esz es fz)) : mlook M i = some (.arr esz es fz) := by
 rw [mlook_memMap] at h
 cases ho : mlook M i with
 | none => rw [ho] at h; cases h
 | some o => rw [ho] at h; cases o <;> simp [RObj.snapC] at h ⊢; exact h
theorem RV.memMap {v : Value} {x : AV} (h : RV G F M w v x) : RV G F (memMap f M) w v x := by
 induction h with
 | imm h => exact .imm h
 | ag vs cs hl _ ih => exact .ag vs cs hl ih
 | tu vs cs hl _ ih => exact .tu vs cs hl ih
 | ifc t v x _ ih => exact .ifc t v x ih
 | fn f vs cs hl _ ih => exact .fn f vs cs hl ih
 | opt b v x _ h' ih => exact .opt b v x ih h'
 | rf id off b h => exact .rf id off b h
 | tl id len nl v hG h => exact .tl id len nl v hG fun esz es fz ho => h esz es fz (memMap_arr ho)
 | tv id n off len cap v hG h => exact .tv id n off len cap v hG fun esz es fz ho => h esz es fz (memMap_arr ho)
 | ea id n i off v hG h => exact .ea id n i off v hG fun esz es fz ho => h esz es fz (memMap_arr ho)
 | mp id b h => exact .mp id b h
theorem SimA.memMap (hf : ∀ v y, RV G F st.mem w v y → RV G F st.mem w v (f y)) (s : SimA P fr ds G F st a w) :
  SimA P fr ds G F ⟨st.vars, st.tmps, Avl.memMap f st.mem, st.nx⟩ a w ∧ Step (· < fr.base) G F st.mem w G F (Avl.memMap f st.mem) w := by
 have hsome : ∀ i, mlook (Avl.memMap f st.mem) i ≠ none → mlook st.mem i ≠ none := fun i h he => by rw [mlook_memMap, he] at h; exact h rfl
 refine ⟨⟨⟨⟨fun id o ho => ?_, fun id id' v v' b h1 h2 => s.sim.mem.inj id id' v v' b (hsome _ h1) (hsome _ h2), s.sim.mem.inF, s.sim.mem.gl⟩, fun k => (s.sim.slots k).memMap, s.sim.size⟩, s.fresh, s.defers⟩, ?_⟩
 ·rw [mlook_memMap] at ho
  obtain ⟨o', ho', rfl⟩ := Option.map_eq_some_iff.1 ho
  obtain ⟨h1, h2⟩ := s.sim.mem.obj id o' ho'
  refine ⟨h1, ?_⟩
  cases o' with
  | cells cs =>
    obtain ⟨b, c, e, k1, k2, k3, k4, k5⟩ := h2
    exact ⟨b, c, e, k1, k2, by rw [List.length_map]; exact k3, fun i a b => by rw [List.getElem_map]; exact (hf _ _ (k4 i a (by simpa using b))).memMap, k5⟩
  | arr esz es fz =>
    rcases h2 with h | ⟨b, c, cc, e, k1, k2, k3, k4, k5, k6, k7, k8⟩
    ·exact .inl h
    ·exact .inr ⟨b, c, cc, e, k1, k2, k3, k4, k5, k6, fun i j a b => let ⟨v, x, y, z⟩ := k7 i j a b; ⟨v, x, y, z.memMap⟩, k8⟩
  | map kt es => obtain ⟨b, ents, clock, k1, k2, k3, k4, k5⟩ := h2; exact ⟨b, ents, clock, k1, k2, k3, fun i a b => let ⟨x, y, z⟩ := k4 i a b; ⟨x, y.memMap, z⟩, k5⟩
 ·exact
  { kept := .refl
    size := Nat.le_refl _
    out := fun _ _ _ => rfl
    F1 := fun _ _ h => h
    F2 := fun _ _ _ => rfl
    F3 := fun _ _ h => .inl h
    own := fun b ⟨id, o, v, h1, h2, h3⟩ => by
     rw [mlook_memMap] at h1
     obtain ⟨o', ho', rfl⟩ := Option.map_eq_some_iff.1 h1
     exact .inr ⟨id, o', v, ho', h2, h3⟩
    some' := fun _ _ h => h
    same := fun _ _ _ h _ => h
    keep := fun id o _ hG h1 => by
     rw [mlook_memMap] at h1
     obtain ⟨o', ho', rfl⟩ := Option.map_eq_some_iff.1 h1
     obtain ⟨v, hv⟩ := Option.ne_none_iff_exists'.1 hG
     refine ⟨o', v, v, ho', hv, hv, ?_⟩
     cases o' with
     | cells cs => exact rfl
     | arr esz es fz => exact objKeep.refl _ _
     | map kt es => exact objKeep.refl _ _ }
theorem snap_one {i esz : Nat} {es : List (List AV)} {fz : Bool} (ho : mlook M i = some (.arr esz es true)) (hm : ∀ v y, RV G F M w v y → RV G F M w v (snap M y)) {v : Value} {y : AV} (h : RV G F M w v y) : RV G F M w v (snap [(i, .arr esz es true)] y) := by
 cases y with
 | tl j n b =>
   by_cases hj : j = i
   ·subst hj
    have := hm _ _ h
    simp only [snap, ho] at this
    simp only [snap, mlook, if_true]
    exact this
   ·simp only [snap, mlook, if_neg hj]; exact h
 | tv j n off len cap =>
   by_cases hj : j = i
   ·subst hj
    have := hm _ _ h
    simp only [snap, ho] at this
    simp only [snap, mlook, if_true]
    exact this
   ·simp only [snap, mlook, if_neg hj]; exact h
 | _ => exact h
theorem SimA.frzD {i : Nat} {st' : St} (s : SimA P fr ds G F st a w) (h : st.frzD i = some st') : ∃ F', SimA P fr ds G F' st' a w ∧ Step (· < fr.base) G F st.mem w G F' st'.mem w := by
 unfold St.frzD at h
 split at h
 ·rename_i st1 h1
  obtain ⟨F', s1, S1⟩ := s.frz h1
  split at h
  ·rename_i esz es fz ho
   cases h
   have hm1 : mlook st1.mem i = some (.arr esz es true) := by
    unfold St.frz at h1
    rw [ho] at h1
    simp only at h1
    split at h1
    ·cases h1; simp only [St.map, mlook_mset, if_true]
    ·cases h1
   obtain ⟨s2, S2⟩ := s1.memMap (f := AV.deep (snap [(i, .arr esz es true)])) fun v y h => h.deep fun v y h => snap_one (fz := true) hm1 (fun v y h => h.snap s1.sim.mem) h
   exact ⟨F', s2, S1.trans S2⟩
  ·cases h
 ·cases h
theorem EvC.frzD (i : Nat) {st' : St} (h : st.frzD i = some st') (hc : EvC P fr ro ds c st' Q) : EvC P fr ro ds c st Q :=
 EvC.conv (fun _ _ _ _ s => let ⟨F', s', S'⟩ := s.frzD h; ⟨_, F', s', S'⟩) hc
end
attribute [go_sem] St.frzD memMap RObj.snapC
end Go.Avl
namespace Go.Avl
open Go
def St.ownV (fr : Fr) (k esz : Nat) (st : St) : Option St :=
 match st.get fr k with
 | .sl nl [] .zer => some ((⟨st.vars, st.tmps, (st.nx, .arr esz [] true) :: st.mem, st.nx + 1⟩ : St).put fr (some k) (.tl st.nx 0 nl))
 | _ => none
def St.ownC (i j esz : Nat) (st : St) : Option St :=
 match mlook st.mem i with
 | some (.cells cs) => match cs[j]? with
   | some (.sl nl [] .zer) => some ⟨st.vars, st.tmps, mset ((st.nx, .arr esz [] true) :: st.mem) i (.cells (cs.set j (.tl st.nx 0 nl))), st.nx + 1⟩
   | _ => none
 | _ => none
section
variable {P : Program} {fr : Fr} {ro : Option Nat} {ds : DS} {st st' : St} {G G' : Nat → Option Value} {F F' : Nat → Nat → Prop} {a : Act} {w w' : World} {x y c : Code}
 {M : Mem} {Q : Exit → St → Prop} {f : AV → AV}
theorem Imm.zer_inv {v : Value} {nl : Bool} (h : Imm F w v (.sl nl [] .zer)) : ∃ va, v = .slice va 0 0 ∧ nl = isNilSlice v ∧ ∀ a, va = some a → a = a := by
 cases h with
 | nil _ _ => exact ⟨none, rfl, rfl, fun a h => by cases h⟩
 | sz a _ _ => exact ⟨some a, rfl, rfl, fun _ _ => rfl⟩
 | sl b off c esz _ _ vs hc hcap hes hF hi =>
   rcases hcap with h | ⟨_, h⟩ | ⟨h, _⟩ | h
   ·cases h
   ·subst h; exact ⟨some ⟨b, off, none⟩, rfl, rfl, fun a h => by cases h; rfl⟩
   ·cases h
   ·cases h
theorem simM_own {nx esz : Nat} {va : Option Addr} (hm : SimM P G F M nx w) (hf : ∀ j, nx ≤ j → G j = none) (hv : ∀ a, va = some a → a = a) :
  SimM P (upG G nx (.slice va 0 0)) F ((nx, .arr esz [] true) :: M) (nx + 1) w ∧ Step All G F M w (upG G nx (.slice va 0 0)) F ((nx, .arr esz [] true) :: M) w := by
 have hid := hf nx (Nat.le_refl _)
 have hne : ∀ j, G j ≠ none → j ≠ nx := fun j hj e => hj (e ▸ hid)
 have hno : mlook M nx = none := hm.noM hid
 have hbl : blkOf (.slice va 0 0) = none := by cases va <;> simp [blkOf]
 have S : Step All G F M w (upG G nx (.slice va 0 0)) F ((nx, .arr esz [] true) :: M) w :=
  { kept := .refl, size := Nat.le_refl _
    out := fun _ _ _ => rfl
    F1 := fun _ _ h => h
    F2 := fun _ _ _ => rfl
    F3 := fun _ _ h => .inl h
    own := fun b ⟨j, o', v, ho, hv, hbv⟩ => by
     by_cases e : j = nx
     ·subst e
      rw [upG_self] at hv; cases hv
      rw [hbl] at hbv; cases hbv
     ·rw [mlook_cons, if_neg e] at ho
      rw [upG_other G _ e] at hv
      exact .inr ⟨j, o', v, ho, hv, hbv⟩
    some' := fun j _ hj => by rw [upG_other G _ (hne j hj)]; exact hj
    same := fun j v _ hj _ => by rw [upG_other G _ (hne j (by simp [hj]))]; exact hj
    keep := fun j o' _ hj ho => by
     have e := hne j hj
     rw [mlook_cons, if_neg e] at ho
     obtain ⟨v, hv⟩ := Option.ne_none_iff_exists'.1 hj
     exact ⟨o', v, v, ho, hv, by rw [upG_other G _ e]; exact hv, objKeep.refl v o'⟩ }
 refine ⟨simM_gen hm S (fun id o' ho => ?_) (fun id id' v v' b h1 h2 h3 h4 h5 h6 => ?_) hm.inF, S⟩
 ·by_cases e : id = nx
  ·subst e
   rw [mlook_cons, if_pos rfl] at ho; cases ho
   exact ⟨Nat.lt_succ_self _, .inl (.inl ⟨rfl, va, upG_self _ _ _, hv⟩)⟩
  ·rw [mlook_cons, if_neg e] at ho
   exact ⟨Nat.lt_succ_of_lt (hm.obj id o' ho).1, .inr ⟨ho, upG_other G _ e, fun b v _ _ => ⟨rfl, fun _ h => h⟩⟩⟩
 ·have nn : ∀ {j v b}, upG G nx (.slice va 0 0) j = some v → blkOf v = some b → j ≠ nx := fun {j v b} hg hb e => by
    subst e; rw [upG_self] at hg; cases hg; rw [hbl] at hb; cases hb
  have e1 := nn h3 h5
  have e2 := nn h4 h6
  rw [mlook_cons, if_neg e1] at h1
  rw [mlook_cons, if_neg e2] at h2
  rw [upG_other G _ e1] at h3
  rw [upG_other G _ e2] at h4
  exact hm.inj id id' v v' b h1 h2 h3 h4 h5 h6
theorem SimA.ownV {k esz : Nat} (s : SimA P fr ds G F st a w) (h : st.ownV fr k esz = some st') : ∃ G', SimA P fr ds G' F st' a w ∧ Step (· < fr.base) G F st.mem w G' F st'.mem w := by
 unfold St.ownV at h
 split at h
 ·rename_i nl hk
  cases h
  have hv := s.sim.slots k
  rw [hk] at hv
  obtain ⟨va, e, hnl, hsp⟩ := hv.inv_sl.zer_inv
  obtain ⟨hm', S'⟩ := simM_own (esz := esz) s.sim.mem s.fresh hsp
  refine ⟨_, ⟨⟨by rw [St.put_mem, St.put_nx]; exact hm', fun j => ?_, s.sim.size⟩, fun j hj => ?_, s.defers⟩, by rw [St.put_mem]; exact S'.mono fun _ _ => trivial⟩
  ·rw [St.put_mem, St.get_put]
   split
   ·rename_i hj; subst hj
    rw [e]
    exact .tl st.nx 0 nl _ (by rw [upG_self]; simp) fun esz' es fz ho => by
     rw [mlook_cons, if_pos rfl] at ho; cases ho
     exact ⟨Nat.le_refl _, fun _ => ⟨upG_self _ _ _, by rw [hnl, e]⟩⟩
   ·exact (s.sim.slots j).step S' fun _ _ => trivial
  ·rw [St.put_nx] at hj
   have hj : st.nx + 1 ≤ j := hj
   rw [upG_other G _ (by omega)]; exact s.fresh j (by omega)
 ·cases h
theorem EvC.ownV (k esz : Nat) {st' : St} (h : st.ownV fr k esz = some st') (hc : EvC P fr ro ds c st' Q) : EvC P fr ro ds c st Q :=
 EvC.conv (fun _ F _ _ s => let ⟨G', s', S'⟩ := s.ownV h; ⟨G', F, s', S'⟩) hc
theorem SimA.ownC {i j esz : Nat} (s : SimA P fr ds G F st a w) (h : st.ownC i j esz = some st') : ∃ G', SimA P fr ds G' F st' a w ∧ Step (· < fr.base) G F st.mem w G' F st'.mem w := by
 unfold St.ownC at h
 split at h
 ·rename_i cs ho
  split at h
  ·rename_i nl hj
   cases h
   obtain ⟨hin, b, cc, el, k1, k2, k3, k4, k5⟩ := s.sim.mem.obj i _ ho
   obtain ⟨hjl, hjv⟩ := List.getElem?_eq_some_iff.1 hj
   have hv := k4 j (by omega) hjl
   rw [hjv] at hv
   obtain ⟨va, e, hnl, hsp⟩ := hv.inv_sl.zer_inv
   obtain ⟨hm', S'⟩ := simM_own (esz := esz) s.sim.mem s.fresh hsp
   have hne : i ≠ st.nx := Nat.ne_of_lt hin
   obtain ⟨M1, hM1⟩ : ∃ M1, M1 = ((st.nx, RObj.arr esz [] true) :: st.mem) := ⟨_, rfl⟩
   obtain ⟨G1, hG1⟩ : ∃ G1, G1 = upG G st.nx (.slice va 0 0) := ⟨_, rfl⟩
   rw [← hM1, ← hG1] at hm' S'
   have ho1 : mlook M1 i = some (.cells cs) := by rw [hM1, mlook_cons, if_neg hne]; exact ho
   have hgi : G1 i = some (.pointer (some ⟨b, 0, none⟩)) := by rw [hG1, upG_other G _ hne]; exact k1
   have harr : ∀ {id esz' es fz}, mlook (mset M1 i (.cells (cs.set j (.tl st.nx 0 nl)))) id = some (.arr esz' es fz) → mlook M1 id = some (.arr esz' es fz) := fun {id esz' es fz} h => by
    rw [mlook_mset] at h
    split at h
    ·cases h
    ·exact h
   have hrv : ∀ {v : Value} {x : AV}, RV G1 F M1 w v x → RV G1 F (mset M1 i (.cells (cs.set j (.tl st.nx 0 nl)))) w v x := fun h => by
    induction h with
    | imm h => exact .imm h
    | ag vs cs hl _ ih => exact .ag vs cs hl ih
    | tu vs cs hl _ ih => exact .tu vs cs hl ih
    | ifc t v x _ ih => exact .ifc t v x ih
    | fn f vs cs hl _ ih => exact .fn f vs cs hl ih
    | opt b v x _ h' ih => exact .opt b v x ih h'
    | rf id off b h => exact .rf id off b h
    | tl id len nl v hG h => exact .tl id len nl v hG fun esz es fz ho => h esz es fz (harr ho)
    | tv id n off len cap v hG h => exact .tv id n off len cap v hG fun esz es fz ho => h esz es fz (harr ho)
    | ea id n i off v hG h => exact .ea id n i off v hG fun esz es fz ho => h esz es fz (harr ho)
    | mp id b h => exact .mp id b h
   have hsome : ∀ id, mlook (mset M1 i (.cells (cs.set j (.tl st.nx 0 nl)))) id ≠ none → mlook M1 id ≠ none := fun id h he => by
    rw [mlook_mset] at h
    split at h
    ·rename_i e; subst e; rw [ho1] at he; cases he
    ·exact h he
   have hobj : ∀ {id o}, ObjOk P G1 F M1 w id o → ObjOk P G1 F (mset M1 i (.cells (cs.set j (.tl st.nx 0 nl)))) w id o := fun {id o} h => by
    cases o with
    | cells cs => obtain ⟨b, c, e, k1, k2, k3, k4, k5⟩ := h; exact ⟨b, c, e, k1, k2, k3, fun i a b => hrv (k4 i a b), k5⟩
    | arr esz es fz =>
      rcases h with h | ⟨b, c, cc, e, k1, k2, k3, k4, k5, k6, k7, k8⟩
      ·exact .inl h
      ·exact .inr ⟨b, c, cc, e, k1, k2, k3, k4, k5, k6, fun i j a b => let ⟨v, x, y, z⟩ := k7 i j a b; ⟨v, x, y, hrv z⟩, k8⟩
    | map kt es => obtain ⟨b, ents, clock, k1, k2, k3, k4, k5⟩ := h; exact ⟨b, ents, clock, k1, k2, k3, fun i a b => let ⟨x, y, z⟩ := k4 i a b; ⟨x, hrv y, z⟩, k5⟩
   have S2 : Step All G1 F M1 w G1 F (mset M1 i (.cells (cs.set j (.tl st.nx 0 nl)))) w :=
    { kept := .refl, size := Nat.le_refl _
      out := fun _ _ _ => rfl
      F1 := fun _ _ h => h
      F2 := fun _ _ _ => rfl
      F3 := fun _ _ h => .inl h
      own := fun b ⟨id, o, v, h1, h2, h3⟩ => .inr (by
       obtain ⟨o', ho'⟩ := Option.ne_none_iff_exists'.1 (hsome id (by rw [h1]; simp))
       exact ⟨id, o', v, ho', h2, h3⟩)
      some' := fun _ _ h => h
      same := fun _ _ _ h _ => h
      keep := fun id o _ hG h1 => by
       obtain ⟨v, hvG⟩ := Option.ne_none_iff_exists'.1 hG
       rw [mlook_mset] at h1
       by_cases e : id = i
       ·rw [if_pos e] at h1
        cases h1
        subst e
        exact ⟨_, v, v, ho1, hvG, hvG, rfl⟩
       ·rw [if_neg e] at h1
        exact ⟨o, v, v, h1, hvG, hvG, objKeep.refl v o⟩ }
   rw [← hM1]
   refine ⟨G1, ⟨⟨⟨fun id o h => ?_, fun id id' v v' b h1 h2 => hm'.inj id id' v v' b (hsome _ h1) (hsome _ h2), hm'.inF, hm'.gl⟩, fun k => hrv ((s.sim.slots k).step S' fun _ _ => trivial), s.sim.size⟩, fun k hk => ?_, s.defers⟩, (S'.trans S2).mono fun _ _ => trivial⟩
   ·rw [mlook_mset] at h
    by_cases e : id = i
    ·rw [if_pos e] at h
     cases h
     subst e
     refine ⟨Nat.lt_succ_of_lt hin, b, cc, el, hgi, k2, by rw [List.length_set]; exact k3, fun q q1 q2 => ?_, k5⟩
     by_cases hq : q = j
     ·subst hq
      rw [List.getElem_set_self, e]
      refine .tl st.nx 0 nl _ (by rw [hG1, upG_self]; simp) fun esz' es fz hx => ?_
      rw [mlook_mset, if_neg (Ne.symm hne), hM1, mlook_cons, if_pos rfl] at hx; cases hx
      exact ⟨Nat.le_refl _, fun _ => ⟨by rw [hG1]; exact upG_self _ _ _, by rw [hnl, e]⟩⟩
     ·rw [List.getElem_set_ne (Ne.symm hq)]
      exact hrv ((k4 q q1 (by simpa using q2)).step S' fun _ _ => trivial)
    ·rw [if_neg e] at h
     exact ⟨(hm'.obj id o h).1, hobj (hm'.obj id o h).2⟩
   ·have hk : st.nx + 1 ≤ k := hk
    rw [hG1, upG_other G _ (by omega)]; exact s.fresh k (by omega)
  ·cases h
 ·cases h
theorem EvC.ownC (i j esz : Nat) {st' : St} (h : st.ownC i j esz = some st') (hc : EvC P fr ro ds c st' Q) : EvC P fr ro ds c st Q :=
 EvC.conv (fun _ F _ _ s => let ⟨G', s', S'⟩ := s.ownC h; ⟨G', F, s', S'⟩) hc
mutual
def AV.unk : AV → AV
 | .sl nl es _ => .sl nl (AV.unkss es) .unk
 | .ag cs => .ag (AV.unks cs)
 | .tu cs => .tu (AV.unks cs)
 | .ia cs => .ia (AV.unks cs)
 | .ifc t v => .ifc t v.unk
 | .fn f cs => .fn f (AV.unks cs)
 | v => v
def AV.unks : List AV → List AV
 | [] => []
 | c :: cs => c.unk :: AV.unks cs
def AV.unkss : List (List AV) → List (List AV)
 | [] => []
 | c :: cs => AV.unks c :: AV.unkss cs
end
theorem unks_eq : ∀ cs : List AV, AV.unks cs = cs.map AV.unk
 | [] => rfl
 | c :: cs => by simp only [AV.unks, List.map_cons, unks_eq cs]
theorem unkss_eq : ∀ cs : List (List AV), AV.unkss cs = cs.map AV.unks
 | [] => rfl
 | c :: cs => by simp only [AV.unkss, List.map_cons, unkss_eq cs]
theorem unks_len (c : List AV) : (AV.unks c).length = c.length := by rw [unks_eq]; simp
theorem unkss_map {α : Type} (f : α → List AV) (h : ∀ x, AV.unks (f x) = f x) (l : List α) : AV.unkss (l.map f) = l.map f := by
 rw [unkss_eq, List.map_map]
 exact List.map_congr_left fun x _ => h x
theorem Imm.unk {v : Value} {x : AV} (h : Imm F w v x) : Imm F w v x.unk := by
 induction h with
 | sc v => exact .sc v
 | ag vs cs hl _ ih => exact .ag vs _ (by rw [unks_eq]; simpa using hl) fun i a b => by simp only [unks_eq, List.getElem_map]; exact ih i a _
 | tu vs cs hl _ ih => exact .tu vs _ (by rw [unks_eq]; simpa using hl) fun i a b => by simp only [unks_eq, List.getElem_map]; exact ih i a _
 | nil cap hc => exact .nil _ (.inl rfl)
 | sz a cap hc => exact .sz a _ (.inl rfl)
 | sl b off c esz es cap vs hc' hcap hes hF hi ih =>
   have hl : (AV.unkss es).length = es.length := by rw [unkss_eq]; simp
   have := Imm.sl (F := F) (w := w) b off c esz (AV.unkss es) .unk vs (by rw [hl]; exact hc') (.inl rfl) (fun i h => by simp only [unkss_eq, List.getElem_map, unks_len]; exact hes i _) (fun i j h1 h2 => hF i j (by rw [hl] at h1; exact h1) h2)
    (fun i j h1 h2 => by
     simp only [unkss_eq, List.getElem_map, unks_eq]
     exact ih i j (by rw [hl] at h1; exact h1) (by simpa only [unkss_eq, List.getElem_map, unks_len] using h2))
   rw [hl] at this
   exact this
 | ia b off cs vs hF hi ih => exact .ia b off _ vs (fun j h => hF j (by rw [unks_len] at h; exact h)) fun j h => by simp only [unks_eq, List.getElem_map]; exact ih j (by rw [unks_len] at h; exact h)
 | ifc t v x h ih => exact .ifc t v _ ih
 | fn f vs cs hl h ih => exact .fn f vs _ (by rw [unks_len]; exact hl) fun i a b => by simp only [unks_eq, List.getElem_map]; exact ih i a (by rw [unks_len] at b; exact b)
 | opt b v x h h' _ => exact .opt b v x h h'
 | junk v => exact .junk v
theorem PureIs.weak {f : FuncId} {args : List AV} {r : AV} (h : PureIs P f (args.map AV.unk) r) : PureIs P f args r :=
 ⟨h.1, fun F w vals hF hi => h.2 F w vals hF ⟨by simpa using hi.1, fun i a b => by rw [List.getElem_map]; exact (hi.2 i a (by simpa using b)).unk⟩⟩
theorem PureIs.weakR {f : FuncId} {args : List AV} {r : AV} (h : PureIs P f args r) : PureIs P f args r.unk :=
 ⟨h.1, fun F w vals hF hi => (h.2 F w vals hF hi).mono fun _ _ ⟨v, F', h1, h2, h3⟩ => ⟨v, F', h1, h2.unk, h3⟩⟩
end
attribute [go_sem] St.ownV St.ownC AV.unk AV.unks AV.unkss
end Go.Avl
namespace Go.Avl
open Go
def resOneR (P : Program) (fr : Fr) (st : St) : ResultVar → Option AV
 | .tmp t => some (st.get fr t)
 | .cell a t => resOne P fr st (.cell a t)
def resAllR (P : Program) (fr : Fr) (st : St) : List ResultVar → Option (List AV)
 | [] => some []
 | x :: xs => match resOneR P fr st x, resAllR P fr st xs with
   | some v, some vs => some (v :: vs)
   | _, _ => none
section
variable {P : Program} {fr : Fr} {ro : Option Nat} {ds : DS} {st st' : St} {Q Q' : Exit → St → Prop} {G G' : Nat → Option Value} {F F' : Nat → Nat → Prop} {a : Act} {w w' : World} {x y c : Code}
 {M : Mem} {ops : Array Oper} {l rest : List Oper} {o : Oper}
theorem Step.all {nx : Nat} {M' : Mem} (hf : ∀ j, nx ≤ j → G j = none) (S : Step (· < nx) G F M w G' F' M' w') : Step All G F M w G' F' M' w' :=
 have lt : ∀ id, G id ≠ none → id < nx := fun id h => Nat.lt_of_not_le fun hle => h (hf id hle)
 { size := S.size, out := S.out, F1 := S.F1, F2 := S.F2, F3 := S.F3, own := S.own, kept := S.kept
   some' := fun id _ h => S.some' id (lt id h) h
   same := fun id v _ h hn => S.same id v (lt id (by rw [h]; simp)) h hn
   keep := fun id o' _ h ho => S.keep id o' (lt id h) h ho }
theorem resAllR_ok (s : SimA P fr ds G F st a w) : ∀ {xs : List ResultVar} {rs : List AV}, resAllR P fr st xs = some rs →
  ∃ us : List Value, (xs.mapM (resVar a.tmps)).run P w = .ok us w ∧ us.length = rs.length ∧ ∀ i (h1 : i < us.length) (h2 : i < rs.length), RV G F st.mem w us[i] rs[i]
 | [], rs, h => by
   cases h
   exact ⟨[], by simp, rfl, fun _ h => absurd h (Nat.not_lt_zero _)⟩
 | x :: xs, rs, h => by
   simp only [resAllR] at h
   split at h
   ·rename_i v vs hv hvs
    cases h
    have h1 : ∃ u, (resVar a.tmps x).run P w = .ok u w ∧ RV G F st.mem w u v := by
     cases x with
     | cell p t => exact resOne_ok s hv
     | tmp t => cases hv; exact ⟨_, rfl, s.sim.slots t⟩
    obtain ⟨u, h1, h2⟩ := h1
    obtain ⟨us, h3, h4, h5⟩ := resAllR_ok s hvs
    refine ⟨u :: us, by simp [List.mapM_cons, h1, h3], by simp [h4], fun i hi hj => ?_⟩
    cases i with
    | zero => exact h2
    | succ i => exact h5 i (by simpa using hi) (by simpa using hj)
   ·cases h
theorem resultsR_ok (s : SimA P fr ds G F st a w) {fn : Func} {rs : List AV} (h : resAllR P fr st fn.results.toList = some rs) : ∃ u, (results fn a.tmps).run P w = .ok u w ∧ RV G F st.mem w u (mkRes rs) := by
 obtain ⟨us, h1, h2, h3⟩ := resAllR_ok s h
 refine ⟨if h : us.toArray.size = 1 then us.toArray[0] else .tuple us.toArray, ?_, ?_⟩
 ·rw [results_eq, Array.mapM_eq_mapM_toList]
  simp [h1]
 ·match us, rs, h2 with
  | [], [], _ => exact .tu [] [] rfl (fun _ h => absurd h (Nat.not_lt_zero _))
  | [u], [r], _ => exact h3 0 (by simp) (by simp)
  | u :: u' :: us, r :: r' :: rs, h2 =>
    simp only [List.size_toArray, List.length_cons, mkRes]
    rw [dif_neg (by omega)]
    exact .tu _ _ h2 h3
def bodyArgs (fr : Fr) (st : St) (args : Array Operand) : List AV := args.toList.map fun x => od fr st true x
theorem SimA.callB {f : FuncId} {fn : Func} {cs : List AV} {callee : Operand} {args : Array Operand} {tys : Array TypeId} {xs : List AV} {nv : Nat} {hid : List Nat} {R : AV → Mem → Nat → Prop} {K : Act → World → Prop} {Q1 : Exit → Act → World → Prop}
  (s : SimA P fr ds G F st a w) (hop : o.op = .call ⟨.value callee, args, tys⟩) (hd : ∀ k, o.dst = some k → k < fr.sz) (hcal : od fr st true callee = .fn f cs)
  (hxs : bodyArgs fr st args ++ cs = xs) (hf : P.funcs[f]? = some fn) (hb : fn.body = some c) (hnm : (fn.name == "runtime.NumGoroutine") = false) (hsz : xs.length ≤ fn.ntmps)
  (hbody : ∀ h0 : Nat, EvC P ⟨st.nx, nv, hid, fn.ntmps⟩ none ⟨h0, none, false⟩ c ⟨vars0 0 xs, [], st.mem, st.nx⟩ fun e st' => (e = .ret ∨ e = .normal) ∧ ∃ rs, resAllR P ⟨st.nx, nv, hid, fn.ntmps⟩ st' fn.results.toList = some rs ∧ R (mkRes rs) st'.mem st'.nx)
  (h : ∀ G' F' a' w' r M' nx', R r M' nx' → SimA P fr ds G' F' ((⟨st.vars, st.tmps, M', nx'⟩ : St).put fr o.dst r) a' w' → Step All G F st.mem w G' F' M' w' → K a' w') : o.wpIn (fc ro) 0 P a w K Q1 := by
 refine ⟨fun _ _ => trivial, ?_⟩
 rw [Oper.semAt_eq _ _ _ (by rw [hop]; intro c h; cases h)]
 have hv := (s.eval callee).unopt
 have hv : RV G F st.mem w (a.eval callee) (.fn f cs) := by unfold od at hcal; rwa [hcal] at hv
 obtain ⟨vs, hev, hl, hcs⟩ := hv.inv_fn
 have hca : callable P f := callable_of hf hnm (by rw [hb]; rfl)
 have hrun : (execOp a.eval o).run P w = .ok (.enter f ((args.toList.map a.eval ++ vs).toArray)) w := by
  obtain ⟨dst, op, ty, pos, after, guard⟩ := o
  simp only at hop
  subst hop
  simp only [execOp, resolve, hev, Deferred.ofValue, Sem.run_bind, Sem.run_pure, Result.andThen_ok, invoke]
  rw [hca]
  congr 2
  apply Array.ext'
  simp
 rw [hrun]
 obtain ⟨vals, hvals⟩ : ∃ vals, vals = args.toList.map a.eval ++ vs := ⟨_, rfl⟩
 have hi : vals.length = xs.length ∧ ∀ i (h1 : i < vals.length) (h2 : i < xs.length), RV G F st.mem w vals[i] xs[i] := by
  subst hxs
  subst hvals
  refine ⟨by simp [bodyArgs, hl], fun i h1 h2 => ?_⟩
  by_cases hlt : i < args.toList.length
  ·rw [List.getElem_append_left (by simpa using hlt), List.getElem_append_left (by simpa [bodyArgs] using hlt)]
   simp only [bodyArgs, List.getElem_map]
   exact (s.eval _).unopt
  ·rw [List.getElem_append_right (by simpa using hlt), List.getElem_append_right (by simpa [bodyArgs] using hlt)]
   simp only [List.length_map, bodyArgs]
   exact hcs _ _ _
 rw [← hvals]
 have s0 : SimA P ⟨st.nx, nv, hid, fn.ntmps⟩ ⟨w.heap.size, none, false⟩ G F ⟨vars0 0 xs, [], st.mem, st.nx⟩ { tmps := vals.toArray ++ Array.replicate (fn.ntmps - vals.toArray.size) undef, defers := [] } w := by
  refine ⟨⟨s.sim.mem, fun k => ?_, by simp; omega⟩, s.fresh, Marks.none _ _ _ (Nat.le_refl _)⟩
  have key : ∀ x, (x = .junk ∨ ∃ h : k < xs.length, x = xs[k]) → RV G F st.mem w ((vals.toArray ++ Array.replicate (fn.ntmps - vals.toArray.size) undef).getD k undef) x := by
   rintro x (rfl | ⟨hk, rfl⟩)
   ·exact .imm (.junk _)
   ·have : (vals.toArray ++ Array.replicate (fn.ntmps - vals.toArray.size) undef).getD k undef = vals[k]'(by omega) := by
      rw [Array.getD_eq_getD_getElem?, Array.getElem?_append_left (by simp; omega)]
      simp [List.getElem?_eq_getElem (show k < vals.length by omega)]
    rw [this]
    exact hi.2 k (by omega) hk
  refine key _ ?_
  unfold St.get
  split
  ·rcases alook_vars0 xs 0 k with h | ⟨h1, h2, h3⟩
   ·exact .inl h
   ·exact .inr ⟨by simpa using h1, by simpa using h3⟩
  ·exact .inl rfl
 have hcall : CallsIn Fence.wide 0 P f vals.toArray w fun e w2 => ∃ u G' F' r M' nx', e = .returned u ∧ R r M' nx' ∧ RV G' F' M' w2 u r ∧ SimM P G' F' M' nx' w2 ∧ (∀ j, nx' ≤ j → G' j = none) ∧ Step All G F st.mem w G' F' M' w2 := by
  refine callsIn_of_wp_marks (F := Fence.wide) hf hb trivial (wpIn_mono (hbody _ _ _ _ _ _ _ _ _ .refl s0) ?_)
  rintro e a' w' ⟨G', F', st', s', S', he, rs, hrs, hR⟩
  have SA := S'.all s.fresh
  have hfin : ∀ (Ds : List Nat) (w2 : World), Ds.Nodup → (∀ D ∈ Ds, w.heap.size ≤ D ∧ w2.heap[D]? = some (.deferred (some []))) → SimA P ⟨st.nx, nv, hid, fn.ntmps⟩ ⟨w.heap.size, none, false⟩ G' F' st' { a' with defers := [] } w2 → Step All G F st.mem w G' F' st'.mem w2 →
    LeavesInM Fence.wide 0 P fn a'.tmps (fun e w2 => ∃ u G' F' r M' nx', e = .returned u ∧ R r M' nx' ∧ RV G' F' M' w2 u r ∧ SimM P G' F' M' nx' w2 ∧ (∀ j, nx' ≤ j → G' j = none) ∧ Step All G F st.mem w G' F' M' w2) (Ds.map dmark) .returning w2 := by
   intro Ds
   induction Ds with
   | nil =>
     intro w2 _ _ s2 S2
     obtain ⟨u, hu, hru⟩ := resultsR_ok s2 hrs
     exact ⟨u, hu, u, G', F', mkRes rs, st'.mem, st'.nx, rfl, hR, hru, s2.sim.mem, s'.fresh, S2⟩
   | cons D Ds ih =>
     intro w2 hnd hD s2 S2
     obtain ⟨h1, h2⟩ := hD D List.mem_cons_self
     have hnd := List.nodup_cons.1 hnd
     have hk : ∀ (b : Nat) (o : Obj), w2.heap[b]? = some o → isData o = true → (w2.putObj D (.deferred none)).heap[b]? = some o := fun b o hb ho => by
      rw [World.putObj_heap_other (by rintro rfl; rw [h2] at hb; cases hb; cases ho)]; exact hb
     refine ⟨(by intro h; cases h), .inl ⟨D, _, rfl, run_takeDeferred h2, ih _ hnd.2 (fun D' hD' => ?_) ⟨⟨s2.sim.mem.keepData hk (by rw [World.putObj_size]; exact Nat.le_refl _), fun k => (s2.sim.slots k).keepData hk, s2.sim.size⟩, s2.fresh, Marks.none _ _ _ (by rw [World.putObj_size]; exact S2.size)⟩ ?_⟩⟩
     ·refine ⟨(hD D' (List.mem_cons_of_mem _ hD')).1, ?_⟩
      rw [World.putObj_heap_other (by rintro rfl; exact hnd.1 hD')]; exact (hD D' (List.mem_cons_of_mem _ hD')).2
     ·exact S2.putAbove h1 h2 rfl rfl
  obtain ⟨⟨Ds, hDs, hnd, hD⟩, _⟩ := s'.defers
  have := hfin Ds w' hnd hD ⟨⟨s'.sim.mem, s'.sim.slots, s'.sim.size⟩, s'.fresh, Marks.none _ _ _ SA.size⟩ SA
  rw [← hDs] at this
  rcases he with rfl | rfl
  ·exact this
  ·exact this
 refine ⟨fun h => by simp [fc, Fence.wide] at h, callsIn_fc (hcall.mono ?_)⟩
 rintro e w2 ⟨u, G', F', r, M', nx', rfl, hR, hru, hm, hfr, S2⟩
 exact h G' F' _ w2 r M' nx' hR (s.step_put (st1 := ⟨st.vars, st.tmps, M', nx'⟩) S2 hm rfl rfl hfr hd hru) S2
theorem XR.callB {f : FuncId} {fn : Func} {cs : List AV} {callee : Operand} {args : Array Operand} {tys : Array TypeId} {xs : List AV} (nv : Nat) (hid : List Nat) (hg : o.guard = none) (hop : o.op = .call ⟨.value callee, args, tys⟩) (hd : dok fr o.dst = true)
  (hcal : od fr st true callee = .fn f cs) (hxs : bodyArgs fr st args ++ cs = xs) (hf : P.funcs[f]? = some fn) (hb : fn.body = some c) (hnm : (fn.name == "runtime.NumGoroutine") = false) (hsz : xs.length ≤ fn.ntmps)
  (hbody : ∀ h0 : Nat, EvC P ⟨st.nx, nv, hid, fn.ntmps⟩ none ⟨h0, none, false⟩ c ⟨vars0 0 xs, [], st.mem, st.nx⟩ fun e st' => (e = .ret ∨ e = .normal) ∧ ∃ rs, resAllR P ⟨st.nx, nv, hid, fn.ntmps⟩ st' fn.results.toList = some rs ∧
   XR P fr ro ds ops rest ((⟨st.vars, st.tmps, st'.mem, st'.nx⟩ : St).put fr o.dst (mkRes rs)) Q) : XR P fr ro ds ops (o :: rest) st Q :=
 fun _ _ _ _ _ _ _ _ S s => wpListIn_plain hg fun K hK => s.callB (R := fun r M' nx' => XR P fr ro ds ops rest ((⟨st.vars, st.tmps, M', nx'⟩ : St).put fr o.dst r) Q) hop (dok_spec hd) hcal hxs hf hb hnm hsz hbody
  fun _ _ _ _ _ _ _ hR s' S' => hK _ _ (hR _ _ _ _ _ _ _ _ (S.trans (by rw [St.put_mem]; exact S'.mono fun _ _ => trivial)) s')
end
end Go.Avl
namespace Go.Avl
open Go
def PureFr (P : Program) (f : FuncId) (args : List AV) (r : AV) : Prop :=
 callable P f ∧ ∀ F w vals, FOk F w → Imms F w vals args →
  CallsIn Fence.wide 0 P f vals.toArray w fun e w' => ∃ v Fr, e = .returned v ∧ Imm Fr w' v r ∧ (∀ b o, Fr b o → w.heap.size ≤ b ∧ b < w'.heap.size) ∧ Grown F w (fun b o => F b o ∨ Fr b o) w'
def lend (G : Nat → Option Value) (F : Nat → Nat → Prop) (M : Mem) : Nat → Nat → Prop := fun b o => F b o ∨ Owned G M b
section
variable {P : Program} {fr : Fr} {ro : Option Nat} {ds : DS} {st st' : St} {Q Q' : Exit → St → Prop} {G G' : Nat → Option Value} {F F' : Nat → Nat → Prop} {a : Act} {w w' : World} {x y c : Code}
 {M : Mem} {ops : Array Oper} {l rest : List Oper} {o : Oper}
theorem Imm.lend {v : Value} {x : AV} (h : Imm F w v x) : Imm (Avl.lend G F M) w v x := h.mono (fun _ _ h => .inl h) fun _ _ _ => rfl
end
end Go.Avl
namespace Go.Avl
open Go
def isSc : AV → Bool
 | .sc _ => true
 | _ => false
def flat (es : List (List AV)) : Bool := es.all fun c => c.all isSc
def freshOne (M : Mem) : AV → Option AV
 | .sc v => some (.sc v)
 | .sl true [] cap => some (.sl true [] cap)
 | .tl i n b => match mlook M i with
   | some (.arr _ es _) => if n = es.length ∧ flat es = true then some (.sl b es .unk) else none
   | _ => none
 | .tv i n off len (.val k) => match mlook M i with
   | some (.arr _ es _) => if n = es.length ∧ flat es = true ∧ k = len then some (.sl false ((es.drop off).take len) .full) else none
   | _ => none
 | _ => none
def freshAll (M : Mem) : List AV → Option (List AV)
 | [] => some []
 | x :: xs => match freshOne M x, freshAll M xs with
   | some v, some vs => some (v :: vs)
   | _, _ => none
def newF (B : Nat) (w : World) : Nat → Nat → Prop := fun b _ => B ≤ b ∧ b < w.heap.size
section
variable {P : Program} {G : Nat → Option Value} {F : Nat → Nat → Prop} {M : Mem} {w : World} {nx B : Nat}
theorem flat_get {es : List (List AV)} (h : flat es = true) (i j : Nat) (h1 : i < es.length) (h2 : j < es[i].length) : ∃ v, es[i][j] = .sc v := by
 unfold flat at h
 rw [List.all_eq_true] at h
 have h3 := h _ (List.getElem_mem h1)
 rw [List.all_eq_true] at h3
 have := h3 _ (List.getElem_mem h2)
 cases hx : es[i][j] <;> simp [hx, isSc] at this ⊢
theorem freshOne_ok (hm : SimM P G F M nx w) (hB : ∀ b, Owned G M b → B ≤ b) {v : Value} {y z : AV} (h : RV G F M w v y) (hz : freshOne M y = some z) : Imm (newF B w) w v z := by
 unfold freshOne at hz
 split at hz
 ·cases hz
  rw [h.inv_sc]; exact .sc _
 ·cases hz
  cases h.inv_sl with
  | nil _ hc => exact .nil _ hc
 ·rename_i i n b
  split at hz
  ·rename_i esz es fz ho
   split at hz
   ·rename_i hc
    cases hz
    obtain ⟨hnl, hfl⟩ := hc
    obtain ⟨_, hh⟩ := h.inv_tl
    obtain ⟨hG, hb⟩ := (hh _ _ _ ho).2 hnl
    rcases (hm.obj i _ ho).2 with ⟨h0, base, h1, hsp⟩ | ⟨b', c, cc, e, h1, h2, h3, h4, h5, h6, h7, h8, h9⟩
    ·rw [hG] at h1; cases h1
     subst h0
     cases base with
     | none => simp [isNilSlice] at hb; subst hb; exact .nil _ (.inl rfl)
     | some a =>
       simp [isNilSlice] at hb; subst hb
       exact .sz a .unk (.inl rfl)
    ·have hG1 := hG
     rw [hG] at h1; cases h1
     simp [isNilSlice] at hb; subst hb
     have hown : Owned G M b' := ⟨i, _, _, ho, hG1, by simp [blkOf, h2]⟩
     refine .sl b' 0 c esz es .unk (fun i j => (cc[i * esz + j]?).getD undef) h4 (.inl rfl) h6 (fun k j hk hj => ⟨⟨hB _ hown, hm.lt hown⟩, ?_⟩) (fun k j hk hj => ?_)
     ·rw [cell?_block h3, Nat.zero_add]
      obtain ⟨v, hv, h1c, _⟩ := h7 k j hk (by rw [h6 k hk]; exact hj)
      rw [hv]; exact ⟨rfl, h1c⟩
     ·obtain ⟨v, hv, _, hr⟩ := h7 k j hk hj
      obtain ⟨u, hu⟩ := flat_get hfl k j hk hj
      rw [hv]
      rw [hu] at hr ⊢
      rw [show (some v).getD undef = v from rfl, hr.inv_sc]; exact .sc _
   ·cases hz
  ·cases hz
 ·rename_i i n off len k
  split at hz
  ·rename_i esz es fz ho
   split at hz
   ·rename_i hc
    cases hz
    obtain ⟨hnl, hfl, rfl⟩ := hc
    obtain ⟨_, hh⟩ := h.inv_tv
    obtain ⟨hol, b', c, hG, hc0, c', rfl, hlc, hcp⟩ := (hh _ _ _ ho).2 hnl
    rcases hc0 with hc0 | ⟨hc0, hc2, hc1⟩
    rotate_left
    ·simp only [Value.slice.injEq] at hc1
     obtain ⟨_, rfl, rfl⟩ := hc1
     have : es = [] := List.length_eq_zero_iff.1 (by omega)
     subst this
     have e1 : ((([] : List (List AV)).drop off).take 0) = [] := by simp
     rw [e1]
     exact .sz _ _ (.inr (.inr (.inl rfl)))
    have hc' : c' = k := by
     rcases hcp with h | h | ⟨h, _⟩
     ·cases h
     ·cases h; rfl
     ·cases h
    subst hc'
    rcases (hm.obj i _ ho).2 with ⟨h0, base, h1, hsp⟩ | ⟨b2, c2, cc, e, h1, h2, h3, h4, h5, h6, h7, h8, h9⟩
    ·rw [hG] at h1; cases h1; exact absurd rfl hc0
    ·rw [hG] at h1; cases h1
     have hown : Owned G M b' := ⟨i, _, _, ho, hG, by simp [blkOf, hc0]⟩
     have hlen : ((es.drop off).take c').length = c' := by simp; omega
     have hget : ∀ k (hk : k < ((es.drop off).take c').length), ((es.drop off).take c')[k] = es[off + k]'(by rw [hlen] at hk; omega) := fun k hk => by simp
     have := Imm.sl (F := newF B w) (w := w) b' (off * esz) c' esz ((es.drop off).take c') .full (fun k j => (cc[(off + k) * esz + j]?).getD undef) (by omega) (.inr (.inr (.inl ⟨rfl, hlen.symm⟩))) (fun k hk => by rw [hget k hk]; exact h6 _ _)
      (fun k j hk hj => by
       refine ⟨⟨hB _ hown, hm.lt hown⟩, ?_⟩
       have hk2 : off + k < es.length := by rw [hlen] at hk; omega
       rw [cell?_block h3, show off * esz + k * esz + j = (off + k) * esz + j by rw [Nat.add_mul]]
       obtain ⟨v, hv, h1c, _⟩ := h7 (off + k) j hk2 (by rw [h6 _ hk2]; exact hj)
       rw [hv]; exact ⟨rfl, h1c⟩)
      (fun k j hk hj => by
       have hk2 : off + k < es.length := by rw [hlen] at hk; omega
       simp only [hget k hk] at hj ⊢
       obtain ⟨v, hv, _, hr⟩ := h7 (off + k) j hk2 hj
       obtain ⟨u, hu⟩ := flat_get hfl (off + k) j hk2 hj
       rw [hv]
       rw [hu] at hr ⊢
       rw [show (some v).getD undef = v from rfl, hr.inv_sc]; exact .sc _)
     rw [hlen] at this
     exact this
   ·cases hz
  ·cases hz
 ·cases hz
theorem freshAll_ok (hm : SimM P G F M nx w) (hB : ∀ b, Owned G M b → B ≤ b) : ∀ {us : List Value} {rs zs : List AV}, us.length = rs.length → (∀ i (h1 : i < us.length) (h2 : i < rs.length), RV G F M w us[i] rs[i]) → freshAll M rs = some zs →
  us.length = zs.length ∧ ∀ i (h1 : i < us.length) (h2 : i < zs.length), Imm (newF B w) w us[i] zs[i]
 | [], [], zs, _, _, h => by cases h; exact ⟨rfl, fun i h => by simp at h⟩
 | [], _ :: _, _, h, _, _ => by simp at h
 | _ :: _, [], _, h, _, _ => by simp at h
 | u :: us, r :: rs, zs, hl, hr, h => by
   simp only [freshAll] at h
   split at h
   ·rename_i v vs hv hvs
    cases h
    obtain ⟨h1, h2⟩ := freshAll_ok hm hB (by simpa using hl) (fun i a b => hr (i + 1) (by simpa using a) (by simpa using b)) hvs
    refine ⟨by simpa using h1, fun i a b => ?_⟩
    cases i with
    | zero => exact freshOne_ok hm hB (hr 0 (by simp) (by simp)) hv
    | succ i => exact h2 i (by simpa using a) (by simpa using b)
   ·cases h
theorem freshRes_ok (hm : SimM P G F M nx w) (hB : ∀ b, Owned G M b → B ≤ b) {fr : Fr} {ds : DS} {st : St} {a : Act} (s : SimA P fr ds G F st a w) (hM : st.mem = M) {fn : Func} {rs zs : List AV} (h : resAllR P fr st fn.results.toList = some rs) (hz : freshAll M rs = some zs) :
  ∃ u, (results fn a.tmps).run P w = .ok u w ∧ Imm (newF B w) w u (mkRes zs) := by
 subst hM
 obtain ⟨us, h1, h2, h3⟩ := resAllR_ok s h
 obtain ⟨h4, h5⟩ := freshAll_ok hm hB h2 h3 hz
 refine ⟨if h : us.toArray.size = 1 then us.toArray[0] else .tuple us.toArray, ?_, ?_⟩
 ·rw [results_eq, Array.mapM_eq_mapM_toList]
  simp [h1]
 ·match us, zs, h4 with
  | [], [], _ => exact .tu [] [] rfl (fun _ h => absurd h (Nat.not_lt_zero _))
  | [u], [r], _ => exact h5 0 (by simp) (by simp)
  | u :: u' :: us, r :: r' :: rs, h4 =>
    simp only [List.size_toArray, List.length_cons, mkRes]
    rw [dif_neg (by omega)]
    exact .tu _ _ h4 h5
def retF (P : Program) (fr : Fr) (results : List ResultVar) (r : AV) (e : Exit) (st : St) : Prop :=
 (e = .ret ∨ e = .normal) ∧ ∃ rs zs, resAllR P fr st results = some rs ∧ freshAll st.mem rs = some zs ∧ mkRes zs = r
theorem PureFr.of {c : Code} {f : FuncId} {fn : Func} {args : List AV} {r : AV} {nv : Nat} {hid : List Nat} (hf : P.funcs[f]? = some fn) (hb : fn.body = some c) (hnm : (fn.name == "runtime.NumGoroutine") = false) (hsz : args.length ≤ fn.ntmps)
  (h : ∀ h0 : Nat, EvC P ⟨0, nv, hid, fn.ntmps⟩ none ⟨h0, none, false⟩ c (st0 args) (retF P ⟨0, nv, hid, fn.ntmps⟩ fn.results.toList r)) : PureFr P f args r := by
 refine ⟨callable_of hf hnm (by rw [hb]; rfl), fun F w vals hF hi => ?_⟩
 obtain ⟨hl, hi⟩ := hi
 have s0 : SimA P ⟨0, nv, hid, fn.ntmps⟩ ⟨w.heap.size, none, false⟩ (fun _ => none) F (st0 args) { tmps := vals.toArray ++ Array.replicate (fn.ntmps - vals.toArray.size) undef, defers := [] } w := by
  refine ⟨⟨⟨fun id o h => (by cases h), fun id id' v v' b h => absurd rfl h, hF.1, hF.2⟩, fun k => ?_, by simp; omega⟩, fun _ _ => rfl, Marks.none _ _ _ (Nat.le_refl _)⟩
  have key : ∀ x, (x = .junk ∨ ∃ h : k < args.length, x = args[k]) → RV (fun _ => none) F (st0 args).mem w ((vals.toArray ++ Array.replicate (fn.ntmps - vals.toArray.size) undef).getD k undef) x := by
   rintro x (rfl | ⟨hk, rfl⟩)
   ·exact .imm (.junk _)
   ·have : (vals.toArray ++ Array.replicate (fn.ntmps - vals.toArray.size) undef).getD k undef = vals[k]'(by omega) := by
      rw [Array.getD_eq_getD_getElem?, Array.getElem?_append_left (by simp; omega)]
      simp [List.getElem?_eq_getElem (show k < vals.length by omega)]
    rw [this]
    exact .imm (hi k (by omega) hk)
  refine key _ ?_
  unfold St.get
  split
  ·rcases alook_vars0 args 0 k with h | ⟨h1, h2, h3⟩
   ·exact .inl h
   ·exact .inr ⟨by simpa using h1, by simpa [st0] using h3⟩
  ·exact .inl rfl
 refine callsIn_of_wp_marks (F := Fence.wide) hf hb trivial (wpIn_mono (h _ _ _ _ _ _ _ _ _ .refl s0) ?_)
 rintro e a' w' ⟨G', F', st', s', S', he, rs, zs, hrs, hzs, rfl⟩
 have hown : ∀ b, Owned G' st'.mem b → w.heap.size ≤ b := fun b hb => (S'.own b hb).elim id fun ⟨_, _, _, h, _⟩ => by cases h
 have g : ∀ w2 : World, w.heap.size ≤ w2.heap.size → (∀ b, b < w.heap.size → w2.heap[b]? = w.heap[b]?) → Kept w w2 → Grown F w (fun b o => F b o ∨ newF w.heap.size w2 b o) w2 := fun w2 h1 h2 h3 =>
  ⟨h1, h2, fun _ _ h => .inl h, fun b o h => h.imp id fun h => h.1, fun b o h => h.elim (fun h => Nat.lt_of_lt_of_le (hF.1 b o h) h1) fun h => h.2, h3⟩
 have hfin : ∀ (Ds : List Nat) (w2 : World), Ds.Nodup → (∀ D ∈ Ds, w.heap.size ≤ D ∧ w2.heap[D]? = some (.deferred (some []))) → w.heap.size ≤ w2.heap.size → (∀ b, b < w.heap.size → w2.heap[b]? = w.heap[b]?) → Kept w w2 →
   SimA P ⟨0, nv, hid, fn.ntmps⟩ ⟨w.heap.size, none, false⟩ G' F' st' { a' with defers := [] } w2 →
   LeavesInM Fence.wide 0 P fn a'.tmps (fun e w' => ∃ v Fr, e = .returned v ∧ Imm Fr w' v (mkRes zs) ∧ (∀ b o, Fr b o → w.heap.size ≤ b ∧ b < w'.heap.size) ∧ Grown F w (fun b o => F b o ∨ Fr b o) w') (Ds.map dmark) .returning w2 := by
  intro Ds
  induction Ds with
  | nil =>
    intro w2 _ _ h1 h2 h3 s2
    obtain ⟨u, k1, k2⟩ := freshRes_ok s2.sim.mem hown s2 rfl hrs hzs
    exact ⟨u, k1, u, newF w.heap.size w2, rfl, k2, fun _ _ h => h, g w2 h1 h2 h3⟩
  | cons D Ds ih =>
    intro w2 hnd hD h1 h2 h3 s2
    obtain ⟨d1, d2⟩ := hD D List.mem_cons_self
    have hnd := List.nodup_cons.1 hnd
    have hk : ∀ (b : Nat) (o : Obj), w2.heap[b]? = some o → isData o = true → (w2.putObj D (.deferred none)).heap[b]? = some o := fun b o hb ho => by
     rw [World.putObj_heap_other (by rintro rfl; rw [d2] at hb; cases hb; cases ho)]; exact hb
    refine ⟨(by intro h; cases h), .inl ⟨D, _, rfl, run_takeDeferred d2, ih _ hnd.2 (fun D' hD' => ?_) (by rw [World.putObj_size]; exact h1) (fun b hb => ?_) (h3.trans (.set d2 rfl rfl)) ?_⟩⟩
    ·refine ⟨(hD D' (List.mem_cons_of_mem _ hD')).1, ?_⟩
     rw [World.putObj_heap_other (by rintro rfl; exact hnd.1 hD')]; exact (hD D' (List.mem_cons_of_mem _ hD')).2
    ·rw [World.putObj_heap_other (by omega)]; exact h2 b hb
    ·exact ⟨⟨s2.sim.mem.keepData hk (by rw [World.putObj_size]; exact Nat.le_refl _), fun k => (s2.sim.slots k).keepData hk, s2.sim.size⟩, s2.fresh, Marks.none _ _ _ (by rw [World.putObj_size]; exact h1)⟩
 obtain ⟨⟨Ds, hDs, hnd, hD⟩, _⟩ := s'.defers
 have := hfin Ds w' hnd hD S'.size (fun b hb => S'.out b hb (fun ⟨_, _, _, h, _⟩ => by cases h)) S'.kept ⟨⟨s'.sim.mem, s'.sim.slots, s'.sim.size⟩, s'.fresh, Marks.none _ _ _ S'.size⟩
 rw [← hDs] at this
 rcases he with rfl | rfl
 ·exact this
 ·exact this
theorem PureFr.pure {f : FuncId} {args : List AV} {r : AV} (h : PureFr P f args r) : PureIs P f args r :=
 ⟨h.1, fun F w vals hF hi => (h.2 F w vals hF hi).mono fun _ _ ⟨v, Fr, he, hv, _, hg⟩ => ⟨v, _, he, hv.mono (fun _ _ h => .inr h) fun _ _ _ => rfl, hg⟩⟩
end
end Go.Avl
namespace Go.Avl
open Go
section
variable {F : Fence} {n : Nat} {P : Program} {a : Act} {w : World} {c : Code}
theorem stepR_scope {b : Frame} {k : List Item} {cs : List Frame} : step P (lone (b.atR a (.code (.scope c) :: k)) cs w) = .next (lone (b.atR a (.code c :: .inScope c :: k)) cs w) :=
 step_lone_go (by simp [stepG, stepG.exec, Frame.atR])
theorem stepR_inScope {b : Frame} {k : List Item} {cs : List Frame} : step P (lone (b.atR a (.inScope c :: k)) cs w) = .next (lone (b.atR a k) cs w) :=
 step_lone_go (by simp [stepG, stepG.exec, Frame.atR])
theorem wpIn_scope {Q : Exit → Act → World → Prop} (h : c.wpIn F n P (Exit.noGoto Q) a w) : (Code.scope c).wpIn F n P Q a w := by
 intro b k cs hro hb hr
 have h0 : (lone (b.atR a (.code (.scope c) :: k)) cs w).fenced P F := fenced_calm hb hr rfl
 obtain ⟨e, a₁, w₁, hq, harr⟩ := h b (.inScope c :: k) cs hro hb hr
 cases e with
 | normal => exact ⟨.normal, a₁, w₁, hq, .head h0 stepR_scope (StepsIn.trans harr (.one (fenced_calm hb hr rfl) stepR_inScope))⟩
 | exit id =>
   have hx : exitTo id (.inScope c :: k) = exitTo id k := by simp [exitTo]
   exact ⟨.exit id, a₁, w₁, hq, fun k' hk => .head h0 stepR_scope (harr.1 k' (by rw [hx]; exact hk)),
    fun hr' hk => let ⟨k₁, h1, h2⟩ := harr.2 hr' (by rw [hx]; exact hk); ⟨k₁, h1, .head h0 stepR_scope h2⟩⟩
 | goto l => exact hq.elim
 | ret => exact ⟨_, a₁, w₁, hq, .of_steps (.one h0 stepR_scope) harr⟩
 | panic ch => exact ⟨_, a₁, w₁, hq, .of_steps (.one h0 stepR_scope) harr⟩
 | outgrown => exact ⟨_, a₁, w₁, hq, .of_steps (.one h0 stepR_scope) harr⟩
end
section
variable {P : Program} {fr : Fr} {ro : Option Nat} {ds : DS} {st st' : St} {Q Q' : Exit → St → Prop} {x y c : Code}
def noGotoE (Q : Exit → St → Prop) : Exit → St → Prop
 | .goto _, _ => False
 | e, st => Q e st
theorem EvC.scope (h : EvC P fr ro ds c st (noGotoE Q)) : EvC P fr ro ds (.scope c) st Q :=
 fun _ _ _ _ _ _ _ _ S s => wpIn_scope (wpIn_mono (h _ _ _ _ _ _ _ _ S s) fun e _ _ ⟨G', F', st', h1, h2, h3⟩ => by
  cases e <;> first | exact h3.elim | exact ⟨G', F', st', h1, h2, h3⟩)
theorem EvC.label {l : Nat} (h : Q .normal st) : EvC P fr ro ds (.label l) st Q :=
 fun _ _ _ _ G F _ _ S s => wpIn_label ⟨G, F, st, s, S, h⟩
end
end Go.Avl
namespace Go.Avl
open Go
def St.shrink (fr : Fr) (k : Nat) (st : St) : Option St :=
 match st.get fr k with
 | .tv i n 0 0 .rest => match mlook st.mem i with
   | some (.arr esz es false) => if n = es.length then some ((⟨st.vars, st.tmps, (st.nx, .arr esz [] false) :: mdel st.mem i, st.nx + 1⟩ : St).put fr (some k) (.tl st.nx 0 false)) else none
   | _ => none
 | _ => none
section
variable {P : Program} {fr : Fr} {ro : Option Nat} {ds : DS} {st st' : St} {Q Q' : Exit → St → Prop} {G G' : Nat → Option Value} {F F' : Nat → Nat → Prop} {a : Act} {w w' : World} {x y c : Code} {M : Mem}
 {ops : Array Oper} {l rest : List Oper}
theorem mlook_mdel' : ∀ (M : Mem) (i j : Nat), mlook (mdel M i) j = if j = i then none else mlook M j
 | [], i, j => by simp [mdel, mlook]
 | (k, o) :: M, i, j => by
   have ih := mlook_mdel' M i j
   simp only [mdel]
   by_cases h : i = k
   ·subst h
    rw [if_pos rfl, ih]
    by_cases hj : j = i
    ·subst hj; simp
    ·simp [mlook, hj]
   ·rw [if_neg h]
    simp only [mlook]
    by_cases hj : j = k
    ·subst hj
     rw [if_pos rfl, if_neg (fun e => h e.symm), if_pos rfl]
    ·rw [if_neg hj, if_neg hj]; exact ih
theorem SimA.shrink {k : Nat} (s : SimA P fr ds G F st a w) (h : st.shrink fr k = some st') : ∃ G', SimA P fr ds G' F st' a w ∧ Step (· < fr.base) G F st.mem w G' F st'.mem w := by
 unfold St.shrink at h
 split at h
 ·rename_i i n hk
  split at h
  ·rename_i esz es ho
   split at h
   ·rename_i hn
    cases h
    have hv := s.sim.slots k
    rw [hk] at hv
    obtain ⟨hG0, hh⟩ := hv.inv_tv
    obtain ⟨_, b, c, hG, hc0, c', hval, _, hcp⟩ := (hh _ _ _ ho).2 hn
    replace hc0 : c ≠ 0 := hc0.resolve_right fun h => by cases h.2.1
    have hcc : c' = c := by
     rcases hcp with h | h | ⟨_, h⟩
     ·cases h
     ·cases h
     ·omega
    subst hcc
    rw [Nat.zero_mul] at hval
    have hob := (s.sim.mem.obj i _ ho)
    have hne : i ≠ st.nx := Nat.ne_of_lt hob.1
    obtain ⟨G1, hG1⟩ : ∃ G1, G1 = upG G st.nx (.slice (some ⟨b, 0, none⟩) 0 c') := ⟨_, rfl⟩
    obtain ⟨M1, hM1⟩ : ∃ M1 : Mem, M1 = (st.nx, .arr esz [] false) :: mdel st.mem i := ⟨_, rfl⟩
    have hlk : ∀ j, mlook M1 j = if j = st.nx then some (.arr esz [] false) else if j = i then none else mlook st.mem j := fun j => by
     rw [hM1]; simp only [mlook]
     by_cases hj : j = st.nx
     ·rw [if_pos hj, if_pos hj]
     ·rw [if_neg hj, if_neg hj, mlook_mdel']
    have hgo : ∀ j, j ≠ st.nx → G1 j = G j := fun j hj => by rw [hG1, upG_other G _ hj]
    have hgs : G1 st.nx = some (.slice (some ⟨b, 0, none⟩) 0 c') := by rw [hG1, upG_self]
    have hbk : blkOf (.slice (some ⟨b, 0, none⟩) n c') = some b := by simp [blkOf, hc0]
    have hbk0 : blkOf (.slice (some ⟨b, 0, none⟩) 0 c') = some b := by simp [blkOf, hc0]
    have S : Step All G F st.mem w G1 F M1 w :=
     { kept := .refl
       size := Nat.le_refl _
       out := fun _ _ _ => rfl
       F1 := fun _ _ h => h
       F2 := fun _ _ _ => rfl
       F3 := fun _ _ h => .inl h
       own := fun b' ⟨id, o, v, h1, h2, h3⟩ => by
        rw [hlk] at h1
        by_cases hj : id = st.nx
        ·subst hj
         rw [hgs] at h2; cases h2
         rw [hbk0] at h3; cases h3
         exact .inr ⟨i, _, _, ho, hG, hbk⟩
        ·rw [if_neg hj] at h1
         rw [hgo id hj] at h2
         split at h1
         ·cases h1
         ·exact .inr ⟨id, o, v, h1, h2, h3⟩
       some' := fun id _ hid => by
        by_cases hj : id = st.nx
        ·subst hj; rw [hgs]; simp
        ·rw [hgo id hj]; exact hid
       same := fun id v _ hid _ => by
        have hj : id ≠ st.nx := fun e => by rw [e, s.fresh _ (Nat.le_refl _)] at hid; cases hid
        rw [hgo id hj]; exact hid
       keep := fun id o' _ hid h1 => by
        have hj : id ≠ st.nx := fun e => hid (by rw [e]; exact s.fresh _ (Nat.le_refl _))
        rw [hlk, if_neg hj] at h1
        obtain ⟨v, hv⟩ := Option.ne_none_iff_exists'.1 hid
        split at h1
        ·cases h1
        ·exact ⟨o', v, v, h1, hv, (hgo id hj).trans hv, objKeep.refl v o'⟩ }
    have hm' : SimM P G1 F M1 (st.nx + 1) w := by
     refine simM_gen s.sim.mem S (fun id o' h1 => ?_) (fun id id' v v' b' h1 h2 h3 h4 h5 h6 => ?_) s.sim.mem.inF
     ·rw [hlk] at h1
      by_cases hj : id = st.nx
      ·subst hj
       rw [if_pos rfl] at h1; cases h1
       refine ⟨Nat.lt_succ_self _, .inl ?_⟩
       rcases hob.2 with ⟨_, base, h1, _⟩ | ⟨b2, c2, cc, e, k1, k2, k3, k4, k5, k6, k7, k8, k9⟩
       ·rw [hG] at h1; cases h1; exact absurd rfl hc0
       ·rw [hG] at k1; cases k1
        refine .inr ⟨b, c', cc, e, hgs, hc0, k3, Nat.zero_le _, k5, fun i h => absurd h (Nat.not_lt_zero _), fun i j h => absurd h (Nat.not_lt_zero _), fun o h => ?_, fun h => by cases h⟩
        have := (k8 o h).1
        cases this
      ·rw [if_neg hj] at h1
       split at h1
       ·cases h1
       ·exact ⟨Nat.lt_succ_of_lt (s.sim.mem.obj id o' h1).1, .inr ⟨h1, hgo id hj, fun b v _ _ => ⟨rfl, fun _ h => h⟩⟩⟩
     ·have back : ∀ {id : Nat} {v : Value}, mlook M1 id ≠ none → G1 id = some v → blkOf v = some b' → (id = st.nx ∧ b' = b) ∨ (id ≠ st.nx ∧ id ≠ i ∧ mlook st.mem id ≠ none ∧ G id = some v) := fun {id v} q1 q2 q3 => by
        by_cases hj : id = st.nx
        ·subst hj
         rw [hgs] at q2; cases q2
         rw [hbk0] at q3; cases q3
         exact .inl ⟨rfl, rfl⟩
        ·rw [hlk, if_neg hj] at q1
         rw [hgo id hj] at q2
         by_cases hi : id = i
         ·rw [if_pos hi] at q1; exact absurd rfl q1
         ·rw [if_neg hi] at q1; exact .inr ⟨hj, hi, q1, q2⟩
      have hio : mlook st.mem i ≠ none := by rw [ho]; simp
      rcases back h1 h3 h5 with ⟨e1, e2⟩ | ⟨q1, q2, q3, q4⟩ <;> rcases back h2 h4 h6 with ⟨e3, e4⟩ | ⟨p1, p2, p3, p4⟩
      ·rw [e1, e3]
      ·subst e2
       exact absurd (s.sim.mem.inj id' i _ _ _ p3 hio p4 hG h6 hbk) p2
      ·subst e4
       exact absurd (s.sim.mem.inj id i _ _ _ q3 hio q4 hG h5 hbk) q2
      ·exact s.sim.mem.inj id id' _ _ _ q3 p3 q4 p4 h5 h6
    refine ⟨G1, ⟨⟨by rw [St.put_mem, St.put_nx, ← hM1]; exact hm', fun j => ?_, s.sim.size⟩, fun j hj => ?_, s.defers⟩, by rw [St.put_mem, ← hM1]; exact S.mono fun _ _ => trivial⟩
    ·rw [St.put_mem, St.get_put, ← hM1]
     split
     ·rename_i hj; subst hj
      rw [hval]
      exact .tl st.nx 0 false _ (by rw [hgs]; simp) fun esz' es' fz ho' => by
       rw [hlk, if_pos rfl] at ho'; cases ho'
       exact ⟨Nat.le_refl _, fun _ => ⟨hgs, rfl⟩⟩
     ·exact (s.sim.slots j).step S fun _ _ => trivial
    ·rw [St.put_nx] at hj
     have hj : st.nx + 1 ≤ j := hj
     rw [hgo j (by omega)]; exact s.fresh j (by omega)
   ·cases h
  ·cases h
 ·cases h
theorem EvC.shrink (k : Nat) {st' : St} (h : st.shrink fr k = some st') (hc : EvC P fr ro ds c st' Q) : EvC P fr ro ds c st Q :=
 EvC.conv (fun _ F _ _ s => let ⟨G', s', S'⟩ := s.shrink h; ⟨G', F, s', S'⟩) hc
theorem XR.shrink (k : Nat) {st' : St} (h : st.shrink fr k = some st') (hc : XR P fr ro ds ops l st' Q) : XR P fr ro ds ops l st Q :=
 fun _ _ _ _ _ _ _ _ S s => let ⟨_, s', S'⟩ := s.shrink h; hc _ _ _ _ _ _ _ _ (S.trans S') s'
theorem XR.gcTo (st2 : St) (L : List Nat) (K : List (Nat × Nat)) (hk : gcOk fr.base st2.nx K = true) (he : st.gc L K st2.nx = st2) (h : XR P fr ro ds ops l st2 Q) : XR P fr ro ds ops l st Q :=
 fun _ _ _ _ _ _ _ _ S s => by
  have s1 := s.gc (L := L) hk
  rw [he] at s1
  obtain ⟨s', S'⟩ := s1
  exact h _ _ _ _ _ _ _ _ (S.trans S') s'
end
attribute [go_sem] St.shrink mdel resAllR resOneR bodyArgs cutHead cutTail
end Go.Avl
namespace Go.Avl
open Go
def lendC (f : AV → AV) (cs : List AV) : List AV := if AV.norefs cs = true then cs else cs.map f
def lendR (f : AV → AV) (es : List (List AV)) : List (List AV) := if es.all AV.norefs = true then es else es.map (·.map f)
def lendA (M : Mem) : Nat → AV → AV
 | 0, v => v
 | d + 1, .tl i n b => match mlook M i with
   | some (.arr _ es _) => .sl b (lendR (lendA M d) es) .unk
   | _ => .tl i n b
 | d + 1, .tv i n off len cap => match mlook M i with
   | some (.arr _ es _) => .sl false (tvEs (lendR (lendA M d) es) n off len) (tvCap len cap)
   | _ => .tv i n off len cap
 | d + 1, .rf i off => match mlook M i with
   | some (.cells cs) => .ia ((lendC (lendA M d) cs).drop off)
   | _ => .rf i off
 | d + 1, .fn f cs => .fn f (lendC (lendA M d) cs)
 | d + 1, .ag cs => .ag (lendC (lendA M d) cs)
 | _ + 1, v => v
def lendK (M : Mem) : Nat → AV → Bool
 | 0, v => v.noref
 | d + 1, .tl i n _ => match mlook M i with
   | some (.arr _ es _) => decide (n = es.length) && (es.all AV.norefs || es.all fun c => c.all (lendK M d))
   | _ => false
 | d + 1, .tv i n _ _ _ => match mlook M i with
   | some (.arr _ es _) => decide (n = es.length) && (es.all AV.norefs || es.all fun c => c.all (lendK M d))
   | _ => false
 | d + 1, .rf i _ => match mlook M i with
   | some (.cells cs) => AV.norefs cs || cs.all (lendK M d)
   | _ => false
 | d + 1, .fn _ cs => AV.norefs cs || cs.all (lendK M d)
 | d + 1, .ag cs => AV.norefs cs || cs.all (lendK M d)
 | _ + 1, v => v.noref
def lendIs (f : AV → List Nat) : List AV → List Nat
 | [] => []
 | c :: cs => f c ++ lendIs f cs
def lendIss (f : AV → List Nat) : List (List AV) → List Nat
 | [] => []
 | c :: cs => lendIs f c ++ lendIss f cs
def lendI (M : Mem) : Nat → AV → List Nat
 | 0, _ => []
 | d + 1, .tl i _ _ => i :: match mlook M i with
   | some (.arr _ es _) => if es.all AV.norefs = true then [] else lendIss (lendI M d) es
   | _ => []
 | d + 1, .tv i _ _ _ _ => i :: match mlook M i with
   | some (.arr _ es _) => if es.all AV.norefs = true then [] else lendIss (lendI M d) es
   | _ => []
 | d + 1, .rf i _ => i :: match mlook M i with
   | some (.cells cs) => if AV.norefs cs = true then [] else lendIs (lendI M d) cs
   | _ => []
 | d + 1, .fn _ cs => if AV.norefs cs = true then [] else lendIs (lendI M d) cs
 | d + 1, .ag cs => if AV.norefs cs = true then [] else lendIs (lendI M d) cs
 | _ + 1, _ => []
section
variable {P : Program} {fr : Fr} {ro : Option Nat} {ds : DS} {st st' : St} {Q Q' : Exit → St → Prop} {G G' : Nat → Option Value} {F F' : Nat → Nat → Prop} {a : Act} {w w' : World} {x y c : Code}
 {M M' : Mem} {ops : Array Oper} {l rest : List Oper} {o : Oper} {id N : Nat} {rd : List Nat}
theorem lendIs_mem {f : AV → List Nat} {i : Nat} {v : AV} : ∀ {cs : List AV}, v ∈ cs → i ∈ f v → i ∈ lendIs f cs
 | c :: cs, h, hi => by
   simp only [lendIs, List.mem_append]
   rcases List.mem_cons.1 h with rfl | h
   ·exact .inl hi
   ·exact .inr (lendIs_mem h hi)
theorem lendIss_mem {f : AV → List Nat} {i : Nat} {v : List AV} : ∀ {cs : List (List AV)}, v ∈ cs → i ∈ lendIs f v → i ∈ lendIss f cs
 | c :: cs, h, hi => by
   simp only [lendIss, List.mem_append]
   rcases List.mem_cons.1 h with rfl | h
   ·exact .inl hi
   ·exact .inr (lendIss_mem h hi)
theorem lend_congr : ∀ (d : Nat) (v : AV), (∀ i ∈ lendI M d v, mlook M' i = mlook M i) → lendA M' d v = lendA M d v ∧ lendK M' d v = lendK M d v
 | 0, v, _ => ⟨rfl, rfl⟩
 | d + 1, v, h => by
   have cells : ∀ cs : List AV, (∀ i ∈ (if AV.norefs cs = true then [] else lendIs (lendI M d) cs), mlook M' i = mlook M i) → lendC (lendA M' d) cs = lendC (lendA M d) cs ∧ (AV.norefs cs || cs.all (lendK M' d)) = (AV.norefs cs || cs.all (lendK M d)) := fun cs hc => by
    unfold lendC
    by_cases hn : AV.norefs cs = true
    ·rw [if_pos hn, if_pos hn, hn]; exact ⟨rfl, rfl⟩
    ·rw [if_neg hn] at hc
     rw [if_neg hn, if_neg hn]
     have ih : ∀ c ∈ cs, lendA M' d c = lendA M d c ∧ lendK M' d c = lendK M d c := fun c hc' => lend_congr d c fun i hi => hc i (lendIs_mem hc' hi)
     refine ⟨List.map_congr_left fun c hc => (ih c hc).1, ?_⟩
     congr 1
     rw [Bool.eq_iff_iff, List.all_eq_true, List.all_eq_true]
     exact ⟨fun h c hc => by rw [← (ih c hc).2]; exact h c hc, fun h c hc => by rw [(ih c hc).2]; exact h c hc⟩
   have rows : ∀ es : List (List AV), (∀ i ∈ (if es.all AV.norefs = true then [] else lendIss (lendI M d) es), mlook M' i = mlook M i) → lendR (lendA M' d) es = lendR (lendA M d) es ∧ (es.all AV.norefs || es.all fun c => c.all (lendK M' d)) = (es.all AV.norefs || es.all fun c => c.all (lendK M d)) := fun es hc => by
    unfold lendR
    by_cases hn : es.all AV.norefs = true
    ·rw [if_pos hn, if_pos hn, hn]; exact ⟨rfl, rfl⟩
    ·rw [if_neg hn] at hc
     rw [if_neg hn, if_neg hn]
     have ih : ∀ r ∈ es, ∀ c ∈ r, lendA M' d c = lendA M d c ∧ lendK M' d c = lendK M d c := fun r hr c hc' => lend_congr d c fun i hi => hc i (lendIss_mem hr (lendIs_mem hc' hi))
     refine ⟨List.map_congr_left fun r hr => List.map_congr_left fun c hc => (ih r hr c hc).1, ?_⟩
     congr 1
     rw [Bool.eq_iff_iff, List.all_eq_true, List.all_eq_true]
     simp only [List.all_eq_true]
     exact ⟨fun h r hr c hc => by rw [← (ih r hr c hc).2]; exact h r hr c hc, fun h r hr c hc => by rw [(ih r hr c hc).2]; exact h r hr c hc⟩
   cases v with
   | tl i n b =>
     simp only [lendI, List.mem_cons, forall_eq_or_imp] at h
     obtain ⟨h1, h2⟩ := h
     simp only [lendA, lendK, h1]
     cases hM : mlook M i with
     | none => exact ⟨rfl, rfl⟩
     | some ob =>
       rw [hM] at h2
       cases ob with
       | arr esz es fz => obtain ⟨e1, e2⟩ := rows es h2; simp only; rw [e1, e2]; exact ⟨rfl, rfl⟩
       | _ => exact ⟨rfl, rfl⟩
   | tv i n off len cap =>
     simp only [lendI, List.mem_cons, forall_eq_or_imp] at h
     obtain ⟨h1, h2⟩ := h
     simp only [lendA, lendK, h1]
     cases hM : mlook M i with
     | none => exact ⟨rfl, rfl⟩
     | some ob =>
       rw [hM] at h2
       cases ob with
       | arr esz es fz => obtain ⟨e1, e2⟩ := rows es h2; simp only; rw [e1, e2]; exact ⟨rfl, rfl⟩
       | _ => exact ⟨rfl, rfl⟩
   | rf i off =>
     simp only [lendI, List.mem_cons, forall_eq_or_imp] at h
     obtain ⟨h1, h2⟩ := h
     simp only [lendA, lendK, h1]
     cases hM : mlook M i with
     | none => exact ⟨rfl, rfl⟩
     | some ob =>
       rw [hM] at h2
       cases ob with
       | cells cs => obtain ⟨e1, e2⟩ := cells cs h2; simp only; rw [e1, e2]; exact ⟨rfl, rfl⟩
       | _ => exact ⟨rfl, rfl⟩
   | fn f cs => obtain ⟨e1, e2⟩ := cells cs h; simp only [lendA, lendK]; rw [e1, e2]; exact ⟨rfl, rfl⟩
   | ag cs => obtain ⟨e1, e2⟩ := cells cs h; simp only [lendA, lendK]; rw [e1, e2]; exact ⟨rfl, rfl⟩
   | _ => exact ⟨rfl, rfl⟩
theorem lendR_len (f : AV → AV) (es : List (List AV)) : (lendR f es).length = es.length := by unfold lendR; split <;> simp
theorem lendC_len (f : AV → AV) (cs : List AV) : (lendC f cs).length = cs.length := by unfold lendC; split <;> simp
theorem RV.lendA {nx : Nat} (hm : SimM P G F M nx w) : ∀ (d : Nat) {v : Value} {y : AV}, RV G F M w v y → lendK M d y = true → Imm (Avl.lend G F M) w v (Avl.lendA M d y)
 | 0, v, y, h, hk => (h.imm_of hk).lend
 | d + 1, v, y, h, hk => by
   have cells : ∀ (vs : List Value) (cs : List AV), vs.length = cs.length → (∀ i (h1 : i < vs.length) (h2 : i < cs.length), RV G F M w vs[i] cs[i]) → (AV.norefs cs || cs.all (lendK M d)) = true →
     vs.length = (lendC (Avl.lendA M d) cs).length ∧ ∀ i (h1 : i < vs.length) (h2 : i < (lendC (Avl.lendA M d) cs).length), Imm (Avl.lend G F M) w vs[i] (lendC (Avl.lendA M d) cs)[i] := fun vs cs hl hr hc => by
    refine ⟨by rw [lendC_len]; exact hl, fun i h1 h2 => ?_⟩
    have h2' : i < cs.length := by rw [lendC_len] at h2; exact h2
    by_cases hn : AV.norefs cs = true
    ·simp only [lendC, if_pos hn]
     exact ((hr i h1 h2').imm_of (norefs_get _ hn i h2')).lend
    ·simp only [lendC, if_neg hn, List.getElem_map]
     have hn' : AV.norefs cs = false := by simpa using hn
     rw [hn', Bool.false_or, List.all_eq_true] at hc
     exact RV.lendA hm d (hr i h1 h2') (hc _ (List.getElem_mem h2'))
   have rows : ∀ (es : List (List AV)), (es.all AV.norefs || es.all fun c => c.all (lendK M d)) = true → ∀ i (hi : i < es.length), ∃ hi' : i < (lendR (Avl.lendA M d) es).length, (lendR (Avl.lendA M d) es)[i].length = es[i].length ∧
     ∀ j (hj : j < es[i].length) (hj' : j < (lendR (Avl.lendA M d) es)[i].length) (v : Value), RV G F M w v es[i][j] → Imm (Avl.lend G F M) w v (lendR (Avl.lendA M d) es)[i][j] := fun es hc i hi => by
    refine ⟨by rw [lendR_len]; exact hi, ?_⟩
    by_cases hn : es.all AV.norefs = true
    ·simp only [lendR, if_pos hn]
     exact ⟨trivial, fun j hj _ v hr => (hr.imm_of (all_norefs hn i j hi hj)).lend⟩
    ·simp only [lendR, if_neg hn, List.getElem_map, List.length_map]
     have hn' : es.all AV.norefs = false := by simpa using hn
     rw [hn', Bool.false_or, List.all_eq_true] at hc
     have hci := hc _ (List.getElem_mem hi)
     rw [List.all_eq_true] at hci
     exact ⟨trivial, fun j hj _ v hr => RV.lendA hm d hr (hci _ (List.getElem_mem hj))⟩
   cases y with
   | tl i n b =>
     simp only [lendK] at hk
     cases hM : mlook M i with
     | none => rw [hM] at hk; cases hk
     | some ob =>
       rw [hM] at hk
       cases ob with
       | arr esz es fz =>
         simp only [Bool.and_eq_true, decide_eq_true_eq] at hk
         obtain ⟨hnl, hc⟩ := hk
         simp only [Avl.lendA, hM]
         have hrows := rows es hc
         obtain ⟨_, hh⟩ := h.inv_tl
         obtain ⟨hG, hb⟩ := (hh _ _ _ hM).2 hnl
         rcases (hm.obj i _ hM).2 with ⟨h0, base, h1, hsp⟩ | ⟨b', c, cc, e, h1, h2, h3, h4, h5, h6, h7, h8, h9⟩
         ·rw [hG] at h1; cases h1
          subst h0
          have : lendR (Avl.lendA M d) [] = [] := rfl
          rw [this]
          cases base with
          | none => simp [isNilSlice] at hb; subst hb; exact .nil _ (.inl rfl)
          | some a => simp [isNilSlice] at hb; subst hb; exact .sz a .unk (.inl rfl)
         ·have hG1 := hG
          rw [hG] at h1; cases h1
          simp [isNilSlice] at hb; subst hb
          have hown : Owned G M b' := ⟨i, _, _, hM, hG1, by simp [blkOf, h2]⟩
          have hlen := lendR_len (Avl.lendA M d) es
          have := Imm.sl (F := Avl.lend G F M) (w := w) b' 0 c esz (lendR (Avl.lendA M d) es) .unk (fun i j => (cc[i * esz + j]?).getD undef) (by rw [hlen]; exact h4) (.inl rfl)
           (fun k hk => by rw [hlen] at hk; obtain ⟨_, q1, _⟩ := hrows k hk; rw [q1]; exact h6 k hk)
           (fun k j hk hj => by
            rw [hlen] at hk
            refine ⟨.inr hown, ?_⟩
            rw [cell?_block h3, Nat.zero_add]
            obtain ⟨v, hv, h1c, _⟩ := h7 k j hk (by rw [h6 k hk]; exact hj)
            rw [hv]; exact ⟨rfl, h1c⟩)
           (fun k j hk hj => by
            have hk' := hk
            rw [hlen] at hk'
            obtain ⟨_, q1, q2⟩ := hrows k hk'
            obtain ⟨v, hv, _, hr⟩ := h7 k j hk' (by rw [← q1]; exact hj)
            rw [hv]; exact q2 j (by rw [← q1]; exact hj) hj v hr)
          rw [hlen] at this
          exact this
       | _ => cases hk
   | tv i n off len cap =>
     simp only [lendK] at hk
     cases hM : mlook M i with
     | none => rw [hM] at hk; cases hk
     | some ob =>
       rw [hM] at hk
       cases ob with
       | arr esz es fz =>
         simp only [Bool.and_eq_true, decide_eq_true_eq] at hk
         obtain ⟨hnl, hc⟩ := hk
         simp only [Avl.lendA, hM]
         have hrows := rows es hc
         obtain ⟨_, hh⟩ := h.inv_tv
         obtain ⟨hol, b', c, hG, hc0, c', rfl, hlc, hcp⟩ := (hh _ _ _ hM).2 hnl
         rcases hc0 with hc0 | ⟨hc0, hc2, hc1⟩
         rotate_left
         ·subst hc2
          simp only [Value.slice.injEq] at hc1
          obtain ⟨_, rfl, rfl⟩ := hc1
          have : es = [] := List.length_eq_zero_iff.1 (by omega)
          subst this
          have e1 : tvEs (lendR (Avl.lendA M d) ([] : List (List AV))) n off 0 = [] := by unfold tvEs lendR; split <;> simp
          rw [e1]
          exact .sz _ _ (by simp [tvCap])
         rcases (hm.obj i _ hM).2 with ⟨h0, base, h1, hsp⟩ | ⟨b2, c2, cc, e, h1, h2, h3, h4, h5, h6, h7, h8, h9⟩
         ·rw [hG] at h1; cases h1; exact absurd rfl hc0
         ·have hown : Owned G M b' := ⟨i, _, _, hM, hG, by simp [blkOf, hc0]⟩
          rw [hG] at h1; cases h1
          have hnl' : es.length = (lendR (Avl.lendA M d) es).length := (lendR_len _ _).symm
          have hlen := tvEs_len hol hnl'
          have hget := tvEs_get hol hnl'
          have := Imm.sl (F := Avl.lend G F M) (w := w) b' (off * esz) c' esz (tvEs (lendR (Avl.lendA M d) es) es.length off len) (tvCap len cap) (fun i j => (cc[(off + i) * esz + j]?).getD undef) (by rw [hlen]; exact hlc)
           (by
            rcases hcp with rfl | rfl | ⟨rfl, _⟩
            ·exact .inl rfl
            ·simp only [tvCap]
             by_cases e : c' = len
             ·rw [if_pos e, hlen]; exact .inr (.inr (.inl ⟨rfl, e⟩))
             ·rw [if_neg e]; exact .inl rfl
            ·exact .inl rfl)
           (fun k hk => by
            rw [hget k hk]
            rw [hlen] at hk
            obtain ⟨_, q1, _⟩ := hrows (off + k) (by omega)
            rw [q1]; exact h6 _ _)
           (fun k j hk hj => by
            rw [hlen] at hk
            have hk2 : off + k < es.length := by omega
            rw [show off * esz + k * esz + j = (off + k) * esz + j by rw [Nat.add_mul]]
            refine ⟨.inr hown, ?_⟩
            rw [cell?_block h3]
            obtain ⟨v, hv, h1c, _⟩ := h7 (off + k) j hk2 (by rw [h6 _ hk2]; exact hj)
            rw [hv]; exact ⟨rfl, h1c⟩)
           (fun k j hk hj => by
            have hk' := hk
            rw [hlen] at hk'
            have hk2 : off + k < es.length := by omega
            simp only [hget k hk] at hj ⊢
            obtain ⟨_, q1, q2⟩ := hrows (off + k) hk2
            obtain ⟨v, hv, _, hr⟩ := h7 (off + k) j hk2 (by rw [← q1]; exact hj)
            rw [hv]; exact q2 j (by rw [← q1]; exact hj) hj v hr)
          rw [hlen] at this
          exact this
       | _ => cases hk
   | rf i off =>
     simp only [lendK] at hk
     cases hM : mlook M i with
     | none => rw [hM] at hk; cases hk
     | some ob =>
       rw [hM] at hk
       cases ob with
       | cells cs =>
         simp only [Avl.lendA, hM]
         obtain ⟨b, hG, rfl⟩ := h.inv_rf
         obtain ⟨b', cc, e, h1, h2, h3, h4, h5⟩ := (hm.obj i _ hM).2
         have hown : Owned G M b' := ⟨i, _, _, hM, h1, rfl⟩
         rw [hG] at h1; cases h1
         obtain ⟨q1, q2⟩ := cells cc.toList cs (by simpa using h3) (fun i h1 h2 => by simpa using h4 i (by simpa using h1) h2) hk
         refine .ia b off _ (fun j => (cc[off + j]?).getD undef) (fun j hj => ?_) (fun j hj => ?_)
         ·simp only [List.length_drop, ← q1, Array.length_toList] at hj
          refine ⟨.inr hown, ?_⟩
          rw [cell?_block h2, Array.getElem?_eq_getElem (by omega)]; rfl
         ·have hj' := hj
          simp only [List.length_drop, ← q1, Array.length_toList] at hj'
          have := q2 (off + j) (by simp; omega) (by rw [← q1]; simp; omega)
          simp only [List.getElem_drop]
          rw [Array.getElem?_eq_getElem (by omega)]
          simpa using this
       | _ => cases hk
   | fn f cs =>
     obtain ⟨vs, rfl, hl, hcs⟩ := h.inv_fn
     obtain ⟨q1, q2⟩ := cells vs cs hl hcs hk
     exact .fn f vs _ q1 q2
   | ag cs =>
     obtain ⟨vs, rfl, hl, hcs⟩ := h.inv_ag
     obtain ⟨q1, q2⟩ := cells vs cs hl hcs hk
     exact .ag vs _ q1 q2
   | _ => exact (h.imm_of hk).lend
def argsD (fr : Fr) (st : St) (d : Nat) (args : Array Operand) : List AV := args.toList.map fun x => lendA st.mem d (od fr st true x)
def argsK (fr : Fr) (st : St) (d : Nat) (args : Array Operand) : Bool := args.toList.all fun x => lendK st.mem d (od fr st true x)
def argsI (fr : Fr) (st : St) (d : Nat) : List Operand → List Nat
 | [] => []
 | x :: xs => odds (lendI st.mem d (od fr st true x)) ++ argsI fr st d xs
def rdL (fr : Fr) (st : St) (d : Nat) (gs : List Nat) (o : Oper) (args : Array Operand) : List Nat := gs ++ (opSlots o.op.operands.toList ++ argsI fr st d args.toList)
theorem argsI_mem {d : Nat} {x : Operand} {i : Nat} : ∀ {xs : List Operand}, x ∈ xs → i ∈ lendI st.mem d (od fr st true x) → 2 * i + 1 ∈ argsI fr st d xs
 | y :: xs, h, hi => by
   simp only [argsI, List.mem_append]
   rcases List.mem_cons.1 h with rfl | h
   ·exact .inl (odds_mem hi)
   ·exact .inr (argsI_mem h hi)
end
attribute [go_sem] lendC lendR lendA lendK lendIs lendIss lendI argsD argsK argsI rdL
end Go.Avl
namespace Go.Avl
open Go
def St.thaw (i : Nat) (st : St) : Option St :=
 match mlook st.mem i with
 | some (.arr esz [] _) => some ⟨st.vars, st.tmps, mset st.mem i (.arr esz [] false), st.nx⟩
 | _ => none
def St.snapE (j k : Nat) (st : St) : Option St :=
 match mlook st.mem j with
 | some (.arr esz es false) => match es[k]? with
   | some c => some ⟨st.vars, st.tmps, mset st.mem j (.arr esz (es.set k (c.map (AV.deep (snap st.mem)))) false), st.nx⟩
   | none => none
 | _ => none
section
variable {P : Program} {fr : Fr} {ro : Option Nat} {ds : DS} {st st' : St} {Q Q' : Exit → St → Prop} {G G' : Nat → Option Value} {F F' : Nat → Nat → Prop} {a : Act} {w w' : World} {x y c : Code} {M : Mem}
theorem simM_thaw {nx i esz : Nat} {fz : Bool} (hm : SimM P G F M nx w) (ho : mlook M i = some (.arr esz [] fz)) :
  SimM P G F (mset M i (.arr esz [] false)) nx w ∧ Step All G F M w G F (mset M i (.arr esz [] false)) w := by
 have hold := (hm.obj i _ ho).2
 have S : Step All G F M w G F (mset M i (.arr esz [] false)) w :=
  { kept := .refl
    size := Nat.le_refl _
    out := fun _ _ _ => rfl
    F1 := fun _ _ h => h
    F2 := fun _ _ _ => rfl
    F3 := fun b o h => .inl h
    own := fun b ⟨id, o, v, h3, h4, h5⟩ => by
     rw [mlook_mset] at h3
     by_cases hi : id = i
     ·subst hi; exact .inr ⟨id, _, v, ho, h4, h5⟩
     ·rw [if_neg hi] at h3; exact .inr ⟨id, o, v, h3, h4, h5⟩
    some' := fun _ _ h => h
    same := fun _ _ _ h _ => h
    keep := fun id o' _ hG h3 => by
     obtain ⟨v, hv⟩ := Option.ne_none_iff_exists'.1 hG
     rw [mlook_mset] at h3
     by_cases hi : id = i
     ·subst hi
      rw [if_pos rfl] at h3; cases h3
      exact ⟨_, v, v, ho, hv, hv, ⟨rfl, .inl ⟨rfl, rfl⟩⟩⟩
     ·rw [if_neg hi] at h3
      exact ⟨o', v, v, h3, hv, hv, objKeep.refl v o'⟩ }
 have hinj : ∀ id id' v v' b, mlook (mset M i (.arr esz [] false)) id ≠ none → mlook (mset M i (.arr esz [] false)) id' ≠ none → G id = some v → G id' = some v' → blkOf v = some b → blkOf v' = some b → id = id' := by
  intro id id' v v' b h1 h2
  refine hm.inj id id' v v' b ?_ ?_
  ·rw [mlook_mset] at h1; by_cases hi : id = i
   ·subst hi; rw [ho]; simp
   ·rwa [if_neg hi] at h1
  ·rw [mlook_mset] at h2; by_cases hi : id' = i
   ·subst hi; rw [ho]; simp
   ·rwa [if_neg hi] at h2
 refine ⟨simM_gen hm S (fun id o' h => ?_) hinj hm.inF, S⟩
 rw [mlook_mset] at h
 by_cases hi : id = i
 ·subst hi; rw [if_pos rfl] at h; cases h
  refine ⟨(hm.obj id _ ho).1, .inl ?_⟩
  rcases hold with h | ⟨b, c, cc, e, h1, h2, h3, h4, h5, h6, h7, h8, h9⟩
  ·exact .inl h
  ·exact .inr ⟨b, c, cc, e, h1, h2, h3, h4, h5, h6, fun k j hk => absurd hk (Nat.not_lt_zero _), fun o h => absurd (h8 o h).2 (by simp), fun h => (by cases h)⟩
 ·rw [if_neg hi] at h
  exact ⟨(hm.obj id _ h).1, .inr ⟨h, rfl, fun b v hG hb => ⟨rfl, fun _ h => h⟩⟩⟩
theorem SimA.thaw {i : Nat} (s : SimA P fr ds G F st a w) (h : st.thaw i = some st') : SimA P fr ds G F st' a w ∧ Step (· < fr.base) G F st.mem w G F st'.mem w := by
 unfold St.thaw at h
 split at h
 ·rename_i esz fz ho
  cases h
  obtain ⟨hm', S'⟩ := simM_thaw s.sim.mem ho
  exact ⟨⟨⟨hm', fun k => (s.sim.slots k).step S' (fun _ _ => trivial), s.sim.size⟩, s.fresh, s.defers⟩, S'.mono fun _ _ => trivial⟩
 ·cases h
theorem EvC.thaw (i : Nat) (h : st.thaw i = some st') (hc : EvC P fr ro ds c st' Q) : EvC P fr ro ds c st Q :=
 EvC.conv (fun _ _ _ _ s => let ⟨s', S'⟩ := s.thaw h; ⟨_, _, s', S'⟩) hc
theorem simM_snapE {nx j esz k : Nat} {es : List (List AV)} {c0 : List AV} (hm : SimM P G F M nx w) (ho : mlook M j = some (.arr esz es false)) (hk : es[k]? = some c0) :
  SimM P G F (mset M j (.arr esz (es.set k (c0.map (AV.deep (snap M)))) false)) nx w ∧ Step All G F M w G F (mset M j (.arr esz (es.set k (c0.map (AV.deep (snap M)))) false)) w := by
 obtain ⟨es', hes⟩ : ∃ es', es' = es.set k (c0.map (AV.deep (snap M))) := ⟨_, rfl⟩
 rw [← hes]
 have hle : es'.length = es.length := by rw [hes, List.length_set]
 have hold := (hm.obj j _ ho).2
 have S : Step All G F M w G F (mset M j (.arr esz es' false)) w :=
  { kept := .refl
    size := Nat.le_refl _
    out := fun _ _ _ => rfl
    F1 := fun _ _ h => h
    F2 := fun _ _ _ => rfl
    F3 := fun b o h => .inl h
    own := fun b ⟨id, o, v, h3, h4, h5⟩ => by
     rw [mlook_mset] at h3
     by_cases hi : id = j
     ·subst hi; exact .inr ⟨id, _, v, ho, h4, h5⟩
     ·rw [if_neg hi] at h3; exact .inr ⟨id, o, v, h3, h4, h5⟩
    some' := fun _ _ h => h
    same := fun _ _ _ h _ => h
    keep := fun id o' _ hG h3 => by
     obtain ⟨v, hv⟩ := Option.ne_none_iff_exists'.1 hG
     rw [mlook_mset] at h3
     by_cases hi : id = j
     ·subst hi
      rw [if_pos rfl] at h3; cases h3
      exact ⟨_, v, v, ho, hv, hv, ⟨rfl, .inl ⟨hle, rfl⟩⟩⟩
     ·rw [if_neg hi] at h3
      exact ⟨o', v, v, h3, hv, hv, objKeep.refl v o'⟩ }
 have hinj : ∀ id id' v v' b, mlook (mset M j (.arr esz es' false)) id ≠ none → mlook (mset M j (.arr esz es' false)) id' ≠ none → G id = some v → G id' = some v' → blkOf v = some b → blkOf v' = some b → id = id' := by
  intro id id' v v' b h1 h2
  refine hm.inj id id' v v' b ?_ ?_
  ·rw [mlook_mset] at h1; by_cases hi : id = j
   ·subst hi; rw [ho]; simp
   ·rwa [if_neg hi] at h1
  ·rw [mlook_mset] at h2; by_cases hi : id' = j
   ·subst hi; rw [ho]; simp
   ·rwa [if_neg hi] at h2
 refine ⟨simM_gen hm S (fun id o' h => ?_) hinj hm.inF, S⟩
 rw [mlook_mset] at h
 by_cases hi : id = j
 ·subst hi; rw [if_pos rfl] at h; cases h
  refine ⟨(hm.obj id _ ho).1, .inl ?_⟩
  have hkl : k < es.length := (List.getElem?_eq_some_iff.1 hk).1
  have hke : es[k] = c0 := by rw [List.getElem?_eq_getElem hkl] at hk; exact Option.some.inj hk
  rcases hold with ⟨h0, _⟩ | ⟨b, c, cc, e, h1, h2, h3, h4, h5, h6, h7, h8, h9⟩
  ·rw [h0] at hkl; exact absurd hkl (Nat.not_lt_zero _)
  ·refine .inr ⟨b, c, cc, e, by rw [hle]; exact h1, h2, h3, by rw [hle]; exact h4, h5, fun i hi' => ?_, fun i l hi' hl' => ?_, fun o h => absurd (h8 o h).1 (by simp), fun h => (by cases h)⟩
   ·have hi2 : i < es.length := by rw [← hle]; exact hi'
    simp only [hes, List.getElem_set]
    split
    ·rename_i e1; subst e1; rw [List.length_map, ← hke]; exact h6 _ hi2
    ·exact h6 _ hi2
   ·have hi2 : i < es.length := by rw [← hle]; exact hi'
    by_cases e1 : k = i
    ·subst e1
     have e2 : es'[k] = es[k].map (AV.deep (snap M)) := by simp [hes, hke]
     have hl2 : l < es[k].length := by rw [e2, List.length_map] at hl'; exact hl'
     obtain ⟨v, k1, k2, k3⟩ := h7 k l hi2 hl2
     refine ⟨v, k1, k2, ?_⟩
     have e3 : es'[k][l] = AV.deep (snap M) es[k][l] := by simp [e2]
     rw [e3]
     exact (k3.deep fun v y h => h.snap hm).step S fun _ _ => trivial
    ·have e2 : es'[i] = es[i] := by simp [hes, e1]
     have hl2 : l < es[i].length := by rw [e2] at hl'; exact hl'
     obtain ⟨v, k1, k2, k3⟩ := h7 i l hi2 hl2
     have e3 : es'[i][l] = es[i][l] := by simp [e2]
     exact ⟨v, k1, k2, by rw [e3]; exact k3.step S fun _ _ => trivial⟩
 ·rw [if_neg hi] at h
  exact ⟨(hm.obj id _ h).1, .inr ⟨h, rfl, fun b v hG hb => ⟨rfl, fun _ h => h⟩⟩⟩
theorem SimA.snapE {j k : Nat} (s : SimA P fr ds G F st a w) (h : st.snapE j k = some st') : SimA P fr ds G F st' a w ∧ Step (· < fr.base) G F st.mem w G F st'.mem w := by
 unfold St.snapE at h
 split at h
 ·rename_i esz es ho
  split at h
  ·rename_i c0 hk
   cases h
   obtain ⟨hm', S'⟩ := simM_snapE s.sim.mem ho hk
   exact ⟨⟨⟨hm', fun k => (s.sim.slots k).step S' (fun _ _ => trivial), s.sim.size⟩, s.fresh, s.defers⟩, S'.mono fun _ _ => trivial⟩
  ·cases h
 ·cases h
theorem EvC.snapE (j k : Nat) (h : st.snapE j k = some st') (hc : EvC P fr ro ds c st' Q) : EvC P fr ro ds c st Q :=
 EvC.conv (fun _ _ _ _ s => let ⟨s', S'⟩ := s.snapE h; ⟨_, _, s', S'⟩) hc
end
attribute [go_sem] St.snapE
attribute [go_sem] St.thaw
end Go.Avl
namespace Go.Avl
open Go
def msegA : Nat → List RObj → Mem
 | _, [] => []
 | b, o :: r => (b, o) :: msegA (b + 1) r
def mseg (l : List RObj) : Mem := msegA 0 l
theorem mlook_msegA : ∀ (l : List RObj) (b i : Nat), mlook (msegA b l) i = if b ≤ i then l[i - b]? else none
 | [], b, i => by simp [msegA, mlook]
 | o :: r, b, i => by
   simp only [msegA, mlook]
   by_cases h : i = b
   ·subst h; simp
   ·rw [if_neg h, mlook_msegA r (b + 1) i]
    by_cases h2 : b ≤ i
    ·rw [if_pos (by omega), if_pos h2, show i - b = (i - (b + 1)) + 1 by omega]; rfl
    ·rw [if_neg (by omega), if_neg h2]
theorem mlook_mseg (l : List RObj) (i : Nat) : mlook (mseg l) i = l[i]? := by rw [mseg, mlook_msegA, if_pos (Nat.zero_le _), Nat.sub_zero]
theorem mset_msegA : ∀ (l : List RObj) (b i : Nat) (o : RObj), b ≤ i → i < b + l.length → mset (msegA b l) i o = msegA b (l.set (i - b) o)
 | [], b, i, o, h1, h2 => by simp at h2; omega
 | x :: r, b, i, o, h1, h2 => by
   simp only [msegA, mset]
   by_cases h : i = b
   ·subst h; simp [msegA]
   ·rw [if_neg h, mset_msegA r (b + 1) i o (by omega) (by simp at h2; omega), show i - b = (i - (b + 1)) + 1 by omega]; rfl
theorem msegA_append : ∀ (l r : List RObj) (b : Nat), msegA b (l ++ r) = msegA b l ++ msegA (b + l.length) r
 | [], r, b => by simp [msegA]
 | x :: l, r, b => by simp only [List.cons_append, msegA, msegA_append l r (b + 1), List.length_cons]; rw [show b + 1 + l.length = b + (l.length + 1) by omega]
def idK (n : Nat) : List (Nat × Nat) := (List.range n).map fun i => (i, i)
def segK (A : List (Nat × Nat)) (n : Nat) (B : List (Nat × Nat)) : List (Nat × Nat) := A ++ (idK n ++ B)
theorem rlook_append (A B : List (Nat × Nat)) (k : Nat) : rlook (A ++ B) k = (rlook A k).or (rlook B k) := by
 induction A with
 | nil => simp [rlook]
 | cons p A ih =>
   obtain ⟨i, j⟩ := p
   simp only [List.cons_append, rlook]
   split
   ·rfl
   ·exact ih
theorem blook_append (A B : List (Nat × Nat)) (k : Nat) : blook (A ++ B) k = (blook A k).or (blook B k) := by
 induction A with
 | nil => simp [blook]
 | cons p A ih =>
   obtain ⟨i, j⟩ := p
   simp only [List.cons_append, blook]
   split
   ·rfl
   ·exact ih
theorem renMem_append (M : Mem) (K : List (Nat × Nat)) : ∀ (A B : List (Nat × Nat)), renMem M K (A ++ B) = renMem M K A ++ renMem M K B
 | [], B => rfl
 | (i, j) :: A, B => by
   simp only [List.cons_append, renMem, renMem_append M K A B]
   split <;> simp
theorem renMem_segK (M : Mem) (A B : List (Nat × Nat)) (n : Nat) : renMem M (segK A n B) (segK A n B) = renMem M (segK A n B) A ++ (renMem M (segK A n B) (idK n) ++ renMem M (segK A n B) B) := by
 conv => lhs; arg 3; rw [segK]
 rw [renMem_append, renMem_append]
theorem renMem_congr {M M' : Mem} (K : List (Nat × Nat)) : ∀ {K' : List (Nat × Nat)}, (∀ p ∈ K', mlook M p.1 = mlook M' p.1) → renMem M K K' = renMem M' K K'
 | [], _ => rfl
 | (i, j) :: K', h => by
   simp only [renMem]
   rw [h (i, j) List.mem_cons_self, renMem_congr K fun p hp => h p (List.mem_cons_of_mem _ hp)]
theorem gcOk_append {base nx : Nat} : ∀ {A B : List (Nat × Nat)}, gcOk base nx A = true → gcOk base nx B = true → (∀ p ∈ A, blook B p.2 = none ∧ rlook B p.1 = none) → gcOk base nx (A ++ B) = true
 | [], B, _, h, _ => h
 | (i, j) :: A, B, h1, h2, h3 => by
   simp only [gcOk, Bool.and_eq_true, beq_iff_eq] at h1
   have h4 := h3 (i, j) List.mem_cons_self
   simp only [List.cons_append, gcOk, Bool.and_eq_true, beq_iff_eq]
   refine ⟨⟨⟨h1.1.1.1, ?_⟩, ?_⟩, gcOk_append h1.2 h2 fun p hp => h3 p (List.mem_cons_of_mem _ hp)⟩
   ·rw [blook_append, h1.1.1.2, h4.1]; rfl
   ·rw [rlook_append, h1.1.2, h4.2]; rfl
def RObj.fzn : RObj → RObj
 | .arr esz es _ => .arr esz es true
 | o => o
def St.snapA (j : Nat) (st : St) : Option St :=
 match mlook st.mem j with
 | some (.arr esz es false) => some ⟨st.vars, st.tmps, mset st.mem j (.arr esz (es.map fun c => c.map (AV.deep (snap st.mem))) false), st.nx⟩
 | _ => none
section
variable {P : Program} {fr : Fr} {ro : Option Nat} {ds : DS} {st st' : St} {Q Q' : Exit → St → Prop} {G G' : Nat → Option Value} {F F' : Nat → Nat → Prop} {a : Act} {w w' : World} {x y c : Code} {M : Mem}
theorem simM_snapA {nx j esz : Nat} {es : List (List AV)} (hm : SimM P G F M nx w) (ho : mlook M j = some (.arr esz es false)) :
  SimM P G F (mset M j (.arr esz (es.map fun c => c.map (AV.deep (snap M))) false)) nx w ∧ Step All G F M w G F (mset M j (.arr esz (es.map fun c => c.map (AV.deep (snap M))) false)) w := by
 obtain ⟨es', hes⟩ : ∃ es', es' = es.map fun c => c.map (AV.deep (snap M)) := ⟨_, rfl⟩
 rw [← hes]
 have hle : es'.length = es.length := by rw [hes, List.length_map]
 have hold := (hm.obj j _ ho).2
 have S : Step All G F M w G F (mset M j (.arr esz es' false)) w :=
  { kept := .refl
    size := Nat.le_refl _
    out := fun _ _ _ => rfl
    F1 := fun _ _ h => h
    F2 := fun _ _ _ => rfl
    F3 := fun b o h => .inl h
    own := fun b ⟨id, o, v, h3, h4, h5⟩ => by
     rw [mlook_mset] at h3
     by_cases hi : id = j
     ·subst hi; exact .inr ⟨id, _, v, ho, h4, h5⟩
     ·rw [if_neg hi] at h3; exact .inr ⟨id, o, v, h3, h4, h5⟩
    some' := fun _ _ h => h
    same := fun _ _ _ h _ => h
    keep := fun id o' _ hG h3 => by
     obtain ⟨v, hv⟩ := Option.ne_none_iff_exists'.1 hG
     rw [mlook_mset] at h3
     by_cases hi : id = j
     ·subst hi
      rw [if_pos rfl] at h3; cases h3
      exact ⟨_, v, v, ho, hv, hv, ⟨rfl, .inl ⟨hle, rfl⟩⟩⟩
     ·rw [if_neg hi] at h3
      exact ⟨o', v, v, h3, hv, hv, objKeep.refl v o'⟩ }
 have hinj : ∀ id id' v v' b, mlook (mset M j (.arr esz es' false)) id ≠ none → mlook (mset M j (.arr esz es' false)) id' ≠ none → G id = some v → G id' = some v' → blkOf v = some b → blkOf v' = some b → id = id' := by
  intro id id' v v' b h1 h2
  refine hm.inj id id' v v' b ?_ ?_
  ·rw [mlook_mset] at h1; by_cases hi : id = j
   ·subst hi; rw [ho]; simp
   ·rwa [if_neg hi] at h1
  ·rw [mlook_mset] at h2; by_cases hi : id' = j
   ·subst hi; rw [ho]; simp
   ·rwa [if_neg hi] at h2
 refine ⟨simM_gen hm S (fun id o' h => ?_) hinj hm.inF, S⟩
 rw [mlook_mset] at h
 by_cases hi : id = j
 ·subst hi; rw [if_pos rfl] at h; cases h
  refine ⟨(hm.obj id _ ho).1, .inl ?_⟩
  rcases hold with ⟨h0, h0'⟩ | ⟨b, c, cc, e, h1, h2, h3, h4, h5, h6, h7, h8, h9⟩
  ·exact .inl ⟨by rw [hes, h0]; rfl, h0'⟩
  ·refine .inr ⟨b, c, cc, e, by rw [hle]; exact h1, h2, h3, by rw [hle]; exact h4, h5, fun i hi' => ?_, fun i l hi' hl' => ?_, fun o h => absurd (h8 o h).1 (by simp), fun h => (by cases h)⟩
   ·have hi2 : i < es.length := by rw [← hle]; exact hi'
    simp only [hes, List.getElem_map, List.length_map]
    exact h6 _ hi2
   ·have hi2 : i < es.length := by rw [← hle]; exact hi'
    have e2 : es'[i] = es[i].map (AV.deep (snap M)) := by simp [hes]
    have hl2 : l < es[i].length := by rw [e2, List.length_map] at hl'; exact hl'
    obtain ⟨v, k1, k2, k3⟩ := h7 i l hi2 hl2
    refine ⟨v, k1, k2, ?_⟩
    have e3 : es'[i][l] = AV.deep (snap M) es[i][l] := by simp [e2]
    rw [e3]
    exact (k3.deep fun v y h => h.snap hm).step S fun _ _ => trivial
 ·rw [if_neg hi] at h
  exact ⟨(hm.obj id _ h).1, .inr ⟨h, rfl, fun b v hG hb => ⟨rfl, fun _ h => h⟩⟩⟩
theorem SimA.snapA {j : Nat} (s : SimA P fr ds G F st a w) (h : st.snapA j = some st') : SimA P fr ds G F st' a w ∧ Step (· < fr.base) G F st.mem w G F st'.mem w := by
 unfold St.snapA at h
 split at h
 ·rename_i esz es ho
  cases h
  obtain ⟨hm', S'⟩ := simM_snapA s.sim.mem ho
  exact ⟨⟨⟨hm', fun k => (s.sim.slots k).step S' (fun _ _ => trivial), s.sim.size⟩, s.fresh, s.defers⟩, S'.mono fun _ _ => trivial⟩
 ·cases h
theorem EvC.snapA (j : Nat) (h : st.snapA j = some st') (hc : EvC P fr ro ds c st' Q) : EvC P fr ro ds c st Q :=
 EvC.conv (fun _ _ _ _ s => let ⟨s', S'⟩ := s.snapA h; ⟨_, _, s', S'⟩) hc
end
attribute [go_sem] St.snapA mlook_mseg renMem_segK
end Go.Avl
namespace Go.Avl
open Go
def slotsOf (ops : List It) (o : Oper) : List Nat := opSlots o.op.operands.toList ++ match o.guard with
 | some (j, _) => match ops[j]? with
   | some u => match u.o.dst with
     | some k => [2 * k]
     | none => []
   | none => []
 | none => []
def dstC (o : Oper) : List Nat := match o.dst with
 | some k => [2 * k]
 | none => []
def rdOk (ops : List It) (t : It) : Bool := t.rd.all fun x => (x % 2 == 1 && !memless t.o.op) || (slotsOf ops t.o).contains x
def confT (ops : List It) (i : Nat) (t : It) : Nat → List It → Bool
 | _, [] => true
 | m, u :: l => (i == m || (depsOf t.o).contains m || (depsOf u.o).contains i || (!((slotsOf ops t.o ++ dstC t.o).any fun x => (dstC u.o).contains x) && !((!memless t.o.op || t.r.fx.isSome) && u.r.fx.isSome))) && confT ops i t (m + 1) l
def confS (all : List It) : Nat → List It → Bool
 | _, [] => true
 | i, t :: l => (depsOf t.o).all (fun e => decide (e < i)) && confT all i t 0 all && confS all (i + 1) l
theorem confT_spec {all : List It} {i : Nat} {t : It} : ∀ (l : List It) (m0 : Nat), confT all i t m0 l = true → ∀ m u, l[m]? = some u → i = m0 + m ∨ m0 + m ∈ depsOf t.o ∨ i ∈ depsOf u.o ∨ ((∀ x, x ∈ slotsOf all t.o ∨ x ∈ dstC t.o → x ∉ dstC u.o) ∧ (memless t.o.op = true ∧ t.r.fx = none ∨ u.r.fx = none)) := by
 intro l
 induction l with
 | nil => intro m0 _ m u hm; simp at hm
 | cons u0 l ih =>
   intro m0 h m u hm
   simp only [confT, Bool.and_eq_true] at h
   cases m with
   | zero =>
     have e : u0 = u := by simpa using hm
     subst e
     have h1 := h.1
     simp only [Bool.or_eq_true, beq_iff_eq, List.contains_iff_mem, Bool.and_eq_true, Bool.not_eq_true', List.any_eq_false, List.mem_append] at h1
     rcases h1 with ((h1 | h1) | h1) | h1
     ·exact .inl h1
     ·exact .inr (.inl h1)
     ·exact .inr (.inr (.inl h1))
     ·refine .inr (.inr (.inr ⟨fun x hx hm => h1.1 x hx (by simpa using hm), ?_⟩))
      have h2 := h1.2
      cases hu : u0.r.fx with
      | none => exact .inr rfl
      | some p =>
        left
        rw [hu] at h2
        cases ht : t.r.fx with
        | none => rw [ht] at h2; simp at h2; exact ⟨h2, rfl⟩
        | some q => rw [ht] at h2; simp at h2
   | succ m =>
     have := ih (m0 + 1) h.2 m u (by simpa using hm)
     rwa [show m0 + 1 + m = m0 + (m + 1) by omega] at this
theorem confS_spec {all : List It} : ∀ (l : List It) (i0 : Nat), confS all i0 l = true → ∀ i t, l[i]? = some t → (∀ e ∈ depsOf t.o, e < i0 + i) ∧ confT all (i0 + i) t 0 all = true := by
 intro l
 induction l with
 | nil => intro i0 _ i t hi; simp at hi
 | cons t0 l ih =>
   intro i0 h i t hi
   simp only [confS, Bool.and_eq_true] at h
   cases i with
   | zero =>
     have e : t0 = t := by simpa using hi
     subst e
     refine ⟨fun e he => ?_, h.1.2⟩
     have := h.1.1
     rw [List.all_eq_true] at this
     simpa using this e he
   | succ i =>
     have := ih (i0 + 1) h.2 i t (by simpa using hi)
     rwa [show i0 + 1 + i = i0 + (i + 1) by omega] at this
theorem wl_split {d : Option Nat} {r : Rc} {x : Nat} (h : x ∈ wl d r) : (d.isSome = true ∧ x ∈ (match d with | some k => [2 * k] | none => [])) ∨ (x % 2 = 1 ∧ r.fx ≠ none) := by
 unfold wl at h
 rcases List.mem_append.1 h with h | h
 ·cases d with
  | none => cases h
  | some k => exact .inl ⟨rfl, h⟩
 ·right
  cases hf : r.fx with
  | none => rw [hf] at h; cases h
  | some p => rw [hf] at h; simp at h; exact ⟨by omega, by simp⟩
theorem Conf.ofS {l : List It} (h1 : l.all (rdOk l) = true) (h2 : confS l 0 l = true) : Conf l where
 back := fun i t hi e he => by have := (confS_spec l 0 h2 i t hi).1 e he; omega
 edge := fun i m t u hi hm hne x hx hu => by
  have h3 := (confS_spec l 0 h2 i t hi).2
  rw [Nat.zero_add] at h3
  have h4 := confT_spec l 0 h3 m u hm
  rw [Nat.zero_add] at h4
  rcases h4 with h4 | h4 | h4 | ⟨h4, h5⟩
  ·exact absurd h4 hne
  ·exact .inl h4
  ·exact .inr h4
  ·exfalso
   rw [List.all_eq_true] at h1
   have h6 := h1 t (List.mem_of_getElem? hi)
   unfold rdOk at h6
   rw [List.all_eq_true] at h6
   have hd : ∀ {o : Oper} {r : Rc}, x ∈ wl o.dst r → x ∈ dstC o ∨ (x % 2 = 1 ∧ r.fx ≠ none) := fun {o r} h => by
    rcases wl_split h with h | h
    ·exact .inl h.2
    ·exact .inr h
   have he : ∀ {o : Oper}, x ∈ dstC o → x % 2 = 0 := fun {o} h => by
    unfold dstC at h
    split at h
    ·simp at h; omega
    ·cases h
   rcases hd hu with hu | ⟨hu1, hu2⟩
   ·have hev := he hu
    rcases hx with hx | hx
    ·have := h6 x hx
     simp only [Bool.or_eq_true, Bool.and_eq_true, beq_iff_eq, List.contains_iff_mem] at this
     rcases this with h | h
     ·omega
     ·exact h4 x (.inl h) hu
    ·rcases hd hx with hx | ⟨h, _⟩
     ·exact h4 x (.inr hx) hu
     ·omega
   ·rcases h5 with ⟨h5, h5'⟩ | h5
    ·rcases hx with hx | hx
     ·have := h6 x hx
      simp only [Bool.or_eq_true, Bool.and_eq_true, beq_iff_eq, List.contains_iff_mem, h5, Bool.not_true, Bool.false_eq_true, and_false, false_or] at this
      have hs : ∀ y ∈ slotsOf l t.o, y % 2 = 0 := fun y hy => by
       unfold slotsOf at hy
       rcases List.mem_append.1 hy with hy | hy
       ·have hos : ∀ xs : List Operand, ∀ y ∈ opSlots xs, y % 2 = 0 := by
          intro xs
          induction xs with
          | nil => intro y hy; simp [opSlots] at hy
          | cons z xs ih =>
            intro y hy
            cases z with
            | tmp t =>
              simp only [opSlots, List.mem_cons] at hy
              rcases hy with hy | hy
              ·omega
              ·exact ih y hy
            | const v => exact ih y (by simpa only [opSlots] using hy)
            | global g => exact ih y (by simpa only [opSlots] using hy)
            | func f => exact ih y (by simpa only [opSlots] using hy)
        exact hos _ y hy
       ·split at hy
        ·split at hy
         ·split at hy
          ·simp at hy; omega
          ·cases hy
         ·cases hy
        ·cases hy
      have := hs x this
      omega
     ·rcases hd hx with hx | ⟨_, h⟩
      ·have := he hx; omega
      ·exact h h5'
    ·exact hu2 h5
theorem confOne_of {i : Nat} {t : It} {all : List It} (hc : Conf all) (hi : all[i]? = some t) : ∀ (l : List It) (m0 : Nat), (∀ m u, l[m]? = some u → all[m0 + m]? = some u) → confOne i t m0 l = true
 | [], _, _ => rfl
 | u :: l, m0, h => by
   simp only [confOne, Bool.and_eq_true]
   refine ⟨?_, confOne_of hc hi l (m0 + 1) fun m u hm => by rw [show m0 + 1 + m = m0 + (m + 1) by omega]; exact h (m + 1) u (by simpa using hm)⟩
   have hu := h 0 u (by simp)
   rw [Nat.add_zero] at hu
   by_cases e : i = m0
   ·simp [e]
   by_cases hx : ((t.rd ++ wl t.o.dst t.r).any fun x => (wl u.o.dst u.r).contains x) = true
   ·rw [List.any_eq_true] at hx
    obtain ⟨x, h1, h2⟩ := hx
    rcases hc.edge i m0 t u hi hu e x (List.mem_append.1 h1) (by simpa using h2) with h | h
    ·simp [h]
    ·simp [h]
   ·simp only [Bool.not_eq_true] at hx
    rw [hx]; simp
theorem confAll_of' {all : List It} (hc : Conf all) : ∀ (l : List It) (i0 : Nat), (∀ i t, l[i]? = some t → all[i0 + i]? = some t) → confAll all i0 l = true
 | [], _, _ => rfl
 | t :: l, i0, h => by
   have ht := h 0 t (by simp)
   rw [Nat.add_zero] at ht
   simp only [confAll, Bool.and_eq_true]
   refine ⟨⟨?_, confOne_of hc ht all 0 fun m u hm => by rw [Nat.zero_add]; exact hm⟩, confAll_of' hc l (i0 + 1) fun i t hi => by rw [show i0 + 1 + i = i0 + (i + 1) by omega]; exact h (i + 1) t (by simpa using hi)⟩
   rw [List.all_eq_true]
   intro e he
   simpa using hc.back i0 t ht e he
theorem confAll_slots {l : List It} (h1 : l.all (rdOk l) = true) (h2 : confS l 0 l = true) : confAll l 0 l = true :=
 confAll_of' (Conf.ofS h1 h2) l 0 fun i t h => by rw [Nat.zero_add]; exact h
end Go.Avl
namespace Go.Avl
open Go
section
variable {α : Type}
def upd1 (f : Nat → α) (t : Nat) (x : α) : Nat → α := fun k => if k = t then x else f k
def upd2 (W : Nat → Nat → α) (s t : Nat) (x : α) : Nat → Nat → α := fun a b => if a = s ∧ b = t then x else W a b
def gcells (C : α → List AV) (f : Nat → α) (m : Nat) : List (List AV) := (List.range m).map fun t => C (f t)
theorem gcells_len (C : α → List AV) (f : Nat → α) (m : Nat) : (gcells C f m).length = m := by simp [gcells]
theorem gcells_get (C : α → List AV) (f : Nat → α) {m t : Nat} (h : t < m) : (gcells C f m)[t]? = some (C (f t)) := by rw [gcells, List.getElem?_map, List.getElem?_range h]; rfl
theorem gcells_norefs {C : α → List AV} (hC : ∀ x, AV.norefs (C x) = true) (f : Nat → α) (m : Nat) : (gcells C f m).all AV.norefs = true := by simp [List.all_eq_true, gcells, hC]
theorem gcells_const (C : α → List AV) (x : α) (m : Nat) : List.replicate m (C x) = gcells C (fun _ => x) m :=
 List.ext_getElem (by simp [gcells]) fun i h1 h2 => by simp [gcells]
theorem gcells_congr (C : α → List AV) {f g : Nat → α} {m : Nat} (h : ∀ t, t < m → f t = g t) : gcells C f m = gcells C g m :=
 List.map_congr_left fun t ht => by rw [h t (List.mem_range.1 ht)]
theorem range_set {β : Type} (f : Nat → β) {n s : Nat} (x : β) (h : s < n) : ((List.range n).map f).set s x = (List.range n).map fun i => if i = s then x else f i := by
 refine List.ext_getElem (by simp) fun i h1 h2 => ?_
 simp only [List.getElem_set, List.getElem_map, List.getElem_range]
 by_cases e : s = i
 ·subst e; simp
 ·rw [if_neg e, if_neg (Ne.symm e)]
theorem gcells_set (C : α → List AV) (f : Nat → α) {m t : Nat} (x : α) (h : t < m) : (gcells C f m).set t (C x) = gcells C (upd1 f t x) m := by
 rw [gcells, range_set _ _ h, gcells]
 refine List.map_congr_left fun k _ => ?_
 by_cases e : k = t
 ·subst e; simp [upd1]
 ·simp [upd1, e]
def grow (e : Nat) (C : α → List AV) (W : Nat → Nat → α) (m s : Nat) : RObj := .arr e (gcells C (W s) m) false
end
end Go.Avl
namespace Go.Avl
open Go
def retB (P : Program) (fr : Fr) (results : List ResultVar) (R : AV → Mem → Nat → Prop) : Exit → St → Prop :=
 fun e st => (e = .ret ∨ e = .normal) ∧ ∃ rs, resAllR P fr st results = some rs ∧ R (mkRes rs) st.mem st.nx
def BodyIs (P : Program) (f : FuncId) (args : List AV) (M : Mem) (nx : Nat) (R : AV → Mem → Nat → Prop) : Prop :=
 ∃ fn c nv hid, P.funcs[f]? = some fn ∧ fn.body = some c ∧ (fn.name == "runtime.NumGoroutine") = false ∧ args.length ≤ fn.ntmps ∧
   ∀ h0 : Nat, EvC P ⟨nx, nv, hid, fn.ntmps⟩ none ⟨h0, none, false⟩ c ⟨vars0 0 args, [], M, nx⟩ (retB P ⟨nx, nv, hid, fn.ntmps⟩ fn.results.toList R)
section
variable {P : Program} {fr : Fr} {ro : Option Nat} {ds : DS} {st st' : St} {Q Q' : Exit → St → Prop} {c : Code} {M : Mem} {ops : Array Oper} {l rest : List Oper} {o : Oper}
theorem BodyIs.of {f : FuncId} {fn : Func} {args : List AV} {nx nv : Nat} {hid : List Nat} {R : AV → Mem → Nat → Prop} (hf : P.funcs[f]? = some fn) (hb : fn.body = some c) (hnm : (fn.name == "runtime.NumGoroutine") = false) (hsz : args.length ≤ fn.ntmps)
  (h : ∀ h0 : Nat, EvC P ⟨nx, nv, hid, fn.ntmps⟩ none ⟨h0, none, false⟩ c ⟨vars0 0 args, [], M, nx⟩ (retB P ⟨nx, nv, hid, fn.ntmps⟩ fn.results.toList R)) : BodyIs P f args M nx R :=
 ⟨fn, c, nv, hid, hf, hb, hnm, hsz, h⟩
theorem BodyIs.mono {f : FuncId} {args : List AV} {nx : Nat} {R R' : AV → Mem → Nat → Prop} (h : BodyIs P f args M nx R) (hr : ∀ r M nx, R r M nx → R' r M nx) : BodyIs P f args M nx R' := by
 obtain ⟨fn, c, nv, hid, h1, h2, h3, h4, h5⟩ := h
 exact ⟨fn, c, nv, hid, h1, h2, h3, h4, fun h0 => (h5 h0).mono fun e st ⟨k1, rs, k2, k3⟩ => ⟨k1, rs, k2, hr _ _ _ k3⟩⟩
theorem XR.callI {f : FuncId} {cs : List AV} {callee : Operand} {args : Array Operand} {tys : Array TypeId} {xs : List AV} (hg : o.guard = none) (hop : o.op = .call ⟨.value callee, args, tys⟩) (hd : dok fr o.dst = true)
  (hcal : od fr st true callee = .fn f cs) (hxs : bodyArgs fr st args ++ cs = xs)
  (hb : BodyIs P f xs st.mem st.nx fun r M' nx' => XR P fr ro ds ops rest ((⟨st.vars, st.tmps, M', nx'⟩ : St).put fr o.dst r) Q) : XR P fr ro ds ops (o :: rest) st Q := by
 obtain ⟨fn, c, nv, hid, h1, h2, h3, h4, h5⟩ := hb
 exact XR.callB nv hid hg hop hd hcal hxs h1 h2 h3 h4 fun h0 => (h5 h0).mono fun e st ⟨k1, rs, k2, k3⟩ => ⟨k1, rs, k2, k3⟩
end
attribute [go_sem] resAllR resOneR bodyArgs
end Go.Avl
namespace Go.Avl
open Go
def tvOf (M : Mem) (i : Nat) : AV → AV
 | .tl j n b => if j = i ∧ n ≠ 0 then match mlook M i with
   | some (.arr _ es _) => if n = es.length then .tv i n 0 n .rest else .tl j n b
   | _ => .tl j n b else .tl j n b
 | v => v
def St.toTv (i : Nat) (st : St) : St := ⟨st.vars, st.tmps, memMap (tvOf st.mem i) st.mem, st.nx⟩
section
variable {P : Program} {fr : Fr} {ro : Option Nat} {ds : DS} {st st' : St} {Q Q' : Exit → St → Prop} {G G' : Nat → Option Value} {F F' : Nat → Nat → Prop} {a : Act} {w w' : World} {c : Code}
theorem tvOf_rv {M : Mem} {nx i : Nat} (hm : SimM P G F M nx w) {v : Value} {y : AV} (h : RV G F M w v y) : RV G F M w v (tvOf M i y) := by
 unfold tvOf
 split
 ·rename_i j n b
  split
  ·rename_i hj
   obtain ⟨rfl, h0⟩ := hj
   split
   ·rename_i esz es fz ho
    split
    ·rename_i hn
     exact h.tl_tv hm ho hn h0
    ·exact h
   ·exact h
  ·exact h
 ·exact h
theorem EvC.toTv (i : Nat) (hc : EvC P fr ro ds c (st.toTv i) Q) : EvC P fr ro ds c st Q :=
 EvC.conv (fun _ F _ _ s => let ⟨s', S'⟩ := s.memMap (f := tvOf st.mem i) fun _ _ h => tvOf_rv s.sim.mem h; ⟨_, F, s', S'⟩) hc
theorem EvC.mergeS {α : Type} (sh : α → St) (ok : α → Prop) (L : List Nat) (nx : Nat) {c rest : Code} (h1 : EvC P fr ro ds c st (fun e st' => e = .normal ∧ ∃ (K : List (Nat × Nat)) (a : α), gcOk fr.base nx K = true ∧ st'.gc L K nx = sh a ∧ ok a))
  (h2 : ∀ a, ok a → EvC P fr ro ds rest (sh a) Q) : EvC P fr ro ds (.seq c rest) st Q :=
 .seq (h1.mono fun e st' ⟨he, K, a, hk, hs, ha⟩ => by
  subst he
  show EvC P fr ro ds rest st' Q
  exact .gc L K nx hk (by rw [hs]; exact h2 a ha))
theorem EvC.mergeC {α : Type} (sh : α → St) (ok : α → Prop) {c rest : Code} (h1 : EvC P fr ro ds c st (fun e st' => e = .normal ∧ ∃ a : α, ok a ∧ ∀ (c : Code) (Q : Exit → St → Prop), EvC P fr ro ds c (sh a) Q → EvC P fr ro ds c st' Q))
  (h2 : ∀ a, ok a → EvC P fr ro ds rest (sh a) Q) : EvC P fr ro ds (.seq c rest) st Q :=
 .seq (h1.mono fun e st' ⟨he, a, ha, hc⟩ => by
  subst he
  exact hc _ _ (h2 a ha))
theorem EvC.gcE {c : Code} {Q : Exit → St → Prop} (L : List Nat) (K : List (Nat × Nat)) (nx : Nat) {st2 : St} (hk : gcOk fr.base nx K = true) (he : st.gc L K nx = st2) (h : EvC P fr ro ds c st2 Q) : EvC P fr ro ds c st Q := .gc L K nx hk (by rw [he]; exact h)
end
attribute [go_sem] St.toTv tvOf
end Go.Avl
namespace Go.Avl
open Go
def newRes (F : Nat → Nat → Prop) (w : World) (esz : Nat) (es : List (List AV)) (e : Ending) (w' : World) : Prop :=
 ∃ (b c : Nat) (cc : Array Value) (elem : TypeId) (F' : Nat → Nat → Prop), e = .returned (.slice (some ⟨b, 0, none⟩) es.length c) ∧ c ≠ 0 ∧ w.heap.size ≤ b ∧ w'.heap[b]? = some (.cells cc elem (0, 0)) ∧ es.length ≤ c ∧ cc.size = c * esz ∧
   (∀ i (h : i < es.length), es[i].length = esz) ∧ (∀ i j (h : i < es.length) (h' : j < es[i].length), ∃ v, cc[i * esz + j]? = some v ∧ v.oneCell' = true ∧ Imm F' w' v es[i][j]) ∧ (∀ o, ¬ F' b o) ∧ Grown F w F' w'
def PureNew (P : Program) (f : FuncId) (args : List AV) (esz : Nat) (es : List (List AV)) : Prop :=
 callable P f ∧ ∀ F w vals, FOk F w → Imms F w vals args → CallsIn Fence.wide 0 P f vals.toArray w fun e w' => newRes F w esz es e w'
def retN (P : Program) (fr : Fr) (results : List ResultVar) (esz : Nat) (es : List (List AV)) (e : Exit) (st : St) : Prop :=
 (e = .ret ∨ e = .normal) ∧ ∃ (r0 : AV) (i : Nat), resAllR P fr st results = some [r0] ∧ (r0 = .tl i es.length false ∨ r0 = .tv i es.length 0 es.length .rest) ∧ mlook st.mem i = some (.arr esz es false) ∧ es.length ≠ 0 ∧ es.all AV.norefs = true
section
variable {P : Program} {fr : Fr} {ro : Option Nat} {ds : DS} {st st' : St} {Q Q' : Exit → St → Prop} {G G' : Nat → Option Value} {F F' : Nat → Nat → Prop} {a : Act} {w w' : World} {M M' : Mem}
 {ops : Array Oper} {l rest : List Oper} {o : Oper} {N id : Nat} {rd gs : List Nat}
theorem PureNew.of {c : Code} {f : FuncId} {fn : Func} {args : List AV} {esz : Nat} {es : List (List AV)} {nv : Nat} {hid : List Nat} (hf : P.funcs[f]? = some fn) (hb : fn.body = some c) (hnm : (fn.name == "runtime.NumGoroutine") = false) (hsz : args.length ≤ fn.ntmps)
  (h : ∀ h0 : Nat, EvC P ⟨0, nv, hid, fn.ntmps⟩ none ⟨h0, none, false⟩ c (st0 args) (retN P ⟨0, nv, hid, fn.ntmps⟩ fn.results.toList esz es)) : PureNew P f args esz es := by
 refine ⟨callable_of hf hnm (by rw [hb]; rfl), fun F w vals hF hi => ?_⟩
 obtain ⟨hl, hi⟩ := hi
 have s0 : SimA P ⟨0, nv, hid, fn.ntmps⟩ ⟨w.heap.size, none, false⟩ (fun _ => none) F (st0 args) { tmps := vals.toArray ++ Array.replicate (fn.ntmps - vals.toArray.size) undef, defers := [] } w := by
  refine ⟨⟨⟨fun id o h => (by cases h), fun id id' v v' b h => absurd rfl h, hF.1, hF.2⟩, fun k => ?_, by simp; omega⟩, fun _ _ => rfl, Marks.none _ _ _ (Nat.le_refl _)⟩
  have key : ∀ x, (x = .junk ∨ ∃ h : k < args.length, x = args[k]) → RV (fun _ => none) F (st0 args).mem w ((vals.toArray ++ Array.replicate (fn.ntmps - vals.toArray.size) undef).getD k undef) x := by
   rintro x (rfl | ⟨hk, rfl⟩)
   ·exact .imm (.junk _)
   ·have : (vals.toArray ++ Array.replicate (fn.ntmps - vals.toArray.size) undef).getD k undef = vals[k]'(by omega) := by
      rw [Array.getD_eq_getD_getElem?, Array.getElem?_append_left (by simp; omega)]
      simp [List.getElem?_eq_getElem (show k < vals.length by omega)]
    rw [this]
    exact .imm (hi k (by omega) hk)
  refine key _ ?_
  unfold St.get
  split
  ·rcases alook_vars0 args 0 k with h | ⟨h1, h2, h3⟩
   ·exact .inl h
   ·exact .inr ⟨by simpa using h1, by simpa [st0] using h3⟩
  ·exact .inl rfl
 refine callsIn_of_wp_marks (F := Fence.wide) hf hb trivial (wpIn_mono (h _ _ _ _ _ _ _ _ _ .refl s0) ?_)
 rintro e a' w' ⟨G', F', st', s', S', he, r0, i, hrs, hr0, ho, hne, hnr⟩
 have hown : ∀ b, Owned G' st'.mem b → w.heap.size ≤ b := fun b hb => (S'.own b hb).elim id fun ⟨_, _, _, h, _⟩ => by cases h
 have g : ∀ w2 : World, w.heap.size ≤ w2.heap.size → (∀ b, b < w.heap.size → w2.heap[b]? = w.heap[b]?) → Kept w w2 → (∀ b o, F' b o → b < w2.heap.size) → Grown F w F' w2 := fun w2 h1 h2 h3 h4 =>
  ⟨h1, h2, S'.F1, fun b o h => by
   rcases S'.F3 b o h with h | h | ⟨_, _, _, h, _⟩
   ·exact .inl h
   ·exact .inr h
   ·exact (by cases h), h4, h3⟩
 have hfin : ∀ (Ds : List Nat) (w2 : World), Ds.Nodup → (∀ D ∈ Ds, w.heap.size ≤ D ∧ w2.heap[D]? = some (.deferred (some []))) → w.heap.size ≤ w2.heap.size → (∀ b, b < w.heap.size → w2.heap[b]? = w.heap[b]?) → Kept w w2 →
   SimA P ⟨0, nv, hid, fn.ntmps⟩ ⟨w.heap.size, none, false⟩ G' F' st' { a' with defers := [] } w2 →
   LeavesInM Fence.wide 0 P fn a'.tmps (fun e w' => newRes F w esz es e w') (Ds.map dmark) .returning w2 := by
  intro Ds
  induction Ds with
  | nil =>
    intro w2 _ _ h1 h2 h3 s2
    obtain ⟨u, k1, k2⟩ := resultsR_ok s2 hrs
    have hu : u = u := rfl
    refine ⟨u, k1, ?_⟩
    have k2 : RV G' F' st'.mem w2 u r0 := k2
    have hv : G' i = some u ∧ isNilSlice u = false := by
     rcases hr0 with rfl | rfl
     ·obtain ⟨_, hh⟩ := k2.inv_tl
      obtain ⟨q1, q2⟩ := (hh _ _ _ ho).2 rfl
      exact ⟨q1, q2.symm⟩
     ·obtain ⟨_, hh⟩ := k2.inv_tv
      obtain ⟨_, b, c, hG, hc0, c', hval, _, hcp⟩ := (hh _ _ _ ho).2 rfl
      subst hval
      have hc0 : c ≠ 0 := hc0.resolve_right fun h => hne h.1
      rcases hcp with h | h | ⟨h, _⟩
      ·cases h
      ·cases h
      ·have : c' = c := by omega
       subst this
       exact ⟨by rw [hG, Nat.zero_mul], rfl⟩
    obtain ⟨hGi, _⟩ := hv
    rcases (s2.sim.mem.obj i _ ho).2 with ⟨h0, _⟩ | ⟨b, c, cc, el, q1, q2, q3, q4, q5, q6, q7, q8, _⟩
    ·subst h0; exact absurd rfl hne
    ·rw [hGi] at q1
     cases q1
     refine ⟨b, c, cc, el, F', rfl, q2, hown b ⟨i, _, _, ho, hGi, by simp [blkOf, q2]⟩, q3, q4, q5, q6, fun k j hk hj => ?_, fun o hF => (by cases (q8 o hF).1), g w2 h1 h2 h3 s2.sim.mem.inF⟩
     obtain ⟨v, hv, h1c, hr⟩ := q7 k j hk hj
     exact ⟨v, hv, h1c, hr.imm_of (all_norefs hnr k j hk hj)⟩
  | cons D Ds ih =>
    intro w2 hnd hD h1 h2 h3 s2
    obtain ⟨d1, d2⟩ := hD D List.mem_cons_self
    have hnd := List.nodup_cons.1 hnd
    have hk : ∀ (b : Nat) (o : Obj), w2.heap[b]? = some o → isData o = true → (w2.putObj D (.deferred none)).heap[b]? = some o := fun b o hb ho => by
     rw [World.putObj_heap_other (by rintro rfl; rw [d2] at hb; cases hb; cases ho)]; exact hb
    refine ⟨(by intro h; cases h), .inl ⟨D, _, rfl, run_takeDeferred d2, ih _ hnd.2 (fun D' hD' => ?_) (by rw [World.putObj_size]; exact h1) (fun b hb => ?_) (h3.trans (.set d2 rfl rfl)) ?_⟩⟩
    ·refine ⟨(hD D' (List.mem_cons_of_mem _ hD')).1, ?_⟩
     rw [World.putObj_heap_other (by rintro rfl; exact hnd.1 hD')]; exact (hD D' (List.mem_cons_of_mem _ hD')).2
    ·rw [World.putObj_heap_other (by omega)]; exact h2 b hb
    ·exact ⟨⟨s2.sim.mem.keepData hk (by rw [World.putObj_size]; exact Nat.le_refl _), fun k => (s2.sim.slots k).keepData hk, s2.sim.size⟩, s2.fresh, Marks.none _ _ _ (by rw [World.putObj_size]; exact h1)⟩
 obtain ⟨⟨Ds, hDs, hnd, hD⟩, _⟩ := s'.defers
 have := hfin Ds w' hnd hD S'.size (fun b hb => S'.out b hb (fun ⟨_, _, _, h, _⟩ => by cases h)) S'.kept ⟨⟨s'.sim.mem, s'.sim.slots, s'.sim.size⟩, s'.fresh, Marks.none _ _ _ S'.size⟩
 rw [← hDs] at this
 rcases he with rfl | rfl
 ·exact this
 ·exact this
theorem simM_grownNew {nx b : Nat} (hm : SimM P G F M nx w) (g : Grown F w F' w') (hid : G id = none) (hn : id < nx) (h : Value) (ob : RObj) (hb : blkOf h = some b) (hb1 : w.heap.size ≤ b)
  (S' : Step All G F M w (upG G id h) F' ((id, ob) :: M) w' → ObjOk P (upG G id h) F' ((id, ob) :: M) w' id ob) :
  SimM P (upG G id h) F' ((id, ob) :: M) nx w' ∧ Step All G F M w (upG G id h) F' ((id, ob) :: M) w' := by
 have hne : ∀ j, G j ≠ none → j ≠ id := fun j hj e => hj (e ▸ hid)
 have S : Step All G F M w (upG G id h) F' ((id, ob) :: M) w' :=
  { kept := g.kept
    size := g.size
    out := fun b hb _ => g.old b hb
    F1 := g.F1
    F2 := fun b o' hF => cell?_same (g.old b (hm.inF b o' hF)) o'
    F3 := fun b o h => (g.F3 b o h).imp (fun h => h) fun h => .inl h
    own := fun b1 ⟨j, o', v, ho, hv, hbv⟩ => by
     by_cases e : j = id
     ·subst e
      rw [upG_self] at hv; cases hv
      rw [hb] at hbv; cases hbv
      exact .inl hb1
     ·rw [mlook_cons, if_neg e] at ho
      rw [upG_other G h e] at hv
      exact .inr ⟨j, o', v, ho, hv, hbv⟩
    some' := fun j _ hj => by rw [upG_other G h (hne j hj)]; exact hj
    same := fun j v _ hj _ => by rw [upG_other G h (hne j (by simp [hj]))]; exact hj
    keep := fun j o' _ hj ho => by
     have e := hne j hj
     rw [mlook_cons, if_neg e] at ho
     cases hv : G j with
     | none => exact absurd hv hj
     | some v => exact ⟨o', v, v, ho, rfl, by rw [upG_other G h e]; exact hv, objKeep.refl v o'⟩ }
 refine ⟨simM_gen hm S (fun j o' ho => ?_) (fun i j v v' b1 hi hj hv hv' hbv hbv' => ?_) g.inF, S⟩
 ·by_cases e : j = id
  ·subst e
   rw [mlook_cons, if_pos rfl] at ho; cases ho
   exact ⟨hn, .inl (S' S)⟩
  ·rw [mlook_cons, if_neg e] at ho
   refine ⟨(hm.obj j o' ho).1, .inr ⟨ho, upG_other G h e, fun b1 v hv hbv => ?_⟩⟩
   have hlt : b1 < w.heap.size := hm.lt ⟨j, o', v, ho, hv, hbv⟩
   exact ⟨g.old b1 hlt, fun o h => by rcases g.F3 b1 o h with h | h; exact h; omega⟩
 ·have old : ∀ j v, j ≠ id → mlook ((id, ob) :: M) j ≠ none → upG G id h j = some v → mlook M j ≠ none ∧ G j = some v := fun j v e h1 h2 =>
    ⟨by rwa [mlook_cons, if_neg e] at h1, by rwa [upG_other G h e] at h2⟩
  have lt : ∀ j v, mlook M j ≠ none → G j = some v → blkOf v = some b1 → b1 < w.heap.size := fun j v h1 h2 h3 => by
   cases ho : mlook M j with
   | none => exact absurd ho h1
   | some o' => exact hm.lt ⟨j, o', v, ho, h2, h3⟩
  by_cases ei : i = id
  ·by_cases ej : j = id
   ·rw [ei, ej]
   ·subst ei
    rw [upG_self] at hv; cases hv
    obtain ⟨h1, h2⟩ := old j v' ej hj hv'
    have := lt j v' h1 h2 hbv'
    rw [hb] at hbv; cases hbv
    omega
  ·by_cases ej : j = id
   ·subst ej
    rw [upG_self] at hv'; cases hv'
    obtain ⟨h1, h2⟩ := old i v ei hi hv
    have := lt i v h1 h2 hbv
    rw [hb] at hbv'; cases hbv'
    omega
   ·obtain ⟨h1, h2⟩ := old i v ei hi hv
    obtain ⟨h3, h4⟩ := old j v' ej hj hv'
    exact hm.inj i j v v' b1 h1 h3 h2 h4 hbv hbv'
theorem SimD.callN {f : FuncId} {cs : List AV} {callee : Operand} {args : Array Operand} {tys : Array TypeId} {xs : List AV} {esz : Nat} {es : List (List AV)} {K : Act → World → Prop} {Q1 : Exit → Act → World → Prop}
  (s : SimD P fr ds G F st N a w) (hN : id < N) (hid : G id = none) (hop : o.op = .call ⟨.value callee, args, tys⟩) (hd : dok fr o.dst = true) (hcal : od fr st true callee = .fn f cs)
  (hxs : callArgs fr st args ++ cs = xs) (hn : AV.norefs xs = true) (hc : PureNew P f xs esz es)
  (h : ∀ G' F' a' w', SimD P fr ds G' F' (run1 fr o.dst ⟨.tl id es.length false, some (id, .arr esz es false)⟩ st) N a' w' → Step All G F st.mem w G' F' (run1 fr o.dst ⟨.tl id es.length false, some (id, .arr esz es false)⟩ st).mem w' → (∀ j, j ≠ id → G j = none → G' j = none) → K a' w') : o.wpIn (fc ro) 0 P a w K Q1 := by
 refine ⟨fun _ _ => trivial, ?_⟩
 rw [Oper.semAt_eq _ _ _ (by rw [hop]; intro c h; cases h)]
 have hv := (s.eval callee).unopt
 have hv : RV G F st.mem w (a.eval callee) (.fn f cs) := by unfold od at hcal; rwa [hcal] at hv
 obtain ⟨vs, hev, hl, hcs⟩ := hv.inv_fn
 have hrun : (execOp a.eval o).run P w = .ok (.enter f ((args.toList.map a.eval ++ vs).toArray)) w := by
  obtain ⟨dst, op, ty, pos, after, guard⟩ := o
  simp only at hop
  subst hop
  simp only [execOp, resolve, hev, Deferred.ofValue, Sem.run_bind, Sem.run_pure, Result.andThen_ok, invoke]
  rw [hc.1]
  congr 2
  apply Array.ext'
  simp
 rw [hrun]
 have hi : Imms F w (args.toList.map a.eval ++ vs) xs := by
  subst hxs
  refine .of_rv (G := G) (M := st.mem) (by simp [callArgs, hl]) (fun i h1 h2 => ?_) hn
  by_cases hlt : i < args.toList.length
  ·rw [List.getElem_append_left (by simpa using hlt), List.getElem_append_left (by simpa [callArgs] using hlt)]
   simp only [callArgs, List.getElem_map]
   exact ((s.eval _).unopt).snap s.mem
  ·rw [List.getElem_append_right (by simpa using hlt), List.getElem_append_right (by simpa [callArgs] using hlt)]
   simp only [List.length_map, callArgs]
   exact hcs _ _ _
 refine ⟨fun h => by simp [fc, Fence.wide] at h, callsIn_fc ((hc.2 F w _ s.mem.fok hi).mono ?_)⟩
 rintro e w' ⟨b, c, cc, el, F', rfl, q2, qb, q3, q4, q5, q6, q7, q8, g⟩
 obtain ⟨hm', S'⟩ := simM_grownNew (id := id) s.mem g hid hN (.slice (some ⟨b, 0, none⟩) es.length c) (.arr esz es false) (by simp [blkOf, q2]) qb fun S =>
  .inr ⟨b, c, cc, el, upG_self _ _ _, q2, q3, q4, q5, q6, fun i j hi hj => by
   obtain ⟨v, k1, k2, k3⟩ := q7 i j hi hj
   exact ⟨v, k1, k2, .imm k3⟩, fun o hF => absurd hF (q8 o), fun hz => by cases hz⟩
 have hmid : mlook st.mem id = none := s.mem.noM hid
 obtain ⟨s1, S1⟩ := s.put (d := o.dst) (r := ⟨.tl id es.length false, some (id, .arr esz es false)⟩) (u := .slice (some ⟨b, 0, none⟩) es.length c) hm' (fun i => by
  simp only [Rc.mem]
  rw [mlook_mset, mlook_cons]) S' hd (.tl id es.length false _ (by rw [upG_self]; simp) fun esz' es' fz' ho => by
   rw [mlook_cons, if_pos rfl] at ho; cases ho
   exact ⟨Nat.le_refl _, fun _ => ⟨upG_self _ _ _, rfl⟩⟩)
 exact h _ _ _ w' s1 S1 fun j hj hG => by rw [upG_other G _ hj]; exact hG
theorem OpIs.callN {f : FuncId} {cs : List AV} {callee : Operand} {args : Array Operand} {tys : Array TypeId} {xs : List AV} {esz : Nat} {es : List (List AV)} (hg : o.guard = none) (hop : o.op = .call ⟨.value callee, args, tys⟩) (hd : dok fr o.dst = true)
  (hcal : od fr st true callee = .fn f cs) (hxs : callArgs fr st args ++ cs = xs) (hn : AV.norefs xs = true) (hrd : rdOf fr st [] o = rd) (hc : PureNew P f xs esz es) : OpIs P fr ro ds ops id st ⟨o, ⟨.tl id es.length false, some (id, .arr esz es false)⟩, rd⟩ := by
 intro st' G F a w N K Q1 s hN hG hl h
 simp only [Region.wanted, hg, if_true]
 obtain ⟨e1, e2⟩ := callArgs_look (gs := []) (by rw [hrd]; exact hl) hop
 exact s.callN hN hG hop hd (by rw [e1]; exact hcal) (by rw [e2]; exact hxs) hn hc h
end
end Go.Avl
