/-
  Operations of a drawn region, one by one and in runs.
  Calls in drawn regions; runs of operations at once, guards and all.
  The rules for regions in their last shape; the rest of the simp set.
  A box is frozen: nobody writes it any more; its address is read by the cells behind it.
  Blocks that hold no data are turned: nothing that is read changes.
  Iterators: functions that hand values to 'yield'; ranges over them.
  A range over an iterator with a contract.
  Frozen slices are read by their contents in boxes, too.
  A slice without room is an object that nobody has written; contracts under weaker readings.
  A call by its body: the callee works on the caller's own objects, and may hand back new ones.
  Functions whose result is read from new cells alone; calls that lend objects.
  Contracts with a result in new cells, from a body.
  Scopes that nobody jumps in, and labels.
  A slice of length 0 at the front of an object that nobody else keeps: an empty object with room.
  Calls that lend objects, whatever they hold, in regions that are drawn, too.
  An empty object, to be grown by rows that are still written.
-/
import Derived.RangeFuncNested
import Derived.Scope
import Derived.Test.YtnolphljopdomaaGreatDoorPart3
set_option linter.unusedSimpArgs false
set_option linter.unusedVariables false
set_option linter.unnecessarySimpa false
set_option linter.deprecated false
namespace Go.Avl
open Go
def memless : Op → Bool
 | .move _ | .assign _ | .pick _ _ _ | .alloc _ | .field _ _ _ | .index _ _ _ | .unOp _ _ _ | .convert _ _ _ | .makeInterface _ _ | .makeFunc _ _ _ | .makeMap _ _ | .makeSlice _ _ _ | .typeAssert _ _ _ _ | .extract _ _ => true
 | _ => false
def opSlots : List Operand → List Nat
 | [] => []
 | .tmp t :: xs => 2 * t :: opSlots xs
 | _ :: xs => opSlots xs
def odds : List Nat → List Nat
 | [] => []
 | i :: l => (2 * i + 1) :: odds l
def opIds (fr : Fr) (st : St) : List Operand → List Nat
 | [] => []
 | x :: xs => odds (opnd fr st x).ids ++ opIds fr st xs
def adrOp : Op → Bool
 | .nilCheck _ | .fieldAddr _ _ _ | .indexAddr _ _ _ => true
 | _ => false
def AV.idsA : AV → List Nat
 | .rf _ _ => []
 | .opt _ (.rf _ _) => []
 | v => v.ids
def opIdsA (fr : Fr) (st : St) : List Operand → List Nat
 | [] => []
 | x :: xs => odds (opnd fr st x).idsA ++ opIdsA fr st xs
def rdOf (fr : Fr) (st : St) (gs : List Nat) (o : Oper) : List Nat := gs ++ (opSlots o.op.operands.toList ++ if memless o.op = true then [] else if adrOp o.op = true then opIdsA fr st o.op.operands.toList else opIds fr st o.op.operands.toList)
def efRc (id : Nat) : Ef → Option (Bool × Rc)
 | .bad => none
 | .val ok v => some (ok, ⟨v, none⟩)
 | .new ok v ob => some (ok, ⟨v, some (id, ob)⟩)
 | .upd ok v i ob => some (ok, ⟨v, some (i, ob)⟩)
 | .key _ _ _ _ => none
def efRcG (g : Bool) : Ef → Option (Bool × Rc)
 | .val ok v => some (!g || ok, ⟨.opt g v, none⟩)
 | _ => none
section
variable {P : Program} {fr : Fr} {ro : Option Nat} {ds : DS} {st st' : St} {Q : Exit → St → Prop} {G G' : Nat → Option Value} {F F' : Nat → Nat → Prop} {a : Act} {w w' : World}
 {M M' : Mem} {ops : Array Oper} {o : Oper} {id N : Nat} {d : Option Nat} {r : Rc} {x y : Nat} {rest : List Oper} {its : List It} {rd gs : List Nat} {ok : Bool}
theorem opSlots_mem {t : Nat} : ∀ {xs : List Operand}, Operand.tmp t ∈ xs → 2 * t ∈ opSlots xs
 | x :: xs, h => by
   rcases List.mem_cons.1 h with h | h
   ·subst h; exact List.mem_cons_self
   ·have := opSlots_mem h
    cases x <;> simp [opSlots, this]
theorem odds_mem {i : Nat} : ∀ {l : List Nat}, i ∈ l → 2 * i + 1 ∈ odds l
 | j :: l, h => by
   rcases List.mem_cons.1 h with h | h
   ·subst h; exact List.mem_cons_self
   ·exact List.mem_cons_of_mem _ (odds_mem h)
theorem opIds_mem {x : Operand} {i : Nat} : ∀ {xs : List Operand}, x ∈ xs → i ∈ (opnd fr st x).ids → 2 * i + 1 ∈ opIds fr st xs
 | y :: xs, h, hi => by
   simp only [opIds, List.mem_append]
   rcases List.mem_cons.1 h with h | h
   ·subst h; exact .inl (odds_mem hi)
   ·exact .inr (opIds_mem h hi)
theorem look_slot {k : Nat} (h : look fr st' (2 * k) = look fr st (2 * k)) : st'.get fr k = st.get fr k := by
 unfold look at h
 rw [if_pos (by omega), if_pos (by omega)] at h
 simpa [show 2 * k / 2 = k by omega] using h
theorem look_obj {i : Nat} (h : look fr st' (2 * i + 1) = look fr st (2 * i + 1)) : mlook st'.mem i = mlook st.mem i := by
 unfold look at h
 rw [if_neg (by omega), if_neg (by omega)] at h
 simpa [show (2 * i + 1) / 2 = i by omega] using h
theorem xop_memless {g : Bool} (h : memless o.op = true) (M : Mem) (nx : Nat) : xop P fr ⟨st.vars, st.tmps, M, nx⟩ g id o = xop P fr st g id o := by
 obtain ⟨dst, op, ty, pos, after, guard⟩ := o
 have ho : ∀ x, opnd fr (⟨st.vars, st.tmps, M, nx⟩ : St) x = opnd fr st x := fun x => by cases x <;> rfl
 have hod : ∀ x, od fr (⟨st.vars, st.tmps, M, nx⟩ : St) g x = od fr st g x := fun x => by unfold od; rw [ho]
 have hod' : od fr (⟨st.vars, st.tmps, M, nx⟩ : St) g = od fr st g := funext hod
 cases op <;> first
  | (simp [memless] at h; done)
  | (simp only [xop, hod, hod', ho]; done)
  | rfl
  | (simp only [xop, hod, hod', ho])
theorem opIdsA_mem {x : Operand} {i : Nat} : ∀ {xs : List Operand}, x ∈ xs → i ∈ (opnd fr st x).idsA → 2 * i + 1 ∈ opIdsA fr st xs
 | y :: xs, h, hi => by
   simp only [opIdsA, List.mem_append]
   rcases List.mem_cons.1 h with h | h
   ·subst h; exact .inl (odds_mem hi)
   ·exact .inr (opIdsA_mem h hi)
theorem idsA_unopt {g : Bool} {v : AV} {i : Nat} (hn : ∀ j off, unopt g v ≠ .rf j off) (h : i ∈ (unopt g v).ids) : i ∈ v.idsA := by
 unfold unopt at hn h
 split at h
 ·rename_i b u
  split at h
  ·rename_i hb
   simp only [hb, if_true] at hn
   cases u <;> first | exact absurd rfl (hn _ _) | simpa [AV.idsA, AV.ids] using h
  ·simp [AV.ids] at h
 ·rename_i hno
  cases v <;> first | exact absurd rfl (hn _ _) | exact absurd rfl (hno _ _) | simpa [AV.idsA, AV.ids] using h
theorem xop_adr {g : Bool} (ha : adrOp o.op = true) (h : ∀ x ∈ o.op.operands.toList, opnd fr st' x = opnd fr st x ∧ ∀ i ∈ (opnd fr st x).idsA, mlook st'.mem i = mlook st.mem i) : xop P fr st' g id o = xop P fr st g id o := by
 have hod : ∀ x ∈ o.op.operands.toList, od fr st' g x = od fr st g x ∧ ((∀ j off, od fr st g x ≠ .rf j off) → ∀ i ∈ (od fr st g x).ids, mlook st'.mem i = mlook st.mem i) := fun x hx =>
  ⟨by unfold od; rw [(h x hx).1], fun hn i hi => (h x hx).2 i (idsA_unopt hn hi)⟩
 obtain ⟨dst, op, ty, pos, after, guard⟩ := o
 cases op with
 | nilCheck x =>
   obtain ⟨h1, h2⟩ := hod x (by simp [Op.operands])
   simp only [xop]; rw [h1]
   generalize od fr st g x = X at h2
   cases X <;> try rfl
   (try simp only); rw [h2 (fun _ _ => nofun) _ (by simp [AV.ids])]
 | fieldAddr t x f =>
   obtain ⟨h1, h2⟩ := hod x (by simp [Op.operands])
   simp only [xop]; rw [h1]
   generalize od fr st g x = X at h2
   split
   ·cases X <;> try rfl
    (try simp only); rw [h2 (fun _ _ => nofun) _ (by simp [AV.ids])]
   ·rfl
 | indexAddr t x ix =>
   obtain ⟨h1, h2⟩ := hod x (by simp [Op.operands])
   simp only [xop]; rw [h1, (hod ix (by simp [Op.operands])).1]
   generalize od fr st g x = X at h2
   split
   ·split
    ·split
     ·rfl
     ·cases X <;> try rfl
      all_goals ((try simp only); rw [h2 (fun _ _ => nofun) _ (by simp [AV.ids])])
    ·split
     ·split
      ·rfl
      ·cases X <;> try rfl
       (try simp only); rw [h2 (fun _ _ => nofun) _ (by simp [AV.ids])]
     ·rfl
   ·rfl
 | _ => simp [adrOp] at ha
theorem xop_look {g : Bool} (h : ∀ x ∈ rdOf fr st gs o, look fr st' x = look fr st x) : xop P fr st' g id o = xop P fr st g id o := by
 have hop : ∀ x ∈ o.op.operands.toList, opnd fr st' x = opnd fr st x := fun x hx => by
  cases x with
  | tmp t => exact look_slot (h _ (by unfold rdOf; exact List.mem_append_right _ (List.mem_append_left _ (opSlots_mem hx))))
  | _ => rfl
 by_cases hm : memless o.op = true
 ·rw [← xop_memless (st := st) (id := id) (g := g) (P := P) (fr := fr) hm st'.mem st.nx]
  refine xop_congr fun x hx => ⟨?_, fun _ _ => rfl⟩
  rw [hop x hx]
  cases x <;> rfl
 by_cases ha : adrOp o.op = true
 ·refine xop_adr ha fun x hx => ⟨hop x hx, fun i hi => look_obj (h _ ?_)⟩
  unfold rdOf
  rw [if_neg hm, if_pos ha]
  exact List.mem_append_right _ (List.mem_append_right _ (opIdsA_mem hx hi))
 ·refine xop_congr fun x hx => ⟨hop x hx, fun i hi => look_obj (h _ ?_)⟩
  unfold rdOf
  rw [if_neg hm, if_neg ha]
  exact List.mem_append_right _ (List.mem_append_right _ (opIds_mem hx hi))
theorem SimD.eval (s : SimD P fr ds G F st N a w) (x : Operand) : RV G F st.mem w (a.eval x) (opnd fr st x) := by
 cases x with
 | tmp t => exact s.slots t
 | const v => exact .imm (Imm.ofVal v)
 | global g =>
   cases hg : laidAt g with
   | none =>
     have e : opnd fr st (.global g) = .sc (.pointer (some ⟨g, 0, none⟩)) := by simp only [opnd, hg]
     rw [e]; exact .imm (.sc _)
   | some vs =>
     have e : opnd fr st (.global g) = .ia (vs.map AV.sc) := by simp only [opnd, hg]
     rw [e]; exact .imm (s.mem.gl.imm hg)
 | func f => exact .fn f [] [] rfl (fun _ h => absurd h (Nat.not_lt_zero _))
theorem SimD.put {u : Value} (s : SimD P fr ds G F st N a w) (hm : SimM P G' F' M' N w') (e : ∀ i, mlook (r.mem st.mem) i = mlook M' i) (S : Step All G F st.mem w G' F' M' w') (hd : dok fr d = true) (hr : RV G' F' M' w' u r.val) :
  SimD P fr ds G' F' (run1 fr d r st) N (a.put d u) w' ∧ Step All G F st.mem w G' F' (run1 fr d r st).mem w' := by
 have hm' : SimM P G' F' (r.mem st.mem) N w' := hm.ext e
 have S' : Step All G F st.mem w G' F' (r.mem st.mem) w' := S.ext e
 refine ⟨⟨by unfold run1; rw [St.put_mem]; exact hm', fun k => ?_, ?_, ?_⟩, by unfold run1; rw [St.put_mem]; exact S'⟩
 ·have hold : ∀ k, RV G' F' (r.mem st.mem) w' (a.tmps.getD k undef) (st.get fr k) := fun k => (s.slots k).step S' (fun _ _ => trivial)
  unfold run1
  rw [St.put_mem]
  cases d with
  | none => exact hold k
  | some d =>
    rw [St.get_put, getD_put]
    by_cases hk : k = d
    ·subst hk
     rw [if_pos rfl, if_pos ⟨rfl, by rw [s.size]; exact dok_spec hd k rfl⟩]; exact hr.ext e
    ·rw [if_neg hk, if_neg (fun h => hk h.1)]; exact hold k
 ·cases d with
  | none => exact s.size
  | some d => simp only [Act.put, Array.size_setIfInBounds]; exact s.size
 ·cases d with
  | none => exact s.defers.step s.mem S'
  | some d => exact s.defers.step s.mem S'
theorem efRc_ok {ef : Ef} {run : Result Next} (h : EfOk P G F M N w id run ef) (he : efRc id ef = some (ok, r)) (hok : ok = true) : ∃ M', OpOk P G F M N w id run r.val M' ∧ ∀ i, mlook (r.mem M) i = mlook M' i := by
 cases ef with
 | bad => cases he
 | val b v => simp only [efRc, Option.some.injEq, Prod.mk.injEq] at he; obtain ⟨rfl, rfl⟩ := he; exact ⟨_, h hok, fun _ => rfl⟩
 | new b v ob =>
   simp only [efRc, Option.some.injEq, Prod.mk.injEq] at he; obtain ⟨rfl, rfl⟩ := he
   exact ⟨_, h hok, fun i => by rw [mlook_rc]; rfl⟩
 | upd b v i ob => simp only [efRc, Option.some.injEq, Prod.mk.injEq] at he; obtain ⟨rfl, rfl⟩ := he; exact ⟨_, h hok, fun _ => rfl⟩
 | key b v old ob => cases he
theorem efRc_defer {g : Bool} {b : Bool} (he : efRc id (xop P fr st g id o) = some (b, r)) : ∀ c, o.op ≠ .defer c := by
 intro c hc
 obtain ⟨d, op, ty, pos, after, gu⟩ := o
 simp only at hc
 subst hc
 simp [xop, efRc] at he
theorem SimD.wp {K : Act → World → Prop} {Q1 : Exit → Act → World → Prop} (s : SimD P fr ds G F st' N a w) (hN : id < N) (hG : G id = none) (hd : dok fr o.dst = true)
  (hx : xop P fr st' true id o = xop P fr st true id o) (he : efRc id (xop P fr st true id o) = some (ok, r)) (hok : ok = true)
  (h : ∀ G' F' a' w', SimD P fr ds G' F' (run1 fr o.dst r st') N a' w' → Step All G F st'.mem w G' F' (run1 fr o.dst r st').mem w' → (∀ j, j ≠ id → G j = none → G' j = none) → K a' w') :
  o.wpIn (fc ro) 0 P a w K Q1 := by
 have hk := xop_ok (id := id) (fr := fr) (st := st') s.mem s.eval (fun _ => rfl) hG hN o
 rw [hx] at hk
 obtain ⟨M', ⟨u, w', G', F', hrun, hm', S', hr, hfr⟩, e⟩ := efRc_ok hk he hok
 obtain ⟨s1, S1⟩ := s.put (d := o.dst) (u := u) hm' e S' hd hr
 refine ⟨fun _ _ => trivial, ?_⟩
 rw [Oper.semAt_eq _ _ _ (efRc_defer he)]
 rcases hrun with hrun | ⟨hrun, rfl⟩ <;> rw [hrun]
 ·exact h _ _ _ _ s1 S1 hfr
 ·exact h _ _ _ _ s1 S1 hfr
theorem OpIs.op (hg : o.guard = none) (hd : dok fr o.dst = true) (he : efRc id (xop P fr st true id o) = some (ok, r)) (hok : ok = true) (hrd : rdOf fr st [] o = rd) : OpIs P fr ro ds ops id st ⟨o, r, rd⟩ := by
 intro st' G F a w N K Q1 s hN hG hl h
 simp only [Region.wanted, hg, if_true]
 exact s.wp hN hG hd (xop_look (gs := []) (by rw [hrd]; exact hl)) he hok h
theorem wantedD {j k : Nat} {want g : Bool} (s : SimD P fr ds G F st N a w) (hg : o.guard = some (j, want)) (hj : gslot ops j = some k) (hk : gval want (st.get fr k) = some g) : Region.wanted o (yielded ops a.tmps) = g := by
 have := gval_ok (s.slots k) hk
 simp only [Region.wanted, hg, yielded]
 unfold gslot at hj
 rw [hj, ← this]
 simp only [Option.bind_some, Array.getD_eq_getD_getElem?]
 cases h : a.tmps[k]? with
 | none => simp [undef, bov]
 | some v => cases v <;> simp [bov]
theorem SimD.skip {K : Act → World → Prop} {v : AV} (s : SimD P fr ds G F st' N a w) (hd : dok fr o.dst = true) (hv : RV G F st'.mem w undef v)
  (h : ∀ G' F' a' w', SimD P fr ds G' F' (run1 fr o.dst ⟨v, none⟩ st') N a' w' → Step All G F st'.mem w G' F' (run1 fr o.dst ⟨v, none⟩ st').mem w' → (∀ j, j ≠ id → G j = none → G' j = none) → K a' w') : K (a.put o.dst undef) w := by
 obtain ⟨s1, S1⟩ := s.put (d := o.dst) (r := ⟨v, none⟩) (u := undef) s.mem (fun _ => rfl) .refl hd hv
 exact h _ _ _ _ s1 S1 (fun _ _ h => h)
theorem OpIs.skip {j k : Nat} {want : Bool} (hg : o.guard = some (j, want)) (hj : gslot ops j = some k) (hk : gval want (st.get fr k) = some false) (hd : dok fr o.dst = true) : OpIs P fr ro ds ops id st ⟨o, ⟨.sc undef, none⟩, [2 * k]⟩ := by
 intro st' G F a w N K Q1 s hN hG hl h
 have hw := wantedD s hg hj (by rw [look_slot (hl _ List.mem_cons_self)]; exact hk)
 rw [hw]
 simp only [Bool.false_eq_true, if_false]
 exact ⟨fun _ _ => trivial, s.skip hd (.imm (.sc _)) h⟩
theorem run1_opt {g : Bool} {v : AV} (hgt : g = true) (s : SimD P fr ds G F (run1 fr d ⟨v, none⟩ st) N a w) : SimD P fr ds G F (run1 fr d ⟨.opt g v, none⟩ st) N a w := by
 subst hgt
 have hm : (run1 fr d ⟨.opt true v, none⟩ st).mem = (run1 fr d ⟨v, none⟩ st).mem := by unfold run1; rw [St.put_mem, St.put_mem]; rfl
 refine ⟨by rw [hm]; exact s.mem, fun k => ?_, s.size, s.defers⟩
 rw [hm]
 have hk := s.slots k
 unfold run1 at hk ⊢
 cases d with
 | none => exact hk
 | some d =>
   rw [St.get_put] at hk ⊢
   by_cases hkd : k = d
   ·rw [if_pos hkd] at hk ⊢; exact .opt true _ _ (fun _ => hk) (fun h => by cases h)
   ·rw [if_neg hkd] at hk ⊢; exact hk
theorem OpIs.guard {j k : Nat} {want g : Bool} (hg : o.guard = some (j, want)) (hj : gslot ops j = some k) (hk : gval want (st.get fr k) = some g) (hd : dok fr o.dst = true)
  (he : efRcG g (xop P fr st g id o) = some (ok, r)) (hok : ok = true) (hrd : rdOf fr st [2 * k] o = rd) : OpIs P fr ro ds ops id st ⟨o, r, rd⟩ := by
 intro st' G F a w N K Q1 s hN hG hl h
 have hw := wantedD s hg hj (by rw [look_slot (hl _ (by rw [← hrd]; exact List.mem_cons_self))]; exact hk)
 rw [hw]
 cases hx : xop P fr st g id o with
 | val b v =>
   rw [hx] at he
   simp only [efRcG, Option.some.injEq, Prod.mk.injEq] at he
   obtain ⟨he1, rfl⟩ := he
   cases g with
   | false =>
     simp only [Bool.false_eq_true, if_false]
     exact ⟨fun _ _ => trivial, s.skip hd (.imm (.opt false _ _ (fun h => by cases h) (fun _ => rfl))) h⟩
   | true =>
     simp only [if_true]
     have hb : b = true := by rw [← he1] at hok; simpa using hok
     have he' : efRc id (xop P fr st true id o) = some (b, ⟨v, none⟩) := by rw [hx]; rfl
     refine s.wp hN hG hd (xop_look (gs := [2 * k]) (by rw [hrd]; exact hl)) he' hb fun G' F' a' w' s' S' hf => h G' F' a' w' (run1_opt rfl s') ?_ hf
     have hm : (run1 fr o.dst ⟨.opt true v, none⟩ st').mem = (run1 fr o.dst ⟨v, none⟩ st').mem := by unfold run1; rw [St.put_mem, St.put_mem]; rfl
     rw [hm]; exact S'
 | _ => rw [hx] at he; cases he
end
section
variable {P : Program} {fr : Fr} {ro : Option Nat} {ds : DS} {st st' : St} {Q : Exit → St → Prop} {G G' : Nat → Option Value} {F F' : Nat → Nat → Prop} {a : Act} {w w' : World}
 {M M' : Mem} {ops : Array Oper} {o : Oper} {id N : Nat} {d : Option Nat} {r : Rc} {x y : Nat} {rest : List Oper} {its : List It} {rd gs : List Nat} {ok : Bool}
theorem opSame_look (h : ∀ x ∈ rdOf fr st gs o, look fr st' x = look fr st x) (hm : memless o.op = false) (ha : adrOp o.op = false) : OpSame fr st' st o.op.operands.toList := fun x hx => by
 refine ⟨?_, fun i hi => look_obj (h _ ?_)⟩
 ·cases x with
  | tmp t => exact look_slot (h _ (by unfold rdOf; exact List.mem_append_right _ (List.mem_append_left _ (opSlots_mem hx))))
  | _ => rfl
 ·unfold rdOf
  rw [if_neg (by simp [hm]), if_neg (by simp [ha])]
  exact List.mem_append_right _ (List.mem_append_right _ (opIds_mem hx hi))
theorem SimD.call {f : FuncId} {cs : List AV} {callee : Operand} {args : Array Operand} {tys : Array TypeId} {xs : List AV} {v : AV} {K : Act → World → Prop} {Q1 : Exit → Act → World → Prop}
  (s : SimD P fr ds G F st N a w) (hop : o.op = .call ⟨.value callee, args, tys⟩) (hd : dok fr o.dst = true) (hcal : od fr st true callee = .fn f cs)
  (hxs : callArgs fr st args ++ cs = xs) (hn : AV.norefs xs = true) (hc : PureIs P f xs v)
  (h : ∀ G' F' a' w', SimD P fr ds G' F' (run1 fr o.dst ⟨v, none⟩ st) N a' w' → Step All G F st.mem w G' F' (run1 fr o.dst ⟨v, none⟩ st).mem w' → (∀ j, j ≠ id → G j = none → G' j = none) → K a' w') : o.wpIn (fc ro) 0 P a w K Q1 := by
 refine ⟨fun _ _ => trivial, ?_⟩
 rw [Oper.semAt_eq _ _ _ (by rw [hop]; intro c h; cases h)]
 have hv := (s.eval callee).unopt
 have hv : RV G F st.mem w (a.eval callee) (.fn f cs) := by unfold od at hcal; rwa [hcal] at hv
 obtain ⟨vs, hev, hl, hcs⟩ := hv.inv_fn0 hc.1.1
 have hrun : (execOp a.eval o).run P w = .ok (.enter f ((args.toList.map a.eval ++ vs).toArray)) w := by
  obtain ⟨dst, op, ty, pos, after, guard⟩ := o
  simp only at hop
  subst hop
  simp only [execOp, resolve, hev, Deferred.ofValue, Sem.run_bind, Sem.run_pure, Result.andThen_ok, invoke]
  rw [hc.1.2]
  congr 2
  apply Array.ext'
  simp
 rw [hrun]
 have hi : Imms F w (args.toList.map a.eval ++ vs) xs := by
  subst hxs
  refine .of_rv (G := G) (M := st.mem) (by simp [callArgs, hl]) (fun i h1 h2 => ?_) hn
  by_cases hlt : i < args.toList.length
  ·rw [List.getElem_append_left (by simpa using hlt), List.getElem_append_left (by simpa [callArgs] using hlt)]
   simp only [callArgs, List.getElem_map]
   exact ((s.eval _).unopt).snap s.mem
  ·rw [List.getElem_append_right (by simpa using hlt), List.getElem_append_right (by simpa [callArgs] using hlt)]
   simp only [List.length_map, callArgs]
   exact hcs _ _ _
 refine ⟨fun h => by simp [fc, Fence.wide] at h, callsIn_fc ((hc.2 F w _ s.mem.fok hi).mono ?_)⟩
 rintro e w' ⟨u, F', rfl, hu, g⟩
 obtain ⟨hm', S'⟩ := simM_grown s.mem g
 obtain ⟨s1, S1⟩ := s.put (d := o.dst) (r := ⟨v, none⟩) (u := u) hm' (fun _ => rfl) S' hd (.imm hu)
 exact h G F' _ w' s1 S1 (fun _ _ h => h)
theorem callArgs_look (h : ∀ x ∈ rdOf fr st gs o, look fr st' x = look fr st x) {callee : Operand} {args : Array Operand} {tys : Array TypeId} (hop : o.op = .call ⟨.value callee, args, tys⟩) :
  od fr st' true callee = od fr st true callee ∧ callArgs fr st' args = callArgs fr st args := by
 have hs := opSame_look h (by rw [hop]; rfl) (by rw [hop]; rfl)
 rw [hop] at hs
 refine ⟨(hs.od (x := callee) (by simp [Op.operands, Call.operands]) true).1, ?_⟩
 unfold callArgs
 refine List.map_congr_left fun x hx => ?_
 obtain ⟨h1, h2⟩ := hs.od (x := x) (by simp only [Op.operands, Call.operands]; simp; exact .inr (by simpa using hx)) true
 rw [h1, snap_congr h2]
theorem OpIs.call {f : FuncId} {cs : List AV} {callee : Operand} {args : Array Operand} {tys : Array TypeId} {xs : List AV} {v : AV} (hg : o.guard = none) (hop : o.op = .call ⟨.value callee, args, tys⟩) (hd : dok fr o.dst = true)
  (hcal : od fr st true callee = .fn f cs) (hxs : callArgs fr st args ++ cs = xs) (hn : AV.norefs xs = true) (hrd : rdOf fr st [] o = rd) (hc : PureIs P f xs v) : OpIs P fr ro ds ops id st ⟨o, ⟨v, none⟩, rd⟩ := by
 intro st' G F a w N K Q1 s hN hG hl h
 simp only [Region.wanted, hg, if_true]
 obtain ⟨e1, e2⟩ := callArgs_look (gs := []) (by rw [hrd]; exact hl) hop
 exact s.call hop hd (by rw [e1]; exact hcal) (by rw [e2]; exact hxs) hn hc h
theorem OpIs.callG {j k : Nat} {want : Bool} {f : FuncId} {cs : List AV} {callee : Operand} {args : Array Operand} {tys : Array TypeId} {xs : List AV} {v : AV} (hg : o.guard = some (j, want)) (hj : gslot ops j = some k) (hk : gval want (st.get fr k) = some true)
  (hop : o.op = .call ⟨.value callee, args, tys⟩) (hd : dok fr o.dst = true)
  (hcal : od fr st true callee = .fn f cs) (hxs : callArgs fr st args ++ cs = xs) (hn : AV.norefs xs = true) (hrd : rdOf fr st [2 * k] o = rd) (hc : PureIs P f xs v) : OpIs P fr ro ds ops id st ⟨o, ⟨v, none⟩, rd⟩ := by
 intro st' G F a w N K Q1 s hN hG hl h
 have hw := wantedD s hg hj (by rw [look_slot (hl _ (by rw [← hrd]; exact List.mem_cons_self))]; exact hk)
 rw [hw]
 simp only [if_true]
 obtain ⟨e1, e2⟩ := callArgs_look (gs := [2 * k]) (by rw [hrd]; exact hl) hop
 exact s.call hop hd (by rw [e1]; exact hcal) (by rw [e2]; exact hxs) hn hc h
inductive TRes where
 | done (ok : Bool) (its : List It) (st : St)
 | stop (ok : Bool) (its : List It) (st : St) (rest : List Oper) (id : Nat)
def TRes.cons (b : Bool) (t : It) : TRes → TRes
 | .done ok its st => .done (b && ok) (t :: its) st
 | .stop ok its st rest id => .stop (b && ok) (t :: its) st rest id
noncomputable def trun (P : Program) (fr : Fr) (all : List Oper) : List Oper → Nat → St → TRes
 | [], _, st => .done true [] st
 | o :: rest, id, st => match dok fr o.dst with
   | false => .stop true [] st (o :: rest) id
   | true => match o.guard with
     | none => match efRc id (xop P fr st true id o) with
       | none => .stop true [] st (o :: rest) id
       | some (b, r) => (trun P fr all rest (id + 1) (run1 fr o.dst r st)).cons b ⟨o, r, rdOf fr st [] o⟩
     | some (j, want) => match gslot all.toArray j with
       | none => .stop true [] st (o :: rest) id
       | some k => match gval want (st.get fr k) with
         | none => .stop true [] st (o :: rest) id
         | some g => match efRcG g (xop P fr st g id o) with
           | none => .stop true [] st (o :: rest) id
           | some (b, r) => (trun P fr all rest (id + 1) (run1 fr o.dst r st)).cons b ⟨o, r, rdOf fr st [2 * k] o⟩
theorem Tr.append {id : Nat} {l1 l2 : List Oper} {st1 st2 st3 : St} {i1 i2 : List It} (h1 : Tr P fr ro ds ops id l1 st1 i1 st2) : ∀ {id2 : Nat}, id2 = id + i1.length → Tr P fr ro ds ops id2 l2 st2 i2 st3 → Tr P fr ro ds ops id (l1 ++ l2) st1 (i1 ++ i2) st3 := by
 induction h1 with
 | nil id st => intro id2 he h2; simp at he; subst he; exact h2
 | cons h t ih => intro id2 he h2; exact .cons h (ih (by simp at he; omega) h2)
theorem trun_ok {all : List Oper} : ∀ {l : List Oper} {id : Nat} {st : St},
  (∀ ok its st', trun P fr all l id st = .done ok its st' → ok = true → Tr P fr ro ds all.toArray id l st its st') ∧
  (∀ ok its st' rest id', trun P fr all l id st = .stop ok its st' rest id' → ok = true → ∀ its2 st2, Tr P fr ro ds all.toArray id' rest st' its2 st2 → Tr P fr ro ds all.toArray id l st (its ++ its2) st2)
 | [], id, st => by
   refine ⟨fun ok its st' h _ => ?_, fun ok its st' rest id' h => ?_⟩
   ·simp only [trun] at h; cases h; exact .nil _ _
   ·simp only [trun] at h; cases h
 | o :: rest, id, st => by
   have stopCase : ∀ {res : TRes}, trun P fr all (o :: rest) id st = res → res = .stop true [] st (o :: rest) id →
     (∀ ok its st', trun P fr all (o :: rest) id st = .done ok its st' → ok = true → Tr P fr ro ds all.toArray id (o :: rest) st its st') ∧
     (∀ ok its st' rest' id', trun P fr all (o :: rest) id st = .stop ok its st' rest' id' → ok = true → ∀ its2 st2, Tr P fr ro ds all.toArray id' rest' st' its2 st2 → Tr P fr ro ds all.toArray id (o :: rest) st (its ++ its2) st2) := by
    intro res h1 h2
    rw [h1, h2]
    refine ⟨fun ok its st' h => (by cases h), fun ok its st' rest' id' h _ its2 st2 t => ?_⟩
    cases h; exact t
   have goCase : ∀ {b : Bool} {r : Rc} {rd : List Nat}, trun P fr all (o :: rest) id st = (trun P fr all rest (id + 1) (run1 fr o.dst r st)).cons b ⟨o, r, rd⟩ →
     (b = true → OpIs P fr ro ds all.toArray id st ⟨o, r, rd⟩) →
     (∀ ok its st', trun P fr all (o :: rest) id st = .done ok its st' → ok = true → Tr P fr ro ds all.toArray id (o :: rest) st its st') ∧
     (∀ ok its st' rest' id', trun P fr all (o :: rest) id st = .stop ok its st' rest' id' → ok = true → ∀ its2 st2, Tr P fr ro ds all.toArray id' rest' st' its2 st2 → Tr P fr ro ds all.toArray id (o :: rest) st (its ++ its2) st2) := by
    intro b r rd h1 h2
    obtain ⟨k1, k2⟩ := @trun_ok all rest (id + 1) (run1 fr o.dst r st)
    rw [h1]
    cases hres : trun P fr all rest (id + 1) (run1 fr o.dst r st) with
    | done ok its st1 =>
      rw [hres] at k1
      refine ⟨fun ok' its' st' h hok => ?_, fun ok its st' rest' id' h => (by cases h)⟩
      simp only [TRes.cons] at h
      cases h
      simp only [Bool.and_eq_true] at hok
      exact .cons (h2 hok.1) (k1 _ _ _ rfl hok.2)
    | stop ok its st1 rest1 id1 =>
      rw [hres] at k2
      refine ⟨fun ok its st' h => (by cases h), fun ok' its' st' rest' id' h hok its2 st2 t => ?_⟩
      simp only [TRes.cons] at h
      cases h
      simp only [Bool.and_eq_true] at hok
      exact .cons (h2 hok.1) (k2 _ _ _ _ _ rfl hok.2 its2 st2 t)
   cases hd : dok fr o.dst with
   | false => exact stopCase rfl (by simp only [trun, hd])
   | true =>
     cases hg : o.guard with
     | none =>
       cases he : efRc id (xop P fr st true id o) with
       | none => exact stopCase rfl (by simp only [trun, hd, hg, he])
       | some p =>
         obtain ⟨b, r⟩ := p
         exact goCase (by simp only [trun, hd, hg, he]) fun hb => .op hg hd he hb rfl
     | some p =>
       obtain ⟨j, want⟩ := p
       cases hj : gslot all.toArray j with
       | none => exact stopCase rfl (by simp only [trun, hd, hg, hj])
       | some k =>
         cases hk : gval want (st.get fr k) with
         | none => exact stopCase rfl (by simp only [trun, hd, hg, hj, hk])
         | some g =>
           cases he : efRcG g (xop P fr st g id o) with
           | none => exact stopCase rfl (by simp only [trun, hd, hg, hj, hk, he])
           | some p =>
             obtain ⟨b, r⟩ := p
             exact goCase (by simp only [trun, hd, hg, hj, hk, he]) fun hb => .guard hg hj hk hd he hb rfl
theorem Tr.done {all l : List Oper} (h : trun P fr all l id st = .done ok its st') (hok : ok = true) : Tr P fr ro ds all.toArray id l st its st' := trun_ok.1 _ _ _ h hok
theorem Tr.run {all l : List Oper} {id' : Nat} {its2 : List It} {st2 : St} (h : trun P fr all l id st = .stop ok its st' rest id') (hok : ok = true) (t : Tr P fr ro ds all.toArray id' rest st' its2 st2) : Tr P fr ro ds all.toArray id l st (its ++ its2) st2 := trun_ok.2 _ _ _ _ _ h hok _ _ t
theorem XR.tr : ∀ {l : List Oper} {st : St} {its : List It} {st' : St} {id : Nat}, id = st.nx → Tr P fr ro ds ops id l st its st' → Q .normal ⟨st'.vars, st'.tmps, st'.mem, st.nx + its.length⟩ → XR P fr ro ds ops l st Q := by
 intro l st its st' id he t
 subst he
 have key : ∀ {id : Nat} {l : List Oper} {st : St} {its : List It} {st' : St}, Tr P fr ro ds ops id l st its st' → ∀ (n : Nat), n = id + its.length → Q .normal ⟨st'.vars, st'.tmps, st'.mem, n⟩ → XR P fr ro ds ops l ⟨st.vars, st.tmps, st.mem, id⟩ Q := by
  intro id l st its st' t
  induction t with
  | nil id st => intro n hn hq; simp at hn; subst hn; exact .nil hq
  | cons h t ih =>
    rename_i id o rest st st' r rd l
    intro n hn hq
    have ih := ih n (by simp at hn; omega) hq
    intro G0 F0 M0 w0 G F a w S s
    have sd : SimD P fr ds G F st (id + 1) a w := ⟨s.sim.mem.more (Nat.le_succ _), s.sim.slots, s.sim.size, s.defers⟩
    have hr : (⟨(run1 fr o.dst r st).vars, (run1 fr o.dst r st).tmps, (run1 fr o.dst r st).mem, id + 1⟩ : St) = (⟨(run1 fr o.dst r st).vars, (run1 fr o.dst r st).tmps, (run1 fr o.dst r st).mem, id + 1⟩ : St) := rfl
    have := h st G F a w (id + 1) (wpListIn (fc ro) 0 P ops (Post P fr ds G0 F0 M0 w0 Q) rest) (Post P fr ds G0 F0 M0 w0 Q) sd (Nat.lt_succ_self _) (s.fresh _ (Nat.le_refl _)) (fun _ _ => rfl) fun G' F' a' w' s' S' hf => by
     refine ih _ _ _ _ _ _ _ _ (S.trans (S'.mono fun _ _ => trivial)) ⟨⟨s'.mem, s'.slots, s'.size⟩, fun j hj => hf j (by show j ≠ id; have : id + 1 ≤ j := hj; omega) (s.fresh j (by have : id + 1 ≤ j := hj; exact (by show id ≤ j; omega))), s'.defers⟩
    simp only [wpListIn]
    exact this
 exact fun hq => key t _ rfl hq
end
section
variable {P : Program} {fr : Fr} {ro : Option Nat} {ds : DS} {st st' : St} {Q : Exit → St → Prop} {l rest : List Oper} {its : List It} {ok : Bool} {id : Nat}
def St.fin (st : St) (n : Nat) : St := ⟨st.vars, [], st.mem, n⟩
theorem EvC.tr (ht : Tr P fr ro ds l.toArray st.nx l st.clr its st') (hq : Q .normal (st'.fin (st.nx + its.length))) : EvC P fr ro ds (.region id l.toArray false) st Q :=
 .clrQ (.region (.tr rfl ht hq))
theorem EvC.trd (h : trun P fr l l st.nx st.clr = .done ok its st') (hok : ok = true) (hq : Q .normal (st'.fin (st.nx + its.length))) : EvC P fr ro ds (.region id l.toArray false) st Q :=
 .tr (.done h hok) hq
theorem EvC.drw (hm : P.follows .mixedOrders = true) (ht : Tr P fr ro ds l.toArray st.nx l st.clr its st') (hc : confAll its 0 its = true) (hq : Q .normal (st'.fin (st.nx + its.length))) : EvC P fr ro ds (.region id l.toArray true) st Q :=
 .clrQ (.draw hm ht hc hq)
theorem EvC.drd (hm : P.follows .mixedOrders = true) (h : trun P fr l l st.nx st.clr = .done ok its st') (hok : ok = true) (hc : confAll its 0 its = true) (hq : Q .normal (st'.fin (st.nx + its.length))) : EvC P fr ro ds (.region id l.toArray true) st Q :=
 .drw hm (.done h hok) hc hq
end
theorem inI64_of {x : Int} (h1 : -9223372036854775808 ≤ x) (h2 : x ≤ 9223372036854775807) : inI64 x = true := by
 rw [inI64_eq]; simp only [Bool.and_eq_true, decide_eq_true_eq]; exact ⟨h1, h2⟩
theorem imp_and1 (x y : Bool) : (!(x && y) || x) = true := by cases x <;> cases y <;> rfl
theorem imp_and2 (x y z : Bool) : (!(x && y && z) || x) = true := by cases x <;> cases y <;> cases z <;> rfl
theorem imp_and3 (x y z u : Bool) : (!(x && y && z && u) || x) = true := by cases x <;> cases y <;> cases z <;> cases u <;> rfl
theorem imp_and4 (x y z u v : Bool) : (!(x && y && z && u && v) || x) = true := by cases x <;> cases y <;> cases z <;> cases u <;> cases v <;> rfl
attribute [go_sem] St.fin gb imp_and1 imp_and2 imp_and3 imp_and4 Bool.not_not Bool.or_not_self Bool.not_or_self trun TRes.cons efRc efRcG rdOf memless adrOp AV.idsA opIdsA opSlots odds opIds AV.ids AV.idss run1 Rc.mem Op.operands Call.operands wl depsOf confOne confAll
 Array.toList_append Array.append_assoc List.append_toArray List.getElem?_toArray Option.getD_none Option.getD_some Int.toNat_natCast List.take_length Int.le_refl Nat.le_refl Int.natCast_nonneg List.length_map List.getElem?_map Int.natCast_zero Int.natCast_add
def toIa (i : Nat) (cs : List AV) : AV → AV
 | .rf j off => if j = i then .ia (cs.drop off) else .rf j off
 | v => v
def St.frzB (i : Nat) (st : St) : Option St :=
 match mlook st.mem i with
 | some (.cells cs) => if AV.norefs cs = true then some ((⟨st.vars, st.tmps, mdel st.mem i, st.nx⟩ : St).map (AV.deep (toIa i cs))) else none
 | _ => none
section
variable {P : Program} {fr : Fr} {ro : Option Nat} {ds : DS} {st st' : St} {Q Q' : Exit → St → Prop} {G G' : Nat → Option Value} {F F' : Nat → Nat → Prop} {a : Act} {w w' : World} {x y c : Code}
 {M : Mem} {ops : Array Oper} {l rest : List Oper} {o : Oper}
theorem simM_frzB {nx i : Nat} {cs : List AV} (hm : SimM P G F M nx w) (ho : mlook M i = some (.cells cs)) :
  ∃ b, G i = some (.pointer (some ⟨b, 0, none⟩)) ∧ SimM P G (frzF F b cs.length) (mdel M i) nx w ∧ Step All G F M w G (frzF F b cs.length) (mdel M i) w := by
 obtain ⟨b, cc, e, h1, h2, h3, h4, h5⟩ := (hm.obj i _ ho).2
 have S : Step All G F M w G (frzF F b cs.length) (mdel M i) w :=
  { kept := .refl
    size := Nat.le_refl _
    out := fun _ _ _ => rfl
    F1 := fun _ _ h => .inl h
    F2 := fun _ _ _ => rfl
    F3 := fun b' o h => by
     rcases h with h | ⟨rfl, _⟩
     ·exact .inl h
     ·exact .inr (.inr ⟨i, _, _, ho, h1, rfl⟩)
    own := fun b ⟨id, o, v, h3, h4, h5⟩ => by
     rw [mlook_mdel] at h3
     by_cases hi : id = i
     ·rw [if_pos hi] at h3; cases h3
     ·rw [if_neg hi] at h3; exact .inr ⟨id, o, v, h3, h4, h5⟩
    some' := fun _ _ h => h
    same := fun _ _ _ h _ => h
    keep := fun id o' _ hG h3 => by
     obtain ⟨v, hv⟩ := Option.ne_none_iff_exists'.1 hG
     rw [mlook_mdel] at h3
     by_cases hi : id = i
     ·rw [if_pos hi] at h3; cases h3
     ·rw [if_neg hi] at h3
      exact ⟨o', v, v, h3, hv, hv, objKeep.refl v o'⟩ }
 have ne : ∀ {id}, mlook (mdel M i) id ≠ none → id ≠ i ∧ mlook M id ≠ none := fun {id} h => by
  rw [mlook_mdel] at h
  by_cases hi : id = i
  ·rw [if_pos hi] at h; exact absurd rfl h
  ·rw [if_neg hi] at h; exact ⟨hi, h⟩
 refine ⟨b, h1, simM_gen hm S (fun id o' h => ?_) (fun id id' v v' b' k1 k2 => hm.inj id id' v v' b' (ne k1).2 (ne k2).2) (fun b' o h => ?_), S⟩
 ·have hne := ne (id := id) (by rw [h]; simp)
  have h' : mlook M id = some o' := by
   rw [mlook_mdel, if_neg hne.1] at h; exact h
  refine ⟨(hm.obj id _ h').1, .inr ⟨h', rfl, fun b' v hG hb => ⟨rfl, fun o hF => ?_⟩⟩⟩
  rcases hF with hF | ⟨rfl, _⟩
  ·exact hF
  ·exact absurd (hm.inj id i _ _ _ (by rw [h']; simp) (by rw [ho]; simp) hG h1 hb rfl) hne.1
 ·rcases h with h | ⟨rfl, _⟩
  ·exact hm.inF _ _ h
  ·exact (Array.getElem?_eq_some_iff.1 h2).1
theorem SimA.frzB {i : Nat} {st' : St} (s : SimA P fr ds G F st a w) (h : st.frzB i = some st') : ∃ F', SimA P fr ds G F' st' a w ∧ Step (· < fr.base) G F st.mem w G F' st'.mem w := by
 unfold St.frzB at h
 split at h
 ·rename_i cs ho
  split at h
  ·rename_i hn
   cases h
   obtain ⟨b, hG, hm', S'⟩ := simM_frzB s.sim.mem ho
   refine ⟨_, ?_, S'.mono fun _ _ => trivial⟩
   have s1 : SimA P fr ds G (frzF F b cs.length) ⟨st.vars, st.tmps, mdel st.mem i, st.nx⟩ a w := ⟨⟨hm', fun k => (s.sim.slots k).step S' (fun _ _ => trivial), s.sim.size⟩, s.fresh, s.defers⟩
   obtain ⟨b', cc, e, h1, h2, h3, h4, h5⟩ := (s.sim.mem.obj i _ ho).2
   rw [hG] at h1; cases h1
   refine s1.map rfl fun v y h => h.deep fun v y h => ?_
   unfold toIa
   split
   ·rename_i j off
    split
    ·rename_i hj
     subst hj
     obtain ⟨b', hG', rfl⟩ := h.inv_rf
     rw [hG] at hG'; cases hG'
     refine .imm (.ia b off (cs.drop off) (fun j => (cc[off + j]?).getD undef) (fun k hk => ⟨.inr ⟨rfl, by simp at hk; omega⟩, ?_⟩) (fun k hk => ?_))
     ·rw [cell?_block h2]
      simp only [List.length_drop] at hk
      rw [Array.getElem?_eq_getElem (by omega)]; rfl
     ·simp only [List.length_drop] at hk
      rw [List.getElem_drop, Array.getElem?_eq_getElem (by omega)]
      exact ((h4 (off + k) (by omega) (by omega)).step S' (fun _ _ => trivial)).imm_of (norefs_get cs hn _ _)
    ·exact h
   ·exact h
  ·cases h
 ·cases h
theorem EvC.frzB (i : Nat) {st' : St} (h : st.frzB i = some st') (hc : EvC P fr ro ds c st' Q) : EvC P fr ro ds c st Q :=
 EvC.conv (fun _ _ _ _ s => let ⟨F', s', S'⟩ := s.frzB h; ⟨_, F', s', S'⟩) hc
theorem OpIs.skipv {id j k : Nat} {want : Bool} (v : AV) (hg : o.guard = some (j, want)) (hj : gslot ops j = some k) (hk : gval want (st.get fr k) = some false) (hd : dok fr o.dst = true) : OpIs P fr ro ds ops id st ⟨o, ⟨.opt false v, none⟩, [2 * k]⟩ := by
 intro st' G F a w N K Q1 s hN hG hl h
 have hw := wantedD s hg hj (by rw [look_slot (hl _ List.mem_cons_self)]; exact hk)
 rw [hw]
 simp only [Bool.false_eq_true, if_false]
 exact ⟨fun _ _ => trivial, s.skip hd (.imm (.opt false _ _ (fun h => by cases h) (fun _ => rfl))) h⟩
end
attribute [go_sem] St.frzB toIa
theorem cell?_put {w : World} {l : Nat} {ob : Obj} {b o : Nat} (h : b ≠ l) : (w.putObj l ob).cell? ⟨b, o, none⟩ = w.cell? ⟨b, o, none⟩ := cell?_same (World.putObj_heap_other h) o
theorem unfroz_nd {o : Obj} (h : isData o = false) : unfroz o = true := by cases o <;> simp_all [isData, unfroz]
theorem Step.putAbove {G : Nat → Option Value} {F : Nat → Nat → Prop} {M : Mem} {w : World} {B : Nat → Prop} {G0 : Nat → Option Value} {F0 : Nat → Nat → Prop} {M0 : Mem} {w0 : World} {l : Nat} {o1 : Obj} (S : Step B G0 F0 M0 w0 G F M w) (hl : w0.heap.size ≤ l) (h : w.heap[l]? = some o1) (h1 : isData o1 = false) {o2 : Obj} (h2 : isData o2 = false) : Step B G0 F0 M0 w0 G F M (w.putObj l o2) :=
 { kept := S.kept.trans (.set h (unfroz_nd h1) (unfroz_nd h2) (fun _ _ h => by subst h; cases h1))
   size := by rw [World.putObj_size]; exact S.size
   out := fun b hb ho => by rw [World.putObj_heap_other (by omega)]; exact S.out b hb ho
   F1 := S.F1
   F2 := fun b o hF => by
    by_cases e : b = l
    ·subst e
     have k := S.F2 b o hF
     rw [← k]
     simp only [World.cell?, h, World.putObj_heap_same (Array.getElem?_eq_some_iff.1 h).1]
     cases o1 <;> cases o2 <;> simp_all [isData]
    ·rw [cell?_put e]; exact S.F2 b o hF
   F3 := S.F3, own := S.own, some' := S.some', same := S.same, keep := S.keep }
structure EnvStep (O : Nat → Prop) (F : Nat → Nat → Prop) (w : World) (F' : Nat → Nat → Prop) (w' : World) : Prop where
 size : w.heap.size ≤ w'.heap.size
 own : ∀ b, O b → w'.heap[b]? = w.heap[b]?
 F1 : ∀ b o, F b o → F' b o
 F2 : ∀ b o, F b o → w'.cell? ⟨b, o, none⟩ = w.cell? ⟨b, o, none⟩
 F3 : ∀ b o, F' b o → O b → F b o
 inF : ∀ b o, F' b o → b < w'.heap.size
 kept : Kept w w'
structure ItStep (O : Nat → Prop) (F : Nat → Nat → Prop) (w : World) (O' : Nat → Prop) (F' : Nat → Nat → Prop) (w' : World) : Prop where
 size : w.heap.size ≤ w'.heap.size
 out : ∀ b, b < w.heap.size → ¬ O b → w'.heap[b]? = w.heap[b]?
 F1 : ∀ b o, F b o → F' b o
 F2 : ∀ b o, F b o → w'.cell? ⟨b, o, none⟩ = w.cell? ⟨b, o, none⟩
 F3 : ∀ b o, F' b o → F b o ∨ w.heap.size ≤ b ∨ O b
 own : ∀ b, O' b → w.heap.size ≤ b ∨ O b
 inF : ∀ b o, F' b o → b < w'.heap.size
 low : ∀ b, O' b → b < w'.heap.size
 kept : Kept w w'
abbrev Env := Option Nat → (Nat → Nat → Prop) → (Nat → Prop) → World → Prop
def Stable (J : Env) : Prop := ∀ k F O w F' O' w', J k F O w → ItStep O F w O' F' w' → J k F' O' w'
def Yields (P : Program) (J : Env) (l : Nat) (xs : List (List AV)) : Prop :=
 ∀ k F O w vals (h : k < xs.length), FOk F w → (∀ b, O b → b < w.heap.size) → Imms F w vals xs[k] → J (some k) F O w →
   YieldAt Fence.wide 0 P l vals.toArray w fun e w' => ∃ F', EnvStep O F w F' w' ∧ ((e = .returned (.bool true) ∧ J (some (k + 1)) F' O w') ∨ (e = .returned (.bool false) ∧ J none F' O w'))
def yv (l : Nat) : Value := .func (.yield l) #[] #[]
def SeqIsG (P : Program) (g : FuncId) (caps : List AV) (n : Nat) (Y : Env → Nat → Prop) : Prop :=
 callable P g ∧ ∀ (l : Nat) (J : Env), Stable J → Y J l → ∀ F w vals, FOk F w → Imms F w vals caps → J (some 0) F (fun _ => False) w →
  CallsIn Fence.wide 0 P g (#[yv l] ++ vals.toArray) w fun e w' => ∃ v F', e = .returned v ∧ (J (some n) F' (fun _ => False) w' ∨ J none F' (fun _ => False) w')
def SeqIs (P : Program) (g : FuncId) (caps : List AV) (xs : List (List AV)) : Prop := SeqIsG P g caps xs.length fun J l => Yields P J l xs
theorem EnvStep.refl {O : Nat → Prop} {F : Nat → Nat → Prop} {w : World} (h : ∀ b o, F b o → b < w.heap.size) : EnvStep O F w F w :=
 ⟨Nat.le_refl _, fun _ _ => rfl, fun _ _ h => h, fun _ _ _ => rfl, fun _ _ h _ => h, h, .refl⟩
theorem EnvStep.trans {O : Nat → Prop} {F F1 F2 : Nat → Nat → Prop} {w w1 w2 : World} (h : EnvStep O F w F1 w1) (k : EnvStep O F1 w1 F2 w2) : EnvStep O F w F2 w2 :=
 ⟨Nat.le_trans h.size k.size, fun b hb => (k.own b hb).trans (h.own b hb), fun b o hf => k.F1 b o (h.F1 b o hf), fun b o hf => (k.F2 b o (h.F1 b o hf)).trans (h.F2 b o hf), fun b o hf hb => h.F3 b o (k.F3 b o hf hb) hb, k.inF, h.kept.trans k.kept⟩
theorem EnvStep.sub {O O' : Nat → Prop} {F F1 : Nat → Nat → Prop} {w w1 : World} (h : EnvStep O F w F1 w1) (hs : ∀ b, O' b → O b) : EnvStep O' F w F1 w1 :=
 ⟨h.size, fun b hb => h.own b (hs b hb), h.F1, h.F2, fun b o hf hb => h.F3 b o hf (hs b hb), h.inF, h.kept⟩
structure GS (B : Nat → Prop) (G : Nat → Option Value) (F : Nat → Nat → Prop) (M : Mem) (w : World) (G' : Nat → Option Value) (F' : Nat → Nat → Prop) (M' : Mem) (w' : World) : Prop where
 F1 : ∀ b o, F b o → F' b o
 F2 : ∀ b o, F b o → w'.cell? ⟨b, o, none⟩ = w.cell? ⟨b, o, none⟩
 some' : ∀ id, B id → G id ≠ none → G' id ≠ none
 same : ∀ id v, B id → G id = some v → (∀ a n c, v ≠ .slice a n c) → G' id = some v
 keep : ∀ id o', B id → G id ≠ none → mlook M' id = some o' → ∃ o v v', mlook M id = some o ∧ G id = some v ∧ G' id = some v' ∧ objKeep v v' o o'
theorem Step.gs {B : Nat → Prop} {G G' : Nat → Option Value} {F F' : Nat → Nat → Prop} {M M' : Mem} {w w' : World} (S : Step B G F M w G' F' M' w') : GS B G F M w G' F' M' w' := ⟨S.F1, S.F2, S.some', S.same, S.keep⟩
theorem GS.trans {B : Nat → Prop} {G G' G'' : Nat → Option Value} {F F' F'' : Nat → Nat → Prop} {M M' M'' : Mem} {w w' w'' : World} (S : GS B G F M w G' F' M' w') (T : GS B G' F' M' w' G'' F'' M'' w'') : GS B G F M w G'' F'' M'' w'' :=
 { F1 := fun b o h => T.F1 b o (S.F1 b o h)
   F2 := fun b o h => (T.F2 b o (S.F1 b o h)).trans (S.F2 b o h)
   some' := fun id hB hG => T.some' id hB (S.some' id hB hG)
   same := fun id v hB hG hv => T.same id v hB (S.same id v hB hG hv) hv
   keep := fun id o'' hB hG ho => by
    obtain ⟨o', u', u'', ho', hu', hu'', hk'⟩ := T.keep id o'' hB (S.some' id hB hG) ho
    obtain ⟨o, v, v', hoo, hv, hv', hk⟩ := S.keep id o' hB hG ho'
    rw [hu'] at hv'; cases hv'
    exact ⟨o, v, u'', hoo, hv, hu'', hk.trans hk'⟩ }
theorem GS.mono {B C : Nat → Prop} {G G' : Nat → Option Value} {F F' : Nat → Nat → Prop} {M M' : Mem} {w w' : World} (S : GS B G F M w G' F' M' w') (h : ∀ id, C id → B id) : GS C G F M w G' F' M' w' :=
 { S with some' := fun id hC => S.some' id (h id hC), same := fun id v hC => S.same id v (h id hC), keep := fun id o' hC => S.keep id o' (h id hC) }
theorem GS.refl {B : Nat → Prop} {G : Nat → Option Value} {F : Nat → Nat → Prop} {M : Mem} {w : World} : GS B G F M w G F M w := Step.gs (.refl)
theorem GS.ofEnv {B O : Nat → Prop} {G : Nat → Option Value} {F F' : Nat → Nat → Prop} {M : Mem} {w w' : World} (E : EnvStep O F w F' w') : GS B G F M w G F' M w' :=
 { (GS.refl : GS B G F M w G F M w) with F1 := E.F1, F2 := E.F2 }
theorem RV.gs {B : Nat → Prop} {G G' : Nat → Option Value} {F F' : Nat → Nat → Prop} {M M' : Mem} {w w' : World} {v : Value} {x : AV} (h : RV G F M w v x) (S : GS B G F M w G' F' M' w') (hB : ∀ id, G id ≠ none → B id) : RV G' F' M' w' v x := by
 induction h with
 | imm h => exact .imm (h.mono S.F1 S.F2)
 | ag vs cs hl _ ih => exact .ag vs cs hl ih
 | tu vs cs hl _ ih => exact .tu vs cs hl ih
 | ifc t v x _ ih => exact .ifc t v x ih
 | fn f vs cs hl _ ih => exact .fn f vs cs hl ih
 | opt b v x _ h' ih => exact .opt b v x ih h'
 | rf id off b h => exact .rf id off b (S.same id _ (hB id (by simp [h])) h (by simp))
 | mp id b h => exact .mp id b (S.same id _ (hB id (by simp [h])) h (by simp))
 | tl id len nl v hG h =>
   refine .tl id len nl v (S.some' id (hB id hG) hG) fun esz es fz hm => ?_
   obtain ⟨o, u, u', ho, hu, hu', hk⟩ := S.keep id _ (hB id hG) hG hm
   cases o with
   | arr esz0 es0 fz0 =>
     obtain ⟨rfl, hk⟩ := hk
     obtain ⟨h1, h2⟩ := h _ _ _ ho
     rcases hk with ⟨hlen, rfl⟩ | hlt
     ·exact ⟨by omega, fun e => by
       obtain ⟨h3, h4⟩ := h2 (by omega)
       rw [hu] at h3
       exact ⟨hu'.trans h3, h4⟩⟩
     ·exact ⟨by omega, fun e => by omega⟩
   | cells => exact hk.elim
   | map => exact hk.elim
 | tv id n off len cap v hG h =>
   refine .tv id n off len cap v (S.some' id (hB id hG) hG) fun esz es fz hm => ?_
   obtain ⟨o, u, u', ho, hu, hu', hk⟩ := S.keep id _ (hB id hG) hG hm
   cases o with
   | arr esz0 es0 fz0 =>
     obtain ⟨rfl, hk⟩ := hk
     obtain ⟨h1, h2⟩ := h _ _ _ ho
     rcases hk with ⟨hlen, rfl⟩ | hlt
     ·refine ⟨by omega, fun e => ?_⟩
      obtain ⟨h3, b, ko, c, h4, h5⟩ := h2 (by omega)
      rw [hu] at h4
      exact ⟨h3, b, ko, c, hu'.trans h4, h5⟩
     ·exact ⟨by omega, fun e => by omega⟩
   | cells => exact hk.elim
   | map => exact hk.elim
 | ea id n i off v hG h =>
   refine .ea id n i off v (S.some' id (hB id hG) hG) fun esz es fz hm => ?_
   obtain ⟨o, u, u', ho, hu, hu', hk⟩ := S.keep id _ (hB id hG) hG hm
   cases o with
   | arr esz0 es0 fz0 =>
     obtain ⟨rfl, hk⟩ := hk
     obtain ⟨h1, h2⟩ := h _ _ _ ho
     rcases hk with ⟨hlen, rfl⟩ | hlt
     ·refine ⟨by omega, fun e => ?_⟩
      obtain ⟨h3, b, ko, c, h4, h5⟩ := h2 (by omega)
      rw [hu] at h4
      exact ⟨h3, b, ko, c, hu'.trans h4, h5⟩
     ·exact ⟨by omega, fun e => by omega⟩
   | cells => exact hk.elim
   | map => exact hk.elim
def OwnX (G : Nat → Option Value) (M : Mem) (X : Nat → Prop) : Nat → Prop := fun b => Owned G M b ∨ X b
structure YRef where
 X : Nat → Prop
 G : Nat → Option Value
 F : Nat → Nat → Prop
 M : Mem
 w : World
structure OkX (B : Nat → Prop) (R : YRef) (X : Nat → Prop) (G : Nat → Option Value) (F : Nat → Nat → Prop) (M : Mem) (w : World) : Prop where
 env : EnvStep R.X R.F R.w F w
 gs : GS B R.G R.F R.M R.w G F M w
 low : ∀ b, X b → b < w.heap.size
 disj : ∀ b, X b → ¬ Owned G M b
 sub : ∀ b, R.X b → X b
def MarksIn (ro : Option Nat) (L : List Deferred) (X : Nat → Prop) : Prop := (∀ D, dmark D ∈ L → X D) ∧ (∀ l0, ro = some l0 → X l0) ∧ (∀ l0, ro = some l0 → L = [])
def InY (P : Program) (fr : Fr) (ro : Option Nat) (h0 : Nat) (J : Env) (R : YRef) (st : St) (k : Option Nat) (a : Act) (w : World) : Prop :=
 ∃ X L G F, OkX (· < fr.base) R X G F st.mem w ∧ MarksIn ro L X ∧ SimA P fr ⟨h0, ro, some L⟩ G F st a w ∧ J k F (OwnX G st.mem X) w
def PostY (P : Program) (fr : Fr) (ro : Option Nat) (h0 : Nat) (J : Env) (R : YRef) (Q : Exit → St → Option Nat → Prop) (e : Exit) (a' : Act) (w' : World) : Prop :=
 ∃ st' k', InY P fr ro h0 J R st' k' a' w' ∧ Q e st' k'
def EvY (P : Program) (fr : Fr) (ro : Option Nat) (h0 : Nat) (J : Env) (c : Code) (st : St) (k : Option Nat) (Q : Exit → St → Option Nat → Prop) : Prop :=
 ∀ R a w, InY P fr ro h0 J R st k a w → c.wpIn (fc ro) 0 P (PostY P fr ro h0 J R Q) a w
def XRY (P : Program) (fr : Fr) (ro : Option Nat) (h0 : Nat) (J : Env) (ops : Array Oper) (l : List Oper) (st : St) (k : Option Nat) (Q : Exit → St → Option Nat → Prop) : Prop :=
 ∀ R a w, InY P fr ro h0 J R st k a w → wpListIn (fc ro) 0 P ops (PostY P fr ro h0 J R Q) l a w
section
variable {P : Program} {fr : Fr} {ro : Option Nat} {ds : DS} {st st' : St} {G G' : Nat → Option Value} {F F' : Nat → Nat → Prop} {a : Act} {w w' : World} {x y c : Code}
 {M M' : Mem} {ops : Array Oper} {l rest : List Oper} {o : Oper} {h0 : Nat} {X : Nat → Prop} {R : YRef} {J : Env} {k : Option Nat} {Q Q' : Exit → St → Option Nat → Prop} {O : Nat → Prop}
theorem itStep_of {B B' : Nat → Prop} {nx : Nat} (hx : OkX B' R X G F M w) (S : Step B G F M w G' F' M' w') (hm : SimM P G' F' M' nx w') : ItStep (OwnX G M X) F w (OwnX G' M' X) F' w' :=
 ⟨S.size, fun b hb ho => S.out b hb fun h => ho (.inl h), S.F1, S.F2, fun b o h => (S.F3 b o h).imp_right fun h => h.imp_right .inl, fun b h => h.elim (fun h => (S.own b h).imp_right .inl) fun h => .inr (.inr h), hm.inF, fun b h => h.elim (fun h => hm.lt h) fun h => Nat.lt_of_lt_of_le (hx.low b h) S.size, S.kept⟩
theorem OkX.step {B B' : Nat → Prop} {nx : Nat} (h : OkX B R X G F M w) (hB : ∀ id, B id → B' id) (S : Step B' G F M w G' F' M' w') (hm : SimM P G' F' M' nx w') : OkX B R X G' F' M' w' :=
 ⟨h.env.trans ⟨S.size, fun b hb => S.out b (h.low b (h.sub b hb)) (h.disj b (h.sub b hb)), S.F1, S.F2, fun b o hf hb => (S.F3 b o hf).elim id fun hh => hh.elim (fun hh => absurd hh (Nat.not_le_of_lt (h.low b (h.sub b hb)))) fun hh => absurd hh (h.disj b (h.sub b hb)), hm.inF, S.kept⟩,
  h.gs.trans (S.gs.mono hB), fun b hb => Nat.lt_of_lt_of_le (h.low b hb) S.size, fun b hb ho => (S.own b ho).elim (fun hh => absurd hh (Nat.not_le_of_lt (h.low b hb))) (h.disj b hb), h.sub⟩
theorem OkX.envs {B : Nat → Prop} (h : OkX B R X G F M w) (E : EnvStep O F w F' w') (hO : ∀ b, X b → O b) : OkX B R X G F' M w' :=
 ⟨h.env.trans (E.sub fun b hb => hO b (h.sub b hb)), h.gs.trans (.ofEnv E), fun b hb => Nat.lt_of_lt_of_le (h.low b hb) E.size, h.disj, h.sub⟩
theorem EvY.mono (h : EvY P fr ro h0 J c st k Q) (hq : ∀ e st k, Q e st k → Q' e st k) : EvY P fr ro h0 J c st k Q' :=
 fun R a w i => wpIn_mono (h R a w i) fun _ _ _ ⟨st', k', h1, h2⟩ => ⟨st', k', h1, hq _ _ _ h2⟩
theorem InY.step {B : Nat → Prop} (hJ : Stable J) (h : OkX (· < fr.base) R X G F st.mem w) {L : List Deferred} (hm : MarksIn ro L X) (hj : J k F (OwnX G st.mem X) w) {a' : Act} (s : SimA P fr ⟨h0, ro, some L⟩ G' F' st' a' w') (hB : ∀ id, id < fr.base → B id) (S : Step B G F st.mem w G' F' st'.mem w') : InY P fr ro h0 J R st' k a' w' :=
 ⟨X, L, G', F', h.step hB S s.sim.mem, hm, s, hJ _ _ _ _ _ _ _ hj (itStep_of h S s.sim.mem)⟩
theorem EvY.lift (hJ : Stable J) (h : ∀ {L : List Deferred}, EvC P fr ro ⟨h0, ro, some L⟩ c st fun e st' => Q e st' k) : EvY P fr ro h0 J c st k Q :=
 fun R a w ⟨X, L, G, F, hx, hm, s, hj⟩ => wpIn_mono (h (L := L) G F st.mem w G F a w .refl s) fun _ _ _ ⟨G', F', st', h1, h2, h3⟩ => ⟨st', k, .step hJ hx hm hj h1 (fun _ h => h) h2, h3⟩
def thenY (K : St → Option Nat → Prop) (Q : Exit → St → Option Nat → Prop) : Exit → St → Option Nat → Prop
 | .normal, st, k => K st k
 | e, st, k => Q e st k
theorem EvY.seq (h : EvY P fr ro h0 J x st k (thenY (fun st' k' => EvY P fr ro h0 J y st' k' Q) Q)) : EvY P fr ro h0 J (.seq x y) st k Q :=
 fun R a w i => wpIn_seq (wpIn_mono (h R a w i) fun e a' w' ⟨st', k', h1, h3⟩ => by
  cases e with
  | normal => exact h3 _ _ _ h1
  | _ => exact ⟨st', k', h1, h3⟩)
theorem EvY.seqL (hJ : Stable J) (h : ∀ {L : List Deferred}, EvC P fr ro ⟨h0, ro, some L⟩ x st (thenE (fun st' => EvY P fr ro h0 J y st' k Q) fun e st' => Q e st' k)) : EvY P fr ro h0 J (.seq x y) st k Q :=
 .seq (.lift hJ (h.mono fun e st' hq => by cases e <;> exact hq))
theorem EvY.conv (hJ : Stable J) (hv : ∀ L G F a w, SimA P fr ⟨h0, ro, some L⟩ G F st a w → ∃ G' F', SimA P fr ⟨h0, ro, some L⟩ G' F' st' a w ∧ Step (· < fr.base) G F st.mem w G' F' st'.mem w) (h : EvY P fr ro h0 J c st' k Q) : EvY P fr ro h0 J c st k Q :=
 fun R a w ⟨X, L, G, F, hx, hm, s, hj⟩ => by
  obtain ⟨G', F', s', S'⟩ := hv _ _ _ _ _ s
  exact h _ _ _ (.step hJ hx hm hj s' (fun _ h => h) S')
theorem EvY.frz (hJ : Stable J) (i : Nat) (h : st.frz i = some st') (hc : EvY P fr ro h0 J c st' k Q) : EvY P fr ro h0 J c st k Q :=
 .conv hJ (fun _ _ _ _ _ s => let ⟨F', s', S'⟩ := s.frz h; ⟨_, F', s', S'⟩) hc
theorem EvY.fz (hJ : Stable J) (i : Nat) (h : st.fz i = some st') (hc : EvY P fr ro h0 J c st' k Q) : EvY P fr ro h0 J c st k Q :=
 .conv hJ (fun _ _ _ _ _ s => let ⟨F', s', S'⟩ := s.fz h; ⟨_, F', s', S'⟩) hc
theorem EvY.frzB (hJ : Stable J) (i : Nat) (h : st.frzB i = some st') (hc : EvY P fr ro h0 J c st' k Q) : EvY P fr ro h0 J c st k Q :=
 .conv hJ (fun _ _ _ _ _ s => let ⟨F', s', S'⟩ := s.frzB h; ⟨_, F', s', S'⟩) hc
theorem EvY.gc (hJ : Stable J) (L : List Nat) (K : List (Nat × Nat)) (nx : Nat) (hk : gcOk fr.base nx K = true) (hc : EvY P fr ro h0 J c (st.gc L K nx) k Q) : EvY P fr ro h0 J c st k Q :=
 .conv hJ (fun _ _ _ _ _ s => let ⟨s', S'⟩ := s.gc (L := L) hk; ⟨_, _, s', S'⟩) hc
theorem EvY.skip (h : Q .normal st k) : EvY P fr ro h0 J .skip st k Q := fun _ _ _ i => wpIn_skip ⟨st, k, i, h⟩
theorem EvY.ret (h : Q .ret st k) : EvY P fr ro h0 J .ret st k Q := fun _ _ _ i => wpIn_ret ⟨st, k, i, h⟩
theorem EvY.exit {id : Nat} (h : Q (.exit id) st k) : EvY P fr ro h0 J (.exit id) st k Q := fun _ _ _ i => wpIn_exit ⟨st, k, i, h⟩
def inBlockY (id : Nat) (Q : Exit → St → Option Nat → Prop) : Exit → St → Option Nat → Prop
 | .exit id', st, k => if id' = id then Q .normal st k else Q (.exit id') st k
 | e, st, k => Q e st k
theorem EvY.block {id : Nat} (h : EvY P fr ro h0 J c st k (inBlockY id Q)) : EvY P fr ro h0 J (.block id c) st k Q :=
 fun R a w i => wpIn_block (wpIn_mono (h R a w i) fun e a' w' ⟨st', k', h1, h3⟩ => by
  cases e with
  | exit id' =>
    simp only [Exit.inBlock]
    simp only [inBlockY] at h3
    split
    ·rename_i hi; rw [if_pos hi] at h3; exact ⟨st', k', h1, h3⟩
    ·rename_i hi; rw [if_neg hi] at h3; exact ⟨st', k', h1, h3⟩
  | _ => exact ⟨st', k', h1, h3⟩)
theorem EvY.cond {o : Operand} {b : Bool} (ho : opnd fr st o = .sc (.bool b)) (ht : b = true → EvY P fr ro h0 J x st k Q) (hf : b = false → EvY P fr ro h0 J y st k Q) : EvY P fr ro h0 J (.cond o x y) st k Q :=
 fun _ _ _ i => wpIn_cond_split (by obtain ⟨X, L, G, F, hx, hm, s, hj⟩ := i; have := s.eval o; rw [ho] at this; exact this.inv_sc) (fun h => ht h _ _ _ i) (fun h => hf h _ _ _ i)
theorem EvY.cond_true {o : Operand} (ho : opnd fr st o = .sc (.bool true)) (ht : EvY P fr ro h0 J x st k Q) : EvY P fr ro h0 J (.cond o x y) st k Q := .cond ho (fun _ => ht) (fun h => by cases h)
theorem EvY.cond_false {o : Operand} (ho : opnd fr st o = .sc (.bool false)) (ht : EvY P fr ro h0 J y st k Q) : EvY P fr ro h0 J (.cond o x y) st k Q := .cond ho (fun h => by cases h) (fun _ => ht)
theorem EvY.loopS {σ : Type} (hJ : Stable J) (sh : σ → St) (kf : σ → Nat) (μ : σ → Nat) (inv : σ → Prop) (L : List Nat) (nx : Nat)
  (h1 : ∃ K s, gcOk fr.base nx K = true ∧ st.gc L K nx = sh s ∧ inv s ∧ k = some (kf s))
  (round : ∀ s, inv s → EvY P fr ro h0 J c (sh s) (some (kf s)) (thenY (fun st' k' => ∃ K s', gcOk fr.base nx K = true ∧ st'.gc L K nx = sh s' ∧ inv s' ∧ k' = some (kf s') ∧ μ s' < μ s) Q)) : EvY P fr ro h0 J (.loop c) st k Q := by
 intro R a w i
 let I : Act → World → σ → Prop := fun a w t => InY P fr ro h0 J R (sh t) (some (kf t)) a w ∧ inv t
 have gc : ∀ {a w st k K t}, InY P fr ro h0 J R st k a w → gcOk fr.base nx K = true → st.gc L K nx = sh t → inv t → k = some (kf t) → I a w t := by
  rintro a w st k K t ⟨X, L', G, F, hx, hm, s, hj⟩ hk he hi rfl
  obtain ⟨s', S'⟩ := s.gc (L := L) hk
  rw [he] at s' S'
  exact ⟨.step hJ hx hm hj s' (fun _ h => h) S', hi⟩
 obtain ⟨K, t, h2, h3, h4, h5⟩ := h1
 refine wpIn_loop (fun a w => ∃ t, I a w t) (fun a w => leastOf fun n => ∃ t, I a w t ∧ μ t = n) ⟨t, gc i h2 h3 h4 h5⟩ ?_
 rintro a w ⟨t1, ht1⟩
 obtain ⟨t, ⟨i, hI⟩, hn⟩ := leastOf_spec (p := fun n => ∃ t, I a w t ∧ μ t = n) ⟨_, t1, ht1, rfl⟩
 refine wpIn_mono (round t hI _ _ _ i) fun e a' w' ⟨st', k', q1, q3⟩ => ?_
 cases e with
 | normal =>
   obtain ⟨K', t', p1, p2, p3, p4, p5⟩ := q3
   have hI' := gc q1 p1 p2 p3 p4
   refine ⟨⟨t', hI'⟩, ?_⟩
   have := leastOf_le (p := fun n => ∃ t, I a' w' t ∧ μ t = n) ⟨t', hI', rfl⟩
   rw [hn] at p5
   exact Nat.lt_of_le_of_lt this p5
 | _ => exact ⟨st', k', q1, q3⟩
theorem xrun_gen : ∀ {l : List Oper} {st : St} {ok ok' : Bool} {st' : St} {rest : List Oper}, (xrun P fr l st ok = .done ok' st' ∧ rest = [] ∨ xrun P fr l st ok = .stop ok' st' rest) → ok' = true →
  ok = true ∧ ∀ (R : Exit → Act → World → Prop) G F a w, SimA P fr ds G F st a w → (∀ G' F' a' w', SimA P fr ds G' F' st' a' w' → Step All G F st.mem w G' F' st'.mem w' → wpListIn (fc ro) 0 P ops R rest a' w') → wpListIn (fc ro) 0 P ops R l a w
 | [], st, ok, ok', st', rest, h, hok => by
   rcases h with ⟨h, rfl⟩ | h
   ·cases h; exact ⟨hok, fun R G F a w s hR => hR _ _ _ _ s .refl⟩
   ·cases h
 | o :: l, st, ok, ok', st', rest, h, hok => by
   unfold xrun at h
   split at h
   ·rcases h with ⟨h, _⟩ | h
    ·cases h
    ·cases h; exact ⟨hok, fun R G F a w s hR => hR _ _ _ _ s .refl⟩
   ·rename_i hg
    split at h
    ·rcases h with ⟨h, _⟩ | h
     ·cases h
     ·cases h; exact ⟨hok, fun R G F a w s hR => hR _ _ _ _ s .refl⟩
    ·rename_i hd
     split at h
     ·rcases h with ⟨h, _⟩ | h
      ·cases h
      ·cases h; exact ⟨hok, fun R G F a w s hR => hR _ _ _ _ s .refl⟩
     ·rename_i b st1 he
      obtain ⟨h2, ih⟩ := xrun_gen h hok
      simp only [Bool.and_eq_true] at h2
      exact ⟨h2.1, fun R G F a w s hR => wpListIn_plain hg fun K hK => s.wp he h2.2 (dok_spec hd) fun _ _ _ _ s' S' => hK _ _ (ih R _ _ _ _ s' fun _ _ _ _ s2 S2 => hR _ _ _ _ s2 (S'.trans S2))⟩
theorem EvY.region {id : Nat} {l : List Oper} (h : XRY P fr ro h0 J l.toArray l st.clr k fun e st k => Q e st.clr k) : EvY P fr ro h0 J (.region id l.toArray false) st k Q :=
 fun R a w ⟨X, L, G, F, hx, hm, s, hj⟩ => wpIn_mono (wpIn_region_lit (h R _ _ ⟨X, L, G, F, hx, hm, s.clr, hj⟩)) fun _ _ _ ⟨st', k', ⟨X', L', G', F', h1, h2, h3, h4⟩, h5⟩ => ⟨st'.clr, k', ⟨X', L', G', F', h1, h2, h3.clr, h4⟩, h5⟩
theorem XRY.nil (h : Q .normal st k) : XRY P fr ro h0 J ops [] st k Q := fun _ _ _ i => ⟨st, k, i, h⟩
theorem XRY.run {ok : Bool} (hJ : Stable J) (h : xrun P fr l st true = .stop ok st' rest) (hok : ok = true) (hq : XRY P fr ro h0 J ops rest st' k Q) : XRY P fr ro h0 J ops l st k Q :=
 fun _ a w ⟨_, _, G, F, hx, hm, s, hj⟩ => (xrun_gen (.inr h) hok).2 _ G F a w s fun _ _ _ _ s' S' => hq _ _ _ (.step hJ hx hm hj s' (fun _ _ => trivial) S')
theorem XRY.done {ok : Bool} (hJ : Stable J) (h : xrun P fr l st true = .done ok st') (hok : ok = true) (hq : Q .normal st' k) : XRY P fr ro h0 J ops l st k Q :=
 fun _ a w ⟨_, _, G, F, hx, hm, s, hj⟩ => (xrun_gen (.inl ⟨h, rfl⟩) hok).2 _ G F a w s fun _ _ _ _ s' S' => ⟨st', k, .step hJ hx hm hj s' (fun _ _ => trivial) S', hq⟩
theorem Imm.env {v : Value} {x : AV} (h : Imm F w v x) (E : EnvStep O F w F' w') : Imm F' w' v x := h.mono E.F1 E.F2
theorem RV.env {v : Value} {x : AV} (h : RV G F M w v x) (E : EnvStep O F w F' w') : RV G F' M w' v x := by
 induction h with
 | imm h => exact .imm (h.env E)
 | ag vs cs hl _ ih => exact .ag vs cs hl ih
 | tu vs cs hl _ ih => exact .tu vs cs hl ih
 | ifc t v x _ ih => exact .ifc t v x ih
 | fn f vs cs hl _ ih => exact .fn f vs cs hl ih
 | opt b v x _ h' ih => exact .opt b v x ih h'
 | rf id off b h => exact .rf id off b h
 | tl id len nl v hG h => exact .tl id len nl v hG h
 | tv id n off len cap v hG h => exact .tv id n off len cap v hG h
 | ea id n i off v hG h => exact .ea id n i off v hG h
 | mp id b h => exact .mp id b h
theorem ObjOk.env {id : Nat} {ob : RObj} (h : ObjOk P G F M w id ob) (E : EnvStep O F w F' w') (hO : ∀ v b, G id = some v → blkOf v = some b → O b) : ObjOk P G F' M w' id ob := by
 cases ob with
 | cells cs =>
   obtain ⟨b, c, e, h1, h2, h3, h4, h5⟩ := h
   have hb := hO _ b h1 rfl
   exact ⟨b, c, e, h1, (E.own b hb).trans h2, h3, fun i a b => (h4 i a b).env E, fun o hF => h5 o (E.F3 _ _ hF hb)⟩
 | arr esz es fz =>
   rcases h with h | ⟨b, ko, c, cc, e, h1, h2, h3, h4, h5, h6, h7, h8, h9⟩
   ·exact .inl h
   ·have hb := hO _ b h1 (by simp [blkOf, h2])
    exact .inr ⟨b, ko, c, cc, e, h1, h2, (E.own b hb).trans h3, h4, h5, h6, fun i j a b => let ⟨v, x, y, z⟩ := h7 i j a b; ⟨v, x, y, z.env E⟩, fun o hF => h8 o (E.F3 _ _ hF hb), fun hz => ⟨(h9 hz).1, fun o ho => E.F1 _ _ ((h9 hz).2 o ho)⟩⟩
 | map kt es =>
   obtain ⟨b, ents, clock, h1, h2, h3, h4, h5⟩ := h
   have hb := hO _ b h1 rfl
   exact ⟨b, ents, clock, h1, (E.own b hb).trans h2, h3, fun i a b => let ⟨x, y, z⟩ := h4 i a b; ⟨x, y.env E, z⟩, fun o hF => h5 o (E.F3 _ _ hF hb)⟩
theorem SimM.env {nx : Nat} (h : SimM P G F M nx w) (E : EnvStep O F w F' w') (hO : ∀ b, Owned G M b → O b) : SimM P G F' M nx w' :=
 ⟨fun id o ho => ⟨(h.obj id o ho).1, (h.obj id o ho).2.env E fun v b h1 h2 => hO b ⟨id, o, v, ho, h1, h2⟩⟩, h.inj, E.inF, h.gl.mono E.F1 E.F2⟩
theorem SimA.env (hmk : ∀ D, dmark D ∈ a.defers → O D) (hro : ∀ l0, ds.ro = some l0 → O l0) (s : SimA P fr ds G F st a w) (E : EnvStep O F w F' w') (hO : ∀ b, Owned G st.mem b → O b) : SimA P fr ds G F' st a w' :=
 ⟨⟨s.sim.mem.env E hO, fun k => (s.sim.slots k).env E, s.sim.size⟩, s.fresh, by
   obtain ⟨⟨Ds, h1, h2, h3⟩, h5, h6, h7⟩ := s.defers
   exact ⟨⟨Ds, h1, h2, fun D hD => ⟨(h3 D hD).1, by rw [E.own D (hmk D (by rw [h1]; exact (DS.mem_app _ _ _).2 hD))]; exact (h3 D hD).2⟩⟩, fun l0 hl => let ⟨r, hr⟩ := h5 l0 hl; ⟨r, by rw [E.own l0 (hro l0 hl)]; exact hr⟩, h6, Nat.le_trans h7 E.size⟩⟩
theorem roundIn_fc {n : Nat} {l : Nat} {f : FuncId} {tmps : Array Value} {assign body : Code} {R : Ending → World → Prop} (h : RoundIn Fence.wide n P l f tmps assign body w R) : RoundIn (fc ro) (0 - 1) P l f tmps assign body w R :=
 ⟨trivial, fun c cs _ => h.2 c cs (room_wide _)⟩
theorem XRY.yield {lp : Nat} {xs : List (List AV)} {n : Nat} {callee : Operand} {args : Array Operand} {tys : Array TypeId} (hn : n < xs.length) (hy : Yields P J lp xs) (hg : o.guard = none) (hop : o.op = .call ⟨.value callee, args, tys⟩) (hd : dok fr o.dst = true)
  (hcal : od fr st true callee = .sc (yv lp)) (hxs : callArgs fr st args = xs[n]) (hnr : AV.norefs xs[n] = true)
  (h : ∀ b : Bool, XRY P fr ro h0 J ops rest ((⟨st.vars, st.tmps, st.mem, st.nx + 1⟩ : St).put fr o.dst (.sc (.bool b))) (if b = true then some (n + 1) else none) Q) : XRY P fr ro h0 J ops (o :: rest) st (some n) Q := by
 rintro R a w ⟨X, L, G, F, hx, hm, s, hj⟩
 refine wpListIn_plain hg fun K hK => ?_
 refine ⟨fun _ _ => trivial, ?_⟩
 rw [Oper.semAt_eq _ _ _ (by rw [hop]; intro c h; cases h)]
 have hv := (s.eval callee).unopt
 have hv : RV G F st.mem w (a.eval callee) (.sc (yv lp)) := by unfold od at hcal; rwa [hcal] at hv
 have hev := hv.inv_sc
 have hi : Imms F w (args.toList.map a.eval) xs[n] := by
  rw [← hxs]
  refine .of_rv (G := G) (M := st.mem) (by simp [callArgs]) (fun i h1 h2 => ?_) (by rw [hxs]; exact hnr)
  simp only [callArgs, List.getElem_map]
  exact ((s.eval _).unopt).snap s.sim.mem
 obtain ⟨fn, tmps, assign, body, hrun, hround⟩ := hy n F (OwnX G st.mem X) w _ hn s.sim.mem.fok (fun b hb => hb.elim (fun hb => s.sim.mem.lt hb) (hx.low b)) hi hj
 have hrun' : (execOp a.eval o).run P w = .ok (.round lp fn tmps assign body) w := by
  obtain ⟨dst, op, ty, pos, after, guard⟩ := o
  simp only at hop
  subst hop
  have e : args.map a.eval = (args.toList.map a.eval).toArray := by apply Array.ext'; simp
  rw [← e] at hrun
  simp only [execOp, resolve, hev, yv, Deferred.ofValue, Sem.run_bind, Sem.run_pure, Result.andThen_ok, invoke]
  simpa using hrun
 rw [hrun', Oper.uponIn_round]
 refine ⟨fun h => by simp [fc, Fence.wide] at h, RoundIn.mono (roundIn_fc hround) ?_⟩
 rintro e w' ⟨F', E, h1⟩
 have hdl : a.defers = L := s.defers.2.2.1 L rfl
 have s1 := s.env (fun D hD => .inr (hm.1 D (by rw [← hdl]; exact hD))) (fun l0 hl => .inr (hm.2.1 l0 hl)) E fun _ h => .inl h
 have hput : ∀ b : Bool, SimA P fr ⟨h0, ro, some L⟩ G F' ((⟨st.vars, st.tmps, st.mem, st.nx + 1⟩ : St).put fr o.dst (.sc (.bool b))) (a.put o.dst (.bool b)) w' := fun b =>
  s1.step_put (st1 := ⟨st.vars, st.tmps, st.mem, st.nx + 1⟩) .refl (s1.sim.mem.more (Nat.le_succ _)) rfl rfl (fun j hj => s.fresh j (Nat.le_of_succ_le hj)) (dok_spec hd) (.imm (.sc _))
 have hx' := hx.envs E fun b hb => .inr hb
 have fin : ∀ (b : Bool), J (if b = true then some (n + 1) else none) F' (OwnX G st.mem X) w' → InY P fr ro h0 J R ((⟨st.vars, st.tmps, st.mem, st.nx + 1⟩ : St).put fr o.dst (.sc (.bool b))) (if b = true then some (n + 1) else none) (a.put o.dst (.bool b)) w' := fun b hj' =>
  ⟨X, L, G, F', by rw [St.put_mem]; exact hx', hm, hput b, by rw [St.put_mem]; exact hj'⟩
 rcases h1 with ⟨rfl, hj'⟩ | ⟨rfl, hj'⟩
 ·exact hK _ _ (h true _ _ _ (fin true hj'))
 ·exact hK _ _ (h false _ _ _ (fin false hj'))
theorem putNd {l : Nat} {o1 o2 : Obj} (h : w.heap[l]? = some o1) (h1 : isData o1 = false) (h2 : isData o2 = false) (b o : Nat) : (w.putObj l o2).cell? ⟨b, o, none⟩ = w.cell? ⟨b, o, none⟩ := by
 by_cases e : b = l
 ·subst e
  simp only [World.cell?, h, World.putObj_heap_same (Array.getElem?_eq_some_iff.1 h).1]
  cases o1 <;> cases o2 <;> simp_all [isData]
 ·exact cell?_put e
theorem ItStep.put {l : Nat} {o1 o2 : Obj} (h : w.heap[l]? = some o1) (h1 : isData o1 = false) (h2 : isData o2 = false) (hO : O l) (hF : ∀ b o, F b o → b < w.heap.size) (hlow : ∀ b, O b → b < w.heap.size) : ItStep O F w O F (w.putObj l o2) :=
 ⟨by rw [World.putObj_size]; exact Nat.le_refl _, fun b _ hb => World.putObj_heap_other (by rintro rfl; exact hb hO), fun _ _ h => h, fun b o _ => putNd h h1 h2 b o, fun _ _ h => .inl h, fun _ h => .inr h, fun b o h => by rw [World.putObj_size]; exact hF b o h, fun b h => by rw [World.putObj_size]; exact hlow b h, .set h (unfroz_nd h1) (unfroz_nd h2) (fun _ _ h => by subst h; cases h1)⟩
theorem SeqIsG.of {f : FuncId} {fn : Func} {caps : List AV} {N : Nat} {Y : Env → Nat → Prop} {nv : Nat} {hid : List Nat} (hf : P.funcs[f]? = some fn) (hb : fn.body = some c) (hnm : (fn.name == "runtime.NumGoroutine") = false) (hsz : caps.length + 1 ≤ fn.ntmps) (hres : fn.results = #[])
  (h : ∀ (l : Nat) (J : Env) (h0 : Nat), Stable J → Y J l → EvY P ⟨0, nv, hid, fn.ntmps⟩ none h0 J c (st0 (.sc (yv l) :: caps)) (some 0) fun e _ k => (e = .ret ∨ e = .normal) ∧ (k = some N ∨ k = none)) (hlt : f < 1000000 := by first | assumption | decide) : SeqIsG P f caps N Y := by
 refine ⟨callable_of hf hnm (by rw [hb]; rfl), fun l J hJ hy F w vals hF hi hj => ?_⟩
 obtain ⟨hl, hi⟩ := hi
 have e0 : #[yv l] ++ vals.toArray = (yv l :: vals).toArray := by simp
 rw [e0]
 have s0 : SimA P ⟨0, nv, hid, fn.ntmps⟩ ⟨w.heap.size, none, some []⟩ (fun _ => none) F (st0 (.sc (yv l) :: caps)) { tmps := (yv l :: vals).toArray ++ Array.replicate (fn.ntmps - (yv l :: vals).toArray.size) undef, defers := [] } w := by
  refine ⟨⟨⟨fun id o h => (by cases h), fun id id' v v' b h => absurd rfl h, hF.1, hF.2⟩, fun k => ?_, by simp; omega⟩, fun _ _ => rfl, Marks.none _ true _ (Nat.le_refl _)⟩
  have key : ∀ x, (x = .junk ∨ ∃ h : k < (AV.sc (yv l) :: caps).length, x = (AV.sc (yv l) :: caps)[k]) → RV (fun _ => none) F (st0 (.sc (yv l) :: caps)).mem w (((yv l :: vals).toArray ++ Array.replicate (fn.ntmps - (yv l :: vals).toArray.size) undef).getD k undef) x := by
   rintro x (rfl | ⟨hk, rfl⟩)
   ·exact .imm (.junk _)
   ·have : ((yv l :: vals).toArray ++ Array.replicate (fn.ntmps - (yv l :: vals).toArray.size) undef).getD k undef = (yv l :: vals)[k]'(by simp at hk ⊢; omega) := by
      rw [Array.getD_eq_getD_getElem?, Array.getElem?_append_left (by simp at hk ⊢; omega)]
      rw [List.getElem?_toArray, List.getElem?_eq_getElem (by simp at hk ⊢; omega)]; rfl
    rw [this]
    cases k with
    | zero => exact .imm (.sc _)
    | succ k => exact .imm (hi k (by simp at hk; omega) (by simpa using hk))
  refine key _ ?_
  unfold St.get
  split
  ·rcases alook_vars0 (.sc (yv l) :: caps) 0 k with h | ⟨h1, h2, h3⟩
   ·exact .inl h
   ·exact .inr ⟨by simpa using h1, by simpa [st0] using h3⟩
  ·exact .inl rfl
 have hj0 : J (some 0) F (OwnX (fun _ => none) (st0 (.sc (yv l) :: caps)).mem fun _ => False) w := hJ _ _ _ _ _ _ _ hj ⟨Nat.le_refl _, fun _ _ _ => rfl, fun _ _ h => h, fun _ _ _ => rfl, fun _ _ h => .inl h, fun b hb => hb.elim (fun ⟨_, _, _, h, _⟩ => (by cases h)) False.elim, hF.1, fun b hb => hb.elim (fun ⟨_, _, _, h, _⟩ => (by cases h)) False.elim, .refl⟩
 refine callsIn_of_wp_marks (F := Fence.wide) hf hb trivial (wpIn_mono (h l J w.heap.size hJ hy ⟨fun _ => False, fun _ => none, F, (st0 (.sc (yv l) :: caps)).mem, w⟩ _ _ ⟨fun _ => False, [], _, _, ⟨.refl hF.1, .refl, fun _ h => h.elim, fun _ h => h.elim, fun _ h => h⟩, ⟨fun _ h => (by cases h), fun _ h => (by cases h), fun _ _ => rfl⟩, s0, hj0⟩) ?_)
 rintro e a' w' ⟨st', k', ⟨X, L, G', F', hx, hm, s', hj'⟩, he, hk⟩
 have hd : a'.defers = L := s'.defers.2.2.1 L rfl
 have hfin : ∀ (Ds : List Nat) (w2 : World), Ds.Nodup → (∀ D ∈ Ds, X D ∧ w2.heap[D]? = some (.deferred (some []))) → J k' F' (OwnX G' st'.mem X) w2 → (∀ b o, F' b o → b < w2.heap.size) → (∀ b, OwnX G' st'.mem X b → b < w2.heap.size) →
   LeavesInM Fence.wide 0 P fn a'.tmps (fun e w' => ∃ v F', e = .returned v ∧ (J (some N) F' (fun _ => False) w' ∨ J none F' (fun _ => False) w')) (Ds.map dmark) .returning w2 := by
  intro Ds
  induction Ds with
  | nil =>
    intro w2 _ _ hj2 hF2 _
    have hj'' : J k' F' (fun _ => False) w2 := hJ _ _ _ _ _ _ _ hj2 ⟨Nat.le_refl _, fun _ _ _ => rfl, fun _ _ h => h, fun _ _ _ => rfl, fun _ _ h => .inl h, fun b h => h.elim, hF2, fun b h => h.elim, .refl⟩
    refine ⟨.tuple #[], by rw [results_eq, hres]; simp [Array.mapM_eq_mapM_toList], _, F', rfl, ?_⟩
    rcases hk with rfl | rfl
    ·exact .inl hj''
    ·exact .inr hj''
  | cons D Ds ih =>
    intro w2 hnd hD hj2 hF2 hl2
    obtain ⟨h1, h2⟩ := hD D List.mem_cons_self
    have hnd := List.nodup_cons.1 hnd
    refine ⟨(by intro h; cases h), .inl ⟨D, _, rfl, run_takeDeferred h2, ih _ hnd.2 (fun D' hD' => ?_) (hJ _ _ _ _ _ _ _ hj2 (.put h2 rfl rfl (.inr h1) hF2 hl2)) (fun b o h => by rw [World.putObj_size]; exact hF2 b o h) fun b h => by rw [World.putObj_size]; exact hl2 b h⟩⟩
    refine ⟨(hD D' (List.mem_cons_of_mem _ hD')).1, ?_⟩
    rw [World.putObj_heap_other (by rintro rfl; exact hnd.1 hD')]; exact (hD D' (List.mem_cons_of_mem _ hD')).2
 obtain ⟨⟨Ds, hDs, hnd, hD⟩, _⟩ := s'.defers
 have hDs : a'.defers = Ds.map dmark := hDs
 have := hfin Ds w' hnd (fun D h => ⟨hm.1 D (by rw [← hd, hDs]; exact List.mem_map.2 ⟨D, h, rfl⟩), (hD D h).2⟩) hj' s'.sim.mem.inF (fun b h => h.elim (fun h => s'.sim.mem.lt h) (hx.low b))
 rw [← hDs] at this
 rcases he with rfl | rfl
 ·exact this
 ·exact this
theorem SeqIs.of {f : FuncId} {fn : Func} {caps : List AV} {xs : List (List AV)} {nv : Nat} {hid : List Nat} (hf : P.funcs[f]? = some fn) (hb : fn.body = some c) (hnm : (fn.name == "runtime.NumGoroutine") = false) (hsz : caps.length + 1 ≤ fn.ntmps) (hres : fn.results = #[])
 (h : ∀ (l : Nat) (J : Env) (h0 : Nat), Stable J → Yields P J l xs → EvY P ⟨0, nv, hid, fn.ntmps⟩ none h0 J c (st0 (.sc (yv l) :: caps)) (some 0) fun e _ k => (e = .ret ∨ e = .normal) ∧ (k = some xs.length ∨ k = none)) (hlt : f < 1000000 := by first | assumption | decide) : SeqIs P f caps xs := SeqIsG.of hf hb hnm hsz hres h
def bindP (fr : Fr) : List Nat → List AV → St → St
 | p :: ps, v :: vs, st => bindP fr ps vs (st.put fr (some p) v)
 | _, _, st => st
theorem Step.put {B : Nat → Prop} {M' : Mem} {l : Nat} (S : Step B G F M w G' F' M' w') (hl : l < w.heap.size) (ob : Obj) : Step B G F M (w.putObj l ob) G' F' M' (w'.putObj l ob) :=
 { kept := ⟨S.kept.os, S.kept.tape, S.kept.output, fun b es c hb => by
   by_cases e : b = l
   ·subst e
    rw [World.putObj_heap_same hl] at hb
    exact ⟨es, c, by rw [World.putObj_heap_same (Nat.lt_of_lt_of_le hl S.size)]; exact hb, List.prefix_refl _⟩
   ·rw [World.putObj_heap_other e] at hb
    obtain ⟨es', c', h1, h2⟩ := S.kept.maps b es c hb
    exact ⟨es', c', by rw [World.putObj_heap_other e]; exact h1, h2⟩⟩
   size := by rw [World.putObj_size, World.putObj_size]; exact S.size
   out := fun b hb ho => by
    rw [World.putObj_size] at hb
    by_cases e : b = l
    ·subst e; rw [World.putObj_heap_same hl, World.putObj_heap_same (Nat.lt_of_lt_of_le hl S.size)]
    ·rw [World.putObj_heap_other e, World.putObj_heap_other e]; exact S.out b hb ho
   F1 := S.F1
   F2 := fun b o hF => by
    by_cases e : b = l
    ·subst e
     exact cell?_same (by rw [World.putObj_heap_same hl, World.putObj_heap_same (Nat.lt_of_lt_of_le hl S.size)]) o
    ·rw [cell?_put e, cell?_put e]; exact S.F2 b o hF
   F3 := fun b o h => by rw [World.putObj_size]; exact S.F3 b o h
   own := fun b h => by rw [World.putObj_size]; exact S.own b h
   some' := S.some', same := S.same, keep := S.keep }
theorem putObj_put {l : Nat} (o1 o2 : Obj) : (w.putObj l o1).putObj l o2 = w.putObj l o2 := by
 unfold World.putObj; simp
theorem SimA.keepData {a : Act} (s : SimA P fr ds G F st a w) (hk : ∀ (b : Nat) (o : Obj), w.heap[b]? = some o → isData o = true → w'.heap[b]? = some o) (hs : w.heap.size ≤ w'.heap.size) (hm : Marks ds a.defers w') : SimA P fr ds G F st a w' :=
 ⟨⟨s.sim.mem.keepData hk hs, fun k => (s.sim.slots k).keepData hk, s.sim.size⟩, s.fresh, hm⟩
theorem keep_put {l : Nat} {o1 : Obj} (h : w.heap[l]? = some o1) (h1 : isData o1 = false) (o2 : Obj) : ∀ (b : Nat) (o : Obj), w.heap[b]? = some o → isData o = true → (w.putObj l o2).heap[b]? = some o := fun b o hb ho => by
 rw [World.putObj_heap_other (by rintro rfl; rw [h] at hb; cases hb; rw [h1] at ho; cases ho)]; exact hb
theorem Marks.round {l : Nat} {r : Loop} (h : w.heap[l]? = some (.loop r)) : Marks ⟨0, some l, true⟩ [] w :=
 ⟨⟨[], rfl, .nil, fun _ h => by cases h⟩, fun l0 hl => by cases hl; exact ⟨r, h⟩, fun L h => by simpa using h, Nat.zero_le _⟩
theorem SimA.bind {lp : Nat} : ∀ {ps : List Nat} {vs : List Value} {xs : List AV} {st : St} {tmps : Array Value}, SimA P fr ⟨0, some lp, true⟩ G F st { tmps := tmps, defers := [] } w → vs.length = ps.length → Imms F w vs xs → (∀ p ∈ ps, p < fr.sz) →
  SimA P fr ⟨0, some lp, true⟩ G F (bindP fr ps xs st) { tmps := (ps.zip vs).foldl (fun t (p, v) => t.setIfInBounds p v) tmps, defers := [] } w
 | [], [], xs, st, tmps, s, _, hi, _ => by
   have : xs = [] := List.length_eq_zero_iff.1 hi.1.symm
   subst this; exact s
 | p :: ps, v :: vs, xs, st, tmps, s, hl, hi, hp => by
   obtain ⟨h1, h2⟩ := hi
   cases xs with
   | nil => simp at h1
   | cons x xs =>
     simp only [bindP, List.zip_cons_cons, List.foldl_cons]
     refine SimA.bind (tmps := tmps.setIfInBounds p v) ?_ (by simpa using hl) ⟨by simpa using h1, fun i a b => h2 (i + 1) (by simpa using a) (by simpa using b)⟩ fun q hq => hp q (List.mem_cons_of_mem _ hq)
     have := s.step_put (st1 := st) (d := some p) (u := v) (v := x) .refl s.sim.mem rfl rfl s.fresh (fun k hk => by cases hk; exact hp p List.mem_cons_self) (.imm (h2 0 (by simp) (by simp)))
     exact this
 | [], _ :: _, _, _, _, _, hl, _, _ => by simp at hl
 | _ :: _, [], _, _, _, _, hl, _, _ => by simp at hl
end
section
variable {P : Program} {fr : Fr} {ro : Option Nat} {ds : DS} {st st' : St} {G G' : Nat → Option Value} {F F' : Nat → Nat → Prop} {a : Act} {w w' : World} {x y c : Code}
 {M : Mem} {Q : Exit → St → Prop}
theorem Step.it {B : Nat → Prop} {G0 : Nat → Option Value} {F0 : Nat → Nat → Prop} {M0 : Mem} {w0 : World} {O O' : Nat → Prop} (S : Step B G0 F0 M0 w0 G F M w) (I : ItStep O F w O' F' w') (hO : ∀ b, O b → w0.heap.size ≤ b) : Step B G0 F0 M0 w0 G F' M w' :=
 { kept := S.kept.trans I.kept
   size := Nat.le_trans S.size I.size
   out := fun b hb ho => (I.out b (Nat.lt_of_lt_of_le hb S.size) fun h => by have := hO b h; omega).trans (S.out b hb ho)
   F1 := fun b o h => I.F1 b o (S.F1 b o h)
   F2 := fun b o h => (I.F2 b o (S.F1 b o h)).trans (S.F2 b o h)
   F3 := fun b o h => by
    rcases I.F3 b o h with h | h | h
    ·exact S.F3 b o h
    ·exact .inr (.inl (Nat.le_trans S.size h))
    ·exact .inr (.inl (hO b h))
   own := S.own
   some' := S.some', same := S.same, keep := S.keep }
theorem Step.allocs {B : Nat → Prop} {G0 : Nat → Option Value} {F0 : Nat → Nat → Prop} {M0 : Mem} {w0 : World} (S : Step B G0 F0 M0 w0 G F M w) (hs : w.heap.size ≤ w'.heap.size) (hk : ∀ b, b < w.heap.size → w'.heap[b]? = w.heap[b]?) (hF : ∀ b o, F b o → b < w.heap.size) (hkp : Kept w w') : Step B G0 F0 M0 w0 G F M w' :=
 { kept := S.kept.trans hkp
   size := Nat.le_trans S.size hs
   out := fun b hb ho => (hk b (Nat.lt_of_lt_of_le hb S.size)).trans (S.out b hb ho)
   F1 := S.F1
   F2 := fun b o h => (cell?_same (hk b (hF b o (S.F1 b o h))) o).trans (S.F2 b o h)
   F3 := S.F3, own := S.own, some' := S.some', same := S.same, keep := S.keep }
theorem enter_loop (hro : ds.ro = ro) (hnm : ro = none → ds.nm = none) (s : Marks ds a.defers w) (fn : FuncId) (ps : Array Tmp) (assign body : Code) :
  ∃ (l : Nat) (mk : List Deferred) (W1 : World) (D : Nat), (Instr.enterLoop fn a.tmps ps assign body (fc ro).round).run P w = .ok (l, mk) W1 ∧ w.heap.size ≤ l ∧
    W1.heap[l]? = some (.loop { state := .ready, pending := none, fn, tmps := a.tmps, params := ps, assign, body, defers := D }) ∧ w.heap.size ≤ W1.heap.size ∧ (∀ b, b < w.heap.size → W1.heap[b]? = w.heap[b]?) ∧ Marks ds (mk ++ a.defers) W1 ∧ Kept w W1 ∧ ∀ D, dmark D ∈ mk → w.heap.size ≤ D := by
 cases ro with
 | none =>
   have e0 : (w.alloc (.deferred (some []))).heap.size = w.heap.size + 1 := World.size_alloc w _
   have old : ∀ b, b < w.heap.size → ((w.alloc (.deferred (some []))).alloc (.loop { state := .ready, pending := none, fn, tmps := a.tmps, params := ps, assign, body, defers := w.heap.size })).heap[b]? = w.heap[b]? := fun b hb => by
    rw [RowKit.Below.heap_alloc _ _ _ (by omega), RowKit.Below.heap_alloc _ _ _ hb]
   refine ⟨_, _, _, w.heap.size, run_enterLoop_outer fn a.tmps ps assign body, by omega, ?_, by rw [World.size_alloc, e0]; omega, old, ?_⟩
   ·have := World.alloc_heap_new (w.alloc (.deferred (some []))) (.loop { state := .ready, pending := none, fn, tmps := a.tmps, params := ps, assign, body, defers := w.heap.size })
    rwa [e0] at this
   ·refine ⟨?_, Kept.trans (w' := w.alloc (.deferred (some []))) (.push rfl) (.push rfl), fun D hD => by simp [dmark] at hD; omega⟩
    obtain ⟨⟨Ds, h1, h2, h3⟩, h4, h5, h6⟩ := s
    refine ⟨⟨w.heap.size :: Ds, by rw [h1, DS.app_cons]; rfl, ?_, ?_⟩, fun l0 hl => ?_, fun L h => ?_, by rw [World.size_alloc, e0]; omega⟩
    ·rw [List.nodup_cons]
     exact ⟨fun h => by have := (Array.getElem?_eq_some_iff.1 (h3 _ h).2).1; omega, h2⟩
    ·intro D hD
     rcases List.mem_cons.1 hD with rfl | hD
     ·exact ⟨h6, by rw [RowKit.Below.heap_alloc _ _ _ (by omega)]; exact World.alloc_heap_new w _⟩
     ·have := (Array.getElem?_eq_some_iff.1 (h3 _ hD).2).1
      exact ⟨(h3 _ hD).1, by rw [old _ this]; exact (h3 _ hD).2⟩
    ·rw [hro] at hl; cases hl
    ·rw [hnm rfl] at h; cases h
 | some l0 =>
   obtain ⟨r0, hr0⟩ := s.2.1 l0 hro
   have old : ∀ b, b < w.heap.size → (w.alloc (.loop { state := .ready, pending := none, fn, tmps := a.tmps, params := ps, assign, body, defers := r0.defers })).heap[b]? = w.heap[b]? := fun b hb => RowKit.Below.heap_alloc _ _ _ hb
   refine ⟨_, _, _, r0.defers, run_enterLoop_inner hr0 fn a.tmps ps assign body, Nat.le_refl _, World.alloc_heap_new w _, by rw [World.size_alloc]; omega, old, ?_⟩
   refine ⟨?_, .push rfl, fun D hD => by cases hD⟩
   refine s.keep (fun b o hb _ => ?_) (by rw [World.size_alloc]; omega)
   rw [old b (Array.getElem?_eq_some_iff.1 hb).1]; exact hb
theorem Marks.keepX {ds : DS} {l : List Deferred} {N : Nat} (h : Marks ds l w) (hN : ∀ D, dmark D ∈ l → D < N) (hr : ∀ l0, ds.ro = some l0 → l0 < N) (k : ∀ b, b < N → w'.heap[b]? = w.heap[b]?) (hs : w.heap.size ≤ w'.heap.size) : Marks ds l w' := by
 obtain ⟨⟨Ds, h1, h2, h3⟩, h4, h5, h6⟩ := h
 exact ⟨⟨Ds, h1, h2, fun D hD => ⟨(h3 D hD).1, by rw [k D (hN D (by rw [h1]; exact (DS.mem_app _ _ _).2 hD))]; exact (h3 D hD).2⟩⟩, fun l0 hl => let ⟨r, hr'⟩ := h4 l0 hl; ⟨r, by rw [k l0 (hr l0 hl)]; exact hr'⟩, h5, Nat.le_trans h6 hs⟩
theorem Marks.lt {ds : DS} {l : List Deferred} (h : Marks ds l w) : (∀ D, dmark D ∈ l → D < w.heap.size) ∧ ∀ l0, ds.ro = some l0 → l0 < w.heap.size := by
 obtain ⟨⟨Ds, h1, h2, h3⟩, h4, h5, h6⟩ := h
 refine ⟨fun D hD => ?_, fun l0 hl => ?_⟩
 ·rw [h1] at hD
  exact (Array.getElem?_eq_some_iff.1 (h3 D ((DS.mem_app _ _ _).1 hD)).2).1
 ·obtain ⟨r, hr⟩ := h4 l0 hl; exact (Array.getElem?_eq_some_iff.1 hr).1
structure Core (P : Program) (fr : Fr) (ds : DS) (a : Act) (N : Nat) (mk : List Deferred) (G0 : Nat → Option Value) (F0 : Nat → Nat → Prop) (M0 : Mem) (w0 : World) (st : St) (G : Nat → Option Value) (F : Nat → Nat → Prop) (O : Nat → Prop) (W : World) : Prop where
 mem : SimM P G F st.mem st.nx W
 slots : ∀ i, RV G F st.mem W (a.tmps.getD i undef) (st.get fr i)
 fresh : ∀ j, st.nx ≤ j → G j = none
 step : Step (· < fr.base) G0 F0 M0 w0 G F st.mem W
 marks : Marks ds (mk ++ a.defers) W
 disj : ∀ b, Owned G st.mem b → ¬ O b
 lo : ∀ b, O b → N ≤ b
 wN : w0.heap.size ≤ N
 NW : N ≤ W.heap.size
 mlt : (∀ D, dmark D ∈ mk ++ a.defers → D < N) ∧ ∀ l0, ds.ro = some l0 → l0 < N
theorem Core.it {N : Nat} {mk : List Deferred} {G0 : Nat → Option Value} {F0 : Nat → Nat → Prop} {M0 : Mem} {w0 : World} {O O' : Nat → Prop} (h : Core P fr ds a N mk G0 F0 M0 w0 st G F O w) (I : ItStep O F w O' F' w') :
  Core P fr ds a N mk G0 F0 M0 w0 st G F' O' w' ∧ ∀ b, b < N → w'.heap[b]? = w.heap[b]? := by
 have E : EnvStep (Owned G st.mem) F w F' w' :=
  ⟨I.size, fun b hb => I.out b (h.mem.lt hb) (h.disj b hb), I.F1, I.F2, fun b o hF hb => by
   rcases I.F3 b o hF with h' | h' | h'
   ·exact h'
   ·have := h.mem.lt hb; omega
   ·exact absurd h' (h.disj b hb), I.inF, I.kept⟩
 have nd : ∀ b, b < N → w'.heap[b]? = w.heap[b]? := fun b hb => I.out b (Nat.lt_of_lt_of_le hb h.NW) fun hO => by have := h.lo b hO; omega
 refine ⟨⟨h.mem.env E fun _ hb => hb, fun i => (h.slots i).env E, h.fresh, h.step.it I fun b hb => Nat.le_trans h.wN (h.lo b hb), h.marks.keepX h.mlt.1 h.mlt.2 nd I.size, fun b hb hO => ?_, fun b hb => ?_, h.wN, Nat.le_trans h.NW I.size, h.mlt⟩, nd⟩
 ·rcases I.own b hO with h' | h'
  ·have := h.mem.lt hb; omega
  ·exact h.disj b hb h'
 ·rcases I.own b hb with h' | h'
  ·exact Nat.le_trans h.NW h'
  ·exact h.lo b h'
theorem bindP_mem : ∀ (ps : List Nat) (xs : List AV) (st : St), (bindP fr ps xs st).mem = st.mem
 | [], _, _ => rfl
 | _ :: _, [], _ => rfl
 | p :: ps, x :: xs, st => by simp only [bindP]; rw [bindP_mem ps xs, St.put_mem]
theorem Core.marks_put {N : Nat} {mk : List Deferred} {G0 : Nat → Option Value} {F0 : Nat → Nat → Prop} {M0 : Mem} {w0 : World} {O : Nat → Prop} {l : Nat} {r : Loop} {o4 : Obj} (h : Core P fr ds a N mk G0 F0 M0 w0 st G F O w') (s : Marks ds a.defers w) (hl : w'.heap[l]? = some (.loop r)) (hlw : w.heap.size ≤ l) :
  Marks ds (mk ++ a.defers) (w'.putObj l o4) := by
 obtain ⟨⟨Ds, h1, h2, h3⟩, h5, h6, h7⟩ := h.marks
 refine ⟨⟨Ds, h1, h2, fun D hD => ⟨(h3 D hD).1, ?_⟩⟩, fun l0 hl0 => ?_, h6, by rw [World.putObj_size]; exact h7⟩
 ·have h8 := (h3 D hD).2
  rw [World.putObj_heap_other (by rintro rfl; rw [hl] at h8; cases h8)]; exact h8
 ·obtain ⟨r, hr⟩ := s.2.1 l0 hl0
  have := (Array.getElem?_eq_some_iff.1 hr).1
  obtain ⟨r', hr'⟩ := h5 l0 hl0
  exact ⟨r', by rw [World.putObj_heap_other (by omega)]; exact hr'⟩
theorem EvC.range {σ : Type} {g : Operand} {ps : Array Tmp} {assign body : Code} {gf : FuncId} {caps : List AV} {xs : List (List AV)} (hro : ds.ro = ro) (hnm : ro = none → ds.nm = none) (hg : opnd fr st.clr g = .fn gf caps) (hn : AV.norefs caps = true) (hs : SeqIs P gf caps xs)
  (hps : ∀ x ∈ xs, x.length = ps.size) (hpk : ∀ p ∈ ps, p < fr.sz) (hbase : fr.base ≤ st.nx) (sh : Nat → σ → Mem) (inv : Nat → σ → Prop) (h0 : ∃ s, st.mem = sh 0 s ∧ inv 0 s)
  (round : ∀ k s lp, (hk : k < xs.length) → inv k s → EvC P ⟨st.nx, fr.nv, fr.hid, fr.sz⟩ (some lp) ⟨0, some lp, true⟩ assign (bindP ⟨st.nx, fr.nv, fr.hid, fr.sz⟩ ps.toList xs[k] ⟨st.vars, [], sh k s, st.nx⟩) fun e st1 => e = .normal ∧
   EvC P ⟨st.nx, fr.nv, fr.hid, fr.sz⟩ (some lp) ⟨0, some lp, true⟩ body st1 fun e st2 => match e with
    | .normal => ∃ K s', gcOk st.nx st.nx K = true ∧ renMem st2.mem K K = sh (k + 1) s' ∧ inv (k + 1) s'
    | .ret => Q .ret ⟨st.vars, [], st2.mem, st2.nx⟩
    | .exit id => Q (.exit id) ⟨st.vars, [], st2.mem, st2.nx⟩
    | _ => False)
  (done : ∀ s, inv xs.length s → Q .normal ⟨st.vars, [], sh xs.length s, st.nx⟩) : EvC P fr ro ds (.rangeFunc g ps assign body) st Q := by
 intro G0 F0 M0 w0 G F a w S s
 refine wpIn_rangeFunc fun fn hfn => ?_
 obtain ⟨l, mk, W1, D, he, hlw, hl1, hsz1, hold1, hmk, hkp1, _⟩ := enter_loop (P := P) hro hnm s.defers fn ps assign body
 obtain ⟨rec, hrec⟩ : ∃ rec : LoopState → Option Code → Loop, rec = fun st pe => { state := st, pending := pe, fn, tmps := a.tmps, params := ps, assign, body, defers := D } := ⟨_, rfl⟩
 have hl1 : W1.heap[l]? = some (.loop (rec .ready none)) := by rw [hrec]; exact hl1
 have hw0 : w0.heap.size ≤ l := Nat.le_trans S.size hlw
 have hgv := s.clr.eval g
 rw [hg] at hgv
 obtain ⟨vs, hev, hvl, hvs⟩ := hgv.inv_fn0 hs.1.1
 have hF1 : ∀ b o, F b o → b < W1.heap.size := fun b o h => Nat.lt_of_lt_of_le (s.sim.mem.inF b o h) hsz1
 have hk1 : ∀ (b : Nat) (o : Obj), w.heap[b]? = some o → isData o = true → W1.heap[b]? = some o := fun b o hb _ => by rw [hold1 b (Array.getElem?_eq_some_iff.1 hb).1]; exact hb
 let J : Env := fun k F' O W => match k with
  | some k => ∃ G' s, inv k s ∧ Core P fr ds a W1.heap.size mk G0 F0 M0 w0 ⟨st.vars, [], sh k s, st.nx⟩ G' F' O W ∧ W.heap[l]? = some (.loop (rec .ready none))
  | none => ∃ G' M' nx' c, ((c = Code.ret ∧ Q .ret ⟨st.vars, [], M', nx'⟩) ∨ ∃ id, c = Code.exit id ∧ Q (.exit id) ⟨st.vars, [], M', nx'⟩) ∧ Core P fr ds a W1.heap.size mk G0 F0 M0 w0 ⟨st.vars, [], M', nx'⟩ G' F' O W ∧ W.heap[l]? = some (.loop (rec .done (some c)))
 have hlN : l < W1.heap.size := (Array.getElem?_eq_some_iff.1 hl1).1
 have hJ : Stable J := by
  intro k F O w F' O' w' h I
  cases k with
  | some k =>
    obtain ⟨G', s, h1, h2, h3⟩ := h
    obtain ⟨h4, h5⟩ := h2.it I
    exact ⟨G', s, h1, h4, (h5 _ hlN).trans h3⟩
  | none =>
    obtain ⟨G', M', nx', c, h1, h2, h3⟩ := h
    obtain ⟨h4, h5⟩ := h2.it I
    exact ⟨G', M', nx', c, h1, h4, (h5 _ hlN).trans h3⟩
 have hy : Yields P J l xs := by
  intro k F O W vals hk hF hO hi ⟨G', σ', hinv, hc, hlW⟩
  have hlt := (Array.getElem?_eq_some_iff.1 hlW).1
  have hvals : vals.length = ps.size := hi.1.trans (hps _ (List.getElem_mem hk))
  have hyield := run_yield (P := P) (args := vals.toArray) hlW (by rw [hrec]; simpa using hvals)
  have hlO : ¬ O l := fun h => by have := hc.lo l h; omega
  refine ⟨_, _, _, _, hyield, roundIn_of_wpIn (by rw [hrec]; exact hfn) ?_⟩
  have s1 : SimA P ⟨st.nx, fr.nv, fr.hid, fr.sz⟩ ⟨0, some l, true⟩ G' F ⟨st.vars, [], sh k σ', st.nx⟩ { tmps := a.tmps, defers := [] } W :=
   ⟨⟨hc.mem, hc.slots, s.sim.size⟩, hc.fresh, .round hlW⟩
  have s2 := s1.bind (ps := ps.toList) (by simpa using hvals) hi (fun p hp => hpk p (by simpa using hp))
  have htm : (((rec .ready none).params.zip vals.toArray).foldl (fun tmps (t, a) => tmps.setIfInBounds t a) (rec .ready none).tmps) = (ps.toList.zip vals).foldl (fun t (p, v) => t.setIfInBounds p v) a.tmps := by
   rw [hrec]
   simp only
   rw [← Array.foldl_toList]
   simp
  rw [htm]
  have hA := round k σ' l hk hinv G' F _ W G' F _ W (by
   have : (bindP ⟨st.nx, fr.nv, fr.hid, fr.sz⟩ ps.toList xs[k] ⟨st.vars, [], sh k σ', st.nx⟩).mem = sh k σ' := bindP_mem _ _ _
   rw [this]; exact .refl) s2
  have hfe : (Fence.wide.inRound l) = fc (some l) := rfl
  rw [hfe]
  have ea : (rec .ready none).assign = assign := by rw [hrec]
  have eb : (rec .ready none).body = body := by rw [hrec]
  rw [ea, eb]
  refine wpIn_mono hA ?_
  rintro e a1 Wa ⟨Ga, Fa, sta, sa, Sa, rfl, hB⟩
  have em : (bindP ⟨st.nx, fr.nv, fr.hid, fr.sz⟩ ps.toList xs[k] ⟨st.vars, [], sh k σ', st.nx⟩).mem = sh k σ' := bindP_mem _ _ _
  have hla : Wa.heap[l]? = some (.loop (rec .ready none)) := Sa.keepObj (by have := s2.sim.mem; rw [em] at this; exact this) hlW rfl
  refine ⟨_, run_beginRound hla (by rw [hrec]), ?_⟩
  have hlta := (Array.getElem?_eq_some_iff.1 hla).1
  have hlb : (Wa.putObj l (.loop { rec .ready none with state := .busy })).heap[l]? = some (.loop { rec .ready none with state := .busy }) := World.putObj_heap_same hlta
  have hda := sa.defers.2.2.1 [] rfl
  have sb : SimA P ⟨st.nx, fr.nv, fr.hid, fr.sz⟩ ⟨0, some l, true⟩ Ga Fa sta a1 (Wa.putObj l (.loop { rec .ready none with state := .busy })) :=
   sa.keepData (keep_put hla rfl _) (by rw [World.putObj_size]; exact Nat.le_refl _) (by rw [hda]; exact .round hlb)
  refine wpIn_mono (hB Ga Fa sta.mem _ Ga Fa a1 _ .refl sb) ?_
  rintro e a3 W3 ⟨G3, F3, st3, s3, S3, hq⟩
  have hl3 : W3.heap[l]? = some (.loop { rec .ready none with state := .busy }) := S3.keepObj sb.sim.mem hlb rfl
  have hlt3 := (Array.getElem?_eq_some_iff.1 hl3).1
  have hrb : ∀ jump : Option Code, (Instr.endRound l jump).run P W3 = .ok (.bool jump.isNone) (W3.putObj l (.loop (rec (if jump.isNone then .ready else .done) jump))) := fun jump => by
   have := run_endRound (P := P) jump hl3
   rw [hrec] at this ⊢; exact this
  have Sr : ∀ o4 : Obj, isData o4 = false → Step (· < st.nx) G' F (sh k σ') (W.putObj l o4) G3 F3 st3.mem (W3.putObj l o4) := fun o4 h4 => by
   have t1 := (Sa.put (by exact hlt) (.loop { rec .ready none with state := .busy })).trans S3
   have t2 := t1.put (by rw [World.putObj_size]; exact hlt) o4
   rw [putObj_put] at t2
   exact t2
  have fin : ∀ (o4 : Obj), isData o4 = false → ∀ (G4 : Nat → Option Value) (st4 : St), SimM P G4 F3 st4.mem st4.nx W3 → (∀ j, st4.nx ≤ j → G4 j = none) → Step (· < st.nx) G3 F3 st3.mem W3 G4 F3 st4.mem W3 → st4.vars = st.vars → st4.tmps = [] →
    Core P fr ds a W1.heap.size mk G0 F0 M0 w0 st4 G4 F3 O (W3.putObj l o4) ∧ EnvStep O F W F3 (W3.putObj l o4) := by
   intro o4 h4 G4 st4 hm4 hf4 S4 hv4 ht4
   have Sx : Step (· < st.nx) G' F (sh k σ') (W.putObj l o4) G4 F3 st4.mem (W3.putObj l o4) := (Sr o4 h4).trans (S4.put hlt3 o4)
   have hm4' := hm4.keepData (keep_put hl3 rfl o4) (by rw [World.putObj_size]; exact Nat.le_refl _)
   have hkW := keep_put hlW rfl o4
   have S0x := (hc.step.putAbove hw0 hlW rfl h4).trans (Sx.mono fun id hid => Nat.lt_of_lt_of_le hid hbase)
   have hdisj : ∀ b, O b → ¬ Owned G' (sh k σ') b := fun b hb hO => hc.disj b hO hb
   have hown : ∀ b, O b → (W3.putObj l o4).heap[b]? = W.heap[b]? := fun b hb => by
    rw [Sx.out b (by rw [World.putObj_size]; exact hO b hb) (hdisj b hb)]
    exact World.putObj_heap_other (by rintro rfl; exact hlO hb)
   have sl : ∀ i, RV G4 F3 st4.mem (W3.putObj l o4) (a.tmps.getD i undef) (st4.get fr i) := fun i => by
    have h1 := hc.slots i
    have e : (⟨st.vars, [], sh k σ', st.nx⟩ : St).get fr i = st4.get fr i := by unfold St.get; rw [hv4, ht4]
    rw [e] at h1
    exact (h1.keepData hkW).step Sx fun id hid => Nat.lt_of_not_le fun hle => hid (hc.fresh id hle)
   refine ⟨⟨hm4', sl, hf4, S0x, ?_, fun b hb hO' => ?_, hc.lo, hc.wN, ?_, hc.mlt⟩, ⟨?_, hown, fun b o h => Sx.F1 b o h, fun b o h => ?_, fun b o h hb => ?_, fun b o h => hm4'.inF b o h, Kept.trans (.set hlW rfl (unfroz_nd h4)) Sx.kept⟩⟩
   ·have m1 : Marks ds (mk ++ a.defers) (W.putObj l o4) := hc.marks_put s.defers hlW hlw
    exact m1.step (hc.mem.keepData hkW (by rw [World.putObj_size]; exact Nat.le_refl _)) Sx
   ·rcases Sx.own b hb with h | h
    ·rw [World.putObj_size] at h; have := hO b hO'; omega
    ·exact hc.disj b h hO'
   ·have := Sx.size; rw [World.putObj_size] at this; exact Nat.le_trans hc.NW this
   ·have := Sx.size; rw [World.putObj_size] at this; exact this
   ·rw [Sx.F2 b o h]
    by_cases e : b = l
    ·subst e
     simp only [World.cell?, hlW, World.putObj_heap_same hlt]
     cases o4 <;> simp_all [isData]
    ·exact cell?_put e
   ·rcases Sx.F3 b o h with h' | h' | h'
    ·exact h'
    ·rw [World.putObj_size] at h'; have := hO b hb; omega
    ·exact absurd h' (hdisj b hb)
  cases e with
  | normal =>
    obtain ⟨K, σ2, hK, hmem, hinv2⟩ := hq
    obtain ⟨s4, S4⟩ := s3.gc (L := []) (nx := st.nx) hK
    have em4 : (st3.gc [] K st.nx).mem = sh (k + 1) σ2 := hmem
    obtain ⟨hcore, hE⟩ := fin (.loop (rec .ready none)) rfl _ ⟨st.vars, [], sh (k + 1) σ2, st.nx⟩ (by rw [← em4]; exact s4.sim.mem) s4.fresh (by rw [← em4]; exact S4) rfl rfl
    exact ⟨_, _, hrb none, F3, hE, .inl ⟨rfl, _, σ2, hinv2, hcore, World.putObj_heap_same hlt3⟩⟩
  | ret =>
    obtain ⟨hcore, hE⟩ := fin (.loop (rec .done (some .ret))) rfl G3 ⟨st.vars, [], st3.mem, st3.nx⟩ s3.sim.mem s3.fresh .refl rfl rfl
    exact ⟨_, _, hrb (some .ret), F3, hE, .inr ⟨rfl, G3, st3.mem, st3.nx, .ret, .inl ⟨rfl, hq⟩, hcore, World.putObj_heap_same hlt3⟩⟩
  | exit id =>
    obtain ⟨hcore, hE⟩ := fin (.loop (rec .done (some (.exit id)))) rfl G3 ⟨st.vars, [], st3.mem, st3.nx⟩ s3.sim.mem s3.fresh .refl rfl rfl
    exact ⟨_, _, hrb (some (.exit id)), F3, hE, .inr ⟨rfl, G3, st3.mem, st3.nx, .exit id, .inr ⟨id, rfl, hq⟩, hcore, World.putObj_heap_same hlt3⟩⟩
  | goto t => exact hq.elim
  | panic ch => exact hq.elim
  | outgrown => exact hq.elim
 obtain ⟨σ0, hm0, hinv0⟩ := h0
 have hj0 : J (some 0) F (fun _ => False) W1 := by
  refine ⟨G, σ0, hinv0, ⟨by rw [← hm0]; exact s.sim.mem.keepData hk1 hsz1, fun i => ?_, s.fresh, ?_, hmk, fun _ _ h => h, fun _ h => h.elim, Nat.le_trans S.size hsz1, Nat.le_refl _, hmk.lt⟩, hl1⟩
  ·have := s.clr.sim.slots i
   simp only [← hm0]
   exact this.keepData hk1
  ·simp only [← hm0]
   exact S.allocs hsz1 hold1 s.sim.mem.inF hkp1
 refine ⟨l, mk, W1, { target := .fn (.func gf) vs.toArray, args := #[yv l] }, W1, gf, #[yv l] ++ vs.toArray, W1, he, ?_, fun _ _ => trivial, ?_, fun h => by simp [fc, Fence.wide] at h, ?_⟩
 ·simp only [rangeCall, resolve, hev]
  simp [go_sem, yv, Deferred.ofValue]
 ·have := hs.1.2 (#[yv l] ++ vs.toArray) W1
  simp only [invoke]
  exact this
 ·have hcall := hs.2 l J hJ hy F W1 vs ⟨hF1, s.sim.mem.gl.mono (fun _ _ h => h) fun b o h => cell?_same (hold1 b (s.sim.mem.inF b o h)) o⟩ ⟨hvl, fun i h1 h2 => ((hvs i h1 h2).imm_of (norefs_get caps hn i h2)).mono (fun _ _ h => h) fun b o h => cell?_same (hold1 b (s.sim.mem.inF b o h)) o⟩ hj0
  refine CallsIn.mono (F := fc ro) (n := 0 - 1) (callsIn_fc hcall) ?_
  rintro e W2 ⟨v, F2, rfl, hj⟩
  rcases hj with hj | hj
  ·obtain ⟨G2, σ2, hinv2, hc, hl2⟩ := hj
   refine ⟨none, _, by have := run_endLoop (P := P) hl2 (by rw [hrec]; simp); rw [hrec] at this; exact this, ?_⟩
   refine ⟨G2, F2, _, ⟨⟨hc.mem.keepData (keep_put hl2 rfl _) (by rw [World.putObj_size]; exact Nat.le_refl _), fun i => (hc.slots i).keepData (keep_put hl2 rfl _), s.sim.size⟩, hc.fresh, ?_⟩, hc.step.putAbove hw0 hl2 rfl rfl, done σ2 hinv2⟩
   exact hc.marks_put s.defers hl2 hlw
  ·obtain ⟨G2, M2, nx2, c, hcq, hc, hl2⟩ := hj
   refine ⟨some c, _, by have := run_endLoop (P := P) hl2 (by rw [hrec]; simp); rw [hrec] at this; exact this, ?_⟩
   have post : ∀ e, Q e ⟨st.vars, [], M2, nx2⟩ → Post P fr ds G0 F0 M0 w0 Q e { a with defers := mk ++ a.defers } (W2.putObj l (.loop { rec .done (some c) with state := .exhausted })) := fun e hq =>
    ⟨G2, F2, _, ⟨⟨hc.mem.keepData (keep_put hl2 rfl _) (by rw [World.putObj_size]; exact Nat.le_refl _), fun i => (hc.slots i).keepData (keep_put hl2 rfl _), s.sim.size⟩, hc.fresh, hc.marks_put s.defers hl2 hlw⟩, hc.step.putAbove hw0 hl2 rfl rfl, hq⟩
   rcases hcq with ⟨rfl, hq⟩ | ⟨id, rfl, hq⟩
   ·have := wpIn_ret (F := fc ro) (n := 0) (P := P) (post .ret hq)
    rw [hrec] at this; exact this
   ·have := wpIn_exit (F := fc ro) (n := 0) (P := P) (post (.exit id) hq)
    rw [hrec] at this; exact this
theorem EvC.gcTo (st2 : St) (L : List Nat) (K : List (Nat × Nat)) (hk : gcOk fr.base st2.nx K = true) (he : st.gc L K st2.nx = st2) (h : EvC P fr ro ds c st2 Q) : EvC P fr ro ds c st Q :=
 .gc L K st2.nx hk (by rw [he]; exact h)
end
attribute [go_sem] bindP
def RObj.snapC (f : AV → AV) : RObj → RObj
 | .cells cs => .cells (cs.map f)
 | o => o
def memMap (f : AV → AV) : List (Nat × RObj) → List (Nat × RObj)
 | [] => []
 | (i, o) :: r => (i, o.snapC f) :: memMap f r
def St.frzD (i : Nat) (st : St) : Option St :=
 match st.frz i with
 | some st' => match mlook st.mem i with
   | some (.arr esz es _) => some ⟨st'.vars, st'.tmps, memMap (AV.deep (snap [(i, .arr esz es true)])) st'.mem, st'.nx⟩
   | _ => none
 | none => none
section
variable {P : Program} {fr : Fr} {ro : Option Nat} {ds : DS} {st st' : St} {G G' : Nat → Option Value} {F F' : Nat → Nat → Prop} {a : Act} {w w' : World} {x y c : Code}
 {M : Mem} {Q : Exit → St → Prop} {f : AV → AV}
theorem mlook_memMap : ∀ (M : Mem) (i : Nat), mlook (memMap f M) i = (mlook M i).map (RObj.snapC f)
 | [], _ => rfl
 | (j, o) :: r, i => by
   simp only [memMap, mlook]
   split
   ·rfl
   ·exact mlook_memMap r i
theorem memMap_arr {i esz : Nat} {es : List (List AV)} {fz : Bool} (h : mlook (memMap f M) i = some (.arr esz es fz)) : mlook M i = some (.arr esz es fz) := by
 rw [mlook_memMap] at h
 cases ho : mlook M i with
 | none => rw [ho] at h; cases h
 | some o => rw [ho] at h; cases o <;> simp [RObj.snapC] at h ⊢; exact h
theorem RV.memMap {v : Value} {x : AV} (h : RV G F M w v x) : RV G F (memMap f M) w v x := by
 induction h with
 | imm h => exact .imm h
 | ag vs cs hl _ ih => exact .ag vs cs hl ih
 | tu vs cs hl _ ih => exact .tu vs cs hl ih
 | ifc t v x _ ih => exact .ifc t v x ih
 | fn f vs cs hl _ ih => exact .fn f vs cs hl ih
 | opt b v x _ h' ih => exact .opt b v x ih h'
 | rf id off b h => exact .rf id off b h
 | tl id len nl v hG h => exact .tl id len nl v hG fun esz es fz ho => h esz es fz (memMap_arr ho)
 | tv id n off len cap v hG h => exact .tv id n off len cap v hG fun esz es fz ho => h esz es fz (memMap_arr ho)
 | ea id n i off v hG h => exact .ea id n i off v hG fun esz es fz ho => h esz es fz (memMap_arr ho)
 | mp id b h => exact .mp id b h
theorem SimA.memMap (hf : ∀ v y, RV G F st.mem w v y → RV G F st.mem w v (f y)) (s : SimA P fr ds G F st a w) :
  SimA P fr ds G F ⟨st.vars, st.tmps, Avl.memMap f st.mem, st.nx⟩ a w ∧ Step (· < fr.base) G F st.mem w G F (Avl.memMap f st.mem) w := by
 have hsome : ∀ i, mlook (Avl.memMap f st.mem) i ≠ none → mlook st.mem i ≠ none := fun i h he => by rw [mlook_memMap, he] at h; exact h rfl
 refine ⟨⟨⟨⟨fun id o ho => ?_, fun id id' v v' b h1 h2 => s.sim.mem.inj id id' v v' b (hsome _ h1) (hsome _ h2), s.sim.mem.inF, s.sim.mem.gl⟩, fun k => (s.sim.slots k).memMap, s.sim.size⟩, s.fresh, s.defers⟩, ?_⟩
 ·rw [mlook_memMap] at ho
  obtain ⟨o', ho', rfl⟩ := Option.map_eq_some_iff.1 ho
  obtain ⟨h1, h2⟩ := s.sim.mem.obj id o' ho'
  refine ⟨h1, ?_⟩
  cases o' with
  | cells cs =>
    obtain ⟨b, c, e, k1, k2, k3, k4, k5⟩ := h2
    exact ⟨b, c, e, k1, k2, by rw [List.length_map]; exact k3, fun i a b => by rw [List.getElem_map]; exact (hf _ _ (k4 i a (by simpa using b))).memMap, k5⟩
  | arr esz es fz =>
    rcases h2 with h | ⟨b, ko, c, cc, e, k1, k2, k3, k4, k5, k6, k7, k8⟩
    ·exact .inl h
    ·exact .inr ⟨b, ko, c, cc, e, k1, k2, k3, k4, k5, k6, fun i j a b => let ⟨v, x, y, z⟩ := k7 i j a b; ⟨v, x, y, z.memMap⟩, k8⟩
  | map kt es => obtain ⟨b, ents, clock, k1, k2, k3, k4, k5⟩ := h2; exact ⟨b, ents, clock, k1, k2, k3, fun i a b => let ⟨x, y, z⟩ := k4 i a b; ⟨x, y.memMap, z⟩, k5⟩
 ·exact
  { kept := .refl
    size := Nat.le_refl _
    out := fun _ _ _ => rfl
    F1 := fun _ _ h => h
    F2 := fun _ _ _ => rfl
    F3 := fun _ _ h => .inl h
    own := fun b ⟨id, o, v, h1, h2, h3⟩ => by
     rw [mlook_memMap] at h1
     obtain ⟨o', ho', rfl⟩ := Option.map_eq_some_iff.1 h1
     exact .inr ⟨id, o', v, ho', h2, h3⟩
    some' := fun _ _ h => h
    same := fun _ _ _ h _ => h
    keep := fun id o _ hG h1 => by
     rw [mlook_memMap] at h1
     obtain ⟨o', ho', rfl⟩ := Option.map_eq_some_iff.1 h1
     obtain ⟨v, hv⟩ := Option.ne_none_iff_exists'.1 hG
     refine ⟨o', v, v, ho', hv, hv, ?_⟩
     cases o' with
     | cells cs => exact rfl
     | arr esz es fz => exact objKeep.refl _ _
     | map kt es => exact objKeep.refl _ _ }
theorem snap_one {i esz : Nat} {es : List (List AV)} {fz : Bool} (ho : mlook M i = some (.arr esz es true)) (hm : ∀ v y, RV G F M w v y → RV G F M w v (snap M y)) {v : Value} {y : AV} (h : RV G F M w v y) : RV G F M w v (snap [(i, .arr esz es true)] y) := by
 cases y with
 | tl j n b =>
   by_cases hj : j = i
   ·subst hj
    have := hm _ _ h
    simp only [snap, ho] at this
    simp only [snap, mlook, if_true]
    exact this
   ·simp only [snap, mlook, if_neg hj]; exact h
 | tv j n off len cap =>
   by_cases hj : j = i
   ·subst hj
    have := hm _ _ h
    simp only [snap, ho] at this
    simp only [snap, mlook, if_true]
    exact this
   ·simp only [snap, mlook, if_neg hj]; exact h
 | _ => exact h
theorem SimA.frzD {i : Nat} {st' : St} (s : SimA P fr ds G F st a w) (h : st.frzD i = some st') : ∃ F', SimA P fr ds G F' st' a w ∧ Step (· < fr.base) G F st.mem w G F' st'.mem w := by
 unfold St.frzD at h
 split at h
 ·rename_i st1 h1
  obtain ⟨F', s1, S1⟩ := s.frz h1
  split at h
  ·rename_i esz es fz ho
   cases h
   have hm1 : mlook st1.mem i = some (.arr esz es true) := by
    unfold St.frz at h1
    rw [ho] at h1
    simp only at h1
    split at h1
    ·cases h1; simp only [St.map, mlook_mset, if_true]
    ·cases h1
   obtain ⟨s2, S2⟩ := s1.memMap (f := AV.deep (snap [(i, .arr esz es true)])) fun v y h => h.deep fun v y h => snap_one (fz := true) hm1 (fun v y h => h.snap s1.sim.mem) h
   exact ⟨F', s2, S1.trans S2⟩
  ·cases h
 ·cases h
theorem EvC.frzD (i : Nat) {st' : St} (h : st.frzD i = some st') (hc : EvC P fr ro ds c st' Q) : EvC P fr ro ds c st Q :=
 EvC.conv (fun _ _ _ _ s => let ⟨F', s', S'⟩ := s.frzD h; ⟨_, F', s', S'⟩) hc
end
attribute [go_sem] St.frzD memMap RObj.snapC
def St.ownV (fr : Fr) (k esz : Nat) (st : St) : Option St :=
 match st.get fr k with
 | .sl nl [] .zer => some ((⟨st.vars, st.tmps, (st.nx, .arr esz [] true) :: st.mem, st.nx + 1⟩ : St).put fr (some k) (.tl st.nx 0 nl))
 | _ => none
def St.ownC (i j esz : Nat) (st : St) : Option St :=
 match mlook st.mem i with
 | some (.cells cs) => match cs[j]? with
   | some (.sl nl [] .zer) => some ⟨st.vars, st.tmps, mset ((st.nx, .arr esz [] true) :: st.mem) i (.cells (cs.set j (.tl st.nx 0 nl))), st.nx + 1⟩
   | _ => none
 | _ => none
section
variable {P : Program} {fr : Fr} {ro : Option Nat} {ds : DS} {st st' : St} {G G' : Nat → Option Value} {F F' : Nat → Nat → Prop} {a : Act} {w w' : World} {x y c : Code}
 {M : Mem} {Q : Exit → St → Prop} {f : AV → AV}
theorem Imm.zer_inv {v : Value} {nl : Bool} (h : Imm F w v (.sl nl [] .zer)) : ∃ va, v = .slice va 0 0 ∧ nl = isNilSlice v ∧ ∀ a, va = some a → a = a := by
 cases h with
 | nil _ _ => exact ⟨none, rfl, rfl, fun a h => by cases h⟩
 | sz a _ _ => exact ⟨some a, rfl, rfl, fun _ _ => rfl⟩
 | sl b off c esz _ _ vs hc hcap hes hF hi =>
   rcases hcap with h | ⟨_, h⟩ | ⟨h, _⟩ | h
   ·cases h
   ·subst h; exact ⟨some ⟨b, off, none⟩, rfl, rfl, fun a h => by cases h; rfl⟩
   ·cases h
   ·cases h
theorem simM_own {nx esz : Nat} {va : Option Addr} (hm : SimM P G F M nx w) (hf : ∀ j, nx ≤ j → G j = none) (hv : ∀ a, va = some a → a = a) :
  SimM P (upG G nx (.slice va 0 0)) F ((nx, .arr esz [] true) :: M) (nx + 1) w ∧ Step All G F M w (upG G nx (.slice va 0 0)) F ((nx, .arr esz [] true) :: M) w := by
 have hid := hf nx (Nat.le_refl _)
 have hne : ∀ j, G j ≠ none → j ≠ nx := fun j hj e => hj (e ▸ hid)
 have hno : mlook M nx = none := hm.noM hid
 have hbl : blkOf (.slice va 0 0) = none := by cases va <;> simp [blkOf]
 have S : Step All G F M w (upG G nx (.slice va 0 0)) F ((nx, .arr esz [] true) :: M) w :=
  { kept := .refl, size := Nat.le_refl _
    out := fun _ _ _ => rfl
    F1 := fun _ _ h => h
    F2 := fun _ _ _ => rfl
    F3 := fun _ _ h => .inl h
    own := fun b ⟨j, o', v, ho, hv, hbv⟩ => by
     by_cases e : j = nx
     ·subst e
      rw [upG_self] at hv; cases hv
      rw [hbl] at hbv; cases hbv
     ·rw [mlook_cons, if_neg e] at ho
      rw [upG_other G _ e] at hv
      exact .inr ⟨j, o', v, ho, hv, hbv⟩
    some' := fun j _ hj => by rw [upG_other G _ (hne j hj)]; exact hj
    same := fun j v _ hj _ => by rw [upG_other G _ (hne j (by simp [hj]))]; exact hj
    keep := fun j o' _ hj ho => by
     have e := hne j hj
     rw [mlook_cons, if_neg e] at ho
     obtain ⟨v, hv⟩ := Option.ne_none_iff_exists'.1 hj
     exact ⟨o', v, v, ho, hv, by rw [upG_other G _ e]; exact hv, objKeep.refl v o'⟩ }
 refine ⟨simM_gen hm S (fun id o' ho => ?_) (fun id id' v v' b h1 h2 h3 h4 h5 h6 => ?_) hm.inF, S⟩
 ·by_cases e : id = nx
  ·subst e
   rw [mlook_cons, if_pos rfl] at ho; cases ho
   exact ⟨Nat.lt_succ_self _, .inl (.inl ⟨rfl, va, upG_self _ _ _, hv⟩)⟩
  ·rw [mlook_cons, if_neg e] at ho
   exact ⟨Nat.lt_succ_of_lt (hm.obj id o' ho).1, .inr ⟨ho, upG_other G _ e, fun b v _ _ => ⟨rfl, fun _ h => h⟩⟩⟩
 ·have nn : ∀ {j v b}, upG G nx (.slice va 0 0) j = some v → blkOf v = some b → j ≠ nx := fun {j v b} hg hb e => by
    subst e; rw [upG_self] at hg; cases hg; rw [hbl] at hb; cases hb
  have e1 := nn h3 h5
  have e2 := nn h4 h6
  rw [mlook_cons, if_neg e1] at h1
  rw [mlook_cons, if_neg e2] at h2
  rw [upG_other G _ e1] at h3
  rw [upG_other G _ e2] at h4
  exact hm.inj id id' v v' b h1 h2 h3 h4 h5 h6
theorem SimA.ownV {k esz : Nat} (s : SimA P fr ds G F st a w) (h : st.ownV fr k esz = some st') : ∃ G', SimA P fr ds G' F st' a w ∧ Step (· < fr.base) G F st.mem w G' F st'.mem w := by
 unfold St.ownV at h
 split at h
 ·rename_i nl hk
  cases h
  have hv := s.sim.slots k
  rw [hk] at hv
  obtain ⟨va, e, hnl, hsp⟩ := hv.inv_sl.zer_inv
  obtain ⟨hm', S'⟩ := simM_own (esz := esz) s.sim.mem s.fresh hsp
  refine ⟨_, ⟨⟨by rw [St.put_mem, St.put_nx]; exact hm', fun j => ?_, s.sim.size⟩, fun j hj => ?_, s.defers⟩, by rw [St.put_mem]; exact S'.mono fun _ _ => trivial⟩
  ·rw [St.put_mem, St.get_put]
   split
   ·rename_i hj; subst hj
    rw [e]
    exact .tl st.nx 0 nl _ (by rw [upG_self]; simp) fun esz' es fz ho => by
     rw [mlook_cons, if_pos rfl] at ho; cases ho
     exact ⟨Nat.le_refl _, fun _ => ⟨upG_self _ _ _, by rw [hnl, e]⟩⟩
   ·exact (s.sim.slots j).step S' fun _ _ => trivial
  ·rw [St.put_nx] at hj
   have hj : st.nx + 1 ≤ j := hj
   rw [upG_other G _ (by omega)]; exact s.fresh j (by omega)
 ·cases h
theorem EvC.ownV (k esz : Nat) {st' : St} (h : st.ownV fr k esz = some st') (hc : EvC P fr ro ds c st' Q) : EvC P fr ro ds c st Q :=
 EvC.conv (fun _ F _ _ s => let ⟨G', s', S'⟩ := s.ownV h; ⟨G', F, s', S'⟩) hc
theorem SimA.ownC {i j esz : Nat} (s : SimA P fr ds G F st a w) (h : st.ownC i j esz = some st') : ∃ G', SimA P fr ds G' F st' a w ∧ Step (· < fr.base) G F st.mem w G' F st'.mem w := by
 unfold St.ownC at h
 split at h
 ·rename_i cs ho
  split at h
  ·rename_i nl hj
   cases h
   obtain ⟨hin, b, cc, el, k1, k2, k3, k4, k5⟩ := s.sim.mem.obj i _ ho
   obtain ⟨hjl, hjv⟩ := List.getElem?_eq_some_iff.1 hj
   have hv := k4 j (by omega) hjl
   rw [hjv] at hv
   obtain ⟨va, e, hnl, hsp⟩ := hv.inv_sl.zer_inv
   obtain ⟨hm', S'⟩ := simM_own (esz := esz) s.sim.mem s.fresh hsp
   have hne : i ≠ st.nx := Nat.ne_of_lt hin
   obtain ⟨M1, hM1⟩ : ∃ M1, M1 = ((st.nx, RObj.arr esz [] true) :: st.mem) := ⟨_, rfl⟩
   obtain ⟨G1, hG1⟩ : ∃ G1, G1 = upG G st.nx (.slice va 0 0) := ⟨_, rfl⟩
   rw [← hM1, ← hG1] at hm' S'
   have ho1 : mlook M1 i = some (.cells cs) := by rw [hM1, mlook_cons, if_neg hne]; exact ho
   have hgi : G1 i = some (.pointer (some ⟨b, 0, none⟩)) := by rw [hG1, upG_other G _ hne]; exact k1
   have harr : ∀ {id esz' es fz}, mlook (mset M1 i (.cells (cs.set j (.tl st.nx 0 nl)))) id = some (.arr esz' es fz) → mlook M1 id = some (.arr esz' es fz) := fun {id esz' es fz} h => by
    rw [mlook_mset] at h
    split at h
    ·cases h
    ·exact h
   have hrv : ∀ {v : Value} {x : AV}, RV G1 F M1 w v x → RV G1 F (mset M1 i (.cells (cs.set j (.tl st.nx 0 nl)))) w v x := fun h => by
    induction h with
    | imm h => exact .imm h
    | ag vs cs hl _ ih => exact .ag vs cs hl ih
    | tu vs cs hl _ ih => exact .tu vs cs hl ih
    | ifc t v x _ ih => exact .ifc t v x ih
    | fn f vs cs hl _ ih => exact .fn f vs cs hl ih
    | opt b v x _ h' ih => exact .opt b v x ih h'
    | rf id off b h => exact .rf id off b h
    | tl id len nl v hG h => exact .tl id len nl v hG fun esz es fz ho => h esz es fz (harr ho)
    | tv id n off len cap v hG h => exact .tv id n off len cap v hG fun esz es fz ho => h esz es fz (harr ho)
    | ea id n i off v hG h => exact .ea id n i off v hG fun esz es fz ho => h esz es fz (harr ho)
    | mp id b h => exact .mp id b h
   have hsome : ∀ id, mlook (mset M1 i (.cells (cs.set j (.tl st.nx 0 nl)))) id ≠ none → mlook M1 id ≠ none := fun id h he => by
    rw [mlook_mset] at h
    split at h
    ·rename_i e; subst e; rw [ho1] at he; cases he
    ·exact h he
   have hobj : ∀ {id o}, ObjOk P G1 F M1 w id o → ObjOk P G1 F (mset M1 i (.cells (cs.set j (.tl st.nx 0 nl)))) w id o := fun {id o} h => by
    cases o with
    | cells cs => obtain ⟨b, c, e, k1, k2, k3, k4, k5⟩ := h; exact ⟨b, c, e, k1, k2, k3, fun i a b => hrv (k4 i a b), k5⟩
    | arr esz es fz =>
      rcases h with h | ⟨b, ko, c, cc, e, k1, k2, k3, k4, k5, k6, k7, k8⟩
      ·exact .inl h
      ·exact .inr ⟨b, ko, c, cc, e, k1, k2, k3, k4, k5, k6, fun i j a b => let ⟨v, x, y, z⟩ := k7 i j a b; ⟨v, x, y, hrv z⟩, k8⟩
    | map kt es => obtain ⟨b, ents, clock, k1, k2, k3, k4, k5⟩ := h; exact ⟨b, ents, clock, k1, k2, k3, fun i a b => let ⟨x, y, z⟩ := k4 i a b; ⟨x, hrv y, z⟩, k5⟩
   have S2 : Step All G1 F M1 w G1 F (mset M1 i (.cells (cs.set j (.tl st.nx 0 nl)))) w :=
    { kept := .refl, size := Nat.le_refl _
      out := fun _ _ _ => rfl
      F1 := fun _ _ h => h
      F2 := fun _ _ _ => rfl
      F3 := fun _ _ h => .inl h
      own := fun b ⟨id, o, v, h1, h2, h3⟩ => .inr (by
       obtain ⟨o', ho'⟩ := Option.ne_none_iff_exists'.1 (hsome id (by rw [h1]; simp))
       exact ⟨id, o', v, ho', h2, h3⟩)
      some' := fun _ _ h => h
      same := fun _ _ _ h _ => h
      keep := fun id o _ hG h1 => by
       obtain ⟨v, hvG⟩ := Option.ne_none_iff_exists'.1 hG
       rw [mlook_mset] at h1
       by_cases e : id = i
       ·rw [if_pos e] at h1
        cases h1
        subst e
        exact ⟨_, v, v, ho1, hvG, hvG, rfl⟩
       ·rw [if_neg e] at h1
        exact ⟨o, v, v, h1, hvG, hvG, objKeep.refl v o⟩ }
   rw [← hM1]
   refine ⟨G1, ⟨⟨⟨fun id o h => ?_, fun id id' v v' b h1 h2 => hm'.inj id id' v v' b (hsome _ h1) (hsome _ h2), hm'.inF, hm'.gl⟩, fun k => hrv ((s.sim.slots k).step S' fun _ _ => trivial), s.sim.size⟩, fun k hk => ?_, s.defers⟩, (S'.trans S2).mono fun _ _ => trivial⟩
   ·rw [mlook_mset] at h
    by_cases e : id = i
    ·rw [if_pos e] at h
     cases h
     subst e
     refine ⟨Nat.lt_succ_of_lt hin, b, cc, el, hgi, k2, by rw [List.length_set]; exact k3, fun q q1 q2 => ?_, k5⟩
     by_cases hq : q = j
     ·subst hq
      rw [List.getElem_set_self, e]
      refine .tl st.nx 0 nl _ (by rw [hG1, upG_self]; simp) fun esz' es fz hx => ?_
      rw [mlook_mset, if_neg (Ne.symm hne), hM1, mlook_cons, if_pos rfl] at hx; cases hx
      exact ⟨Nat.le_refl _, fun _ => ⟨by rw [hG1]; exact upG_self _ _ _, by rw [hnl, e]⟩⟩
     ·rw [List.getElem_set_ne (Ne.symm hq)]
      exact hrv ((k4 q q1 (by simpa using q2)).step S' fun _ _ => trivial)
    ·rw [if_neg e] at h
     exact ⟨(hm'.obj id o h).1, hobj (hm'.obj id o h).2⟩
   ·have hk : st.nx + 1 ≤ k := hk
    rw [hG1, upG_other G _ (by omega)]; exact s.fresh k (by omega)
  ·cases h
 ·cases h
theorem EvC.ownC (i j esz : Nat) {st' : St} (h : st.ownC i j esz = some st') (hc : EvC P fr ro ds c st' Q) : EvC P fr ro ds c st Q :=
 EvC.conv (fun _ F _ _ s => let ⟨G', s', S'⟩ := s.ownC h; ⟨G', F, s', S'⟩) hc
mutual
def AV.unk : AV → AV
 | .sl nl es _ => .sl nl (AV.unkss es) .unk
 | .ag cs => .ag (AV.unks cs)
 | .tu cs => .tu (AV.unks cs)
 | .ia cs => .ia (AV.unks cs)
 | .ifc t v => .ifc t v.unk
 | .fn f cs => .fn f (AV.unks cs)
 | v => v
def AV.unks : List AV → List AV
 | [] => []
 | c :: cs => c.unk :: AV.unks cs
def AV.unkss : List (List AV) → List (List AV)
 | [] => []
 | c :: cs => AV.unks c :: AV.unkss cs
end
theorem unks_eq : ∀ cs : List AV, AV.unks cs = cs.map AV.unk
 | [] => rfl
 | c :: cs => by simp only [AV.unks, List.map_cons, unks_eq cs]
theorem unkss_eq : ∀ cs : List (List AV), AV.unkss cs = cs.map AV.unks
 | [] => rfl
 | c :: cs => by simp only [AV.unkss, List.map_cons, unkss_eq cs]
theorem unks_len (c : List AV) : (AV.unks c).length = c.length := by rw [unks_eq]; simp
theorem unkss_map {α : Type} (f : α → List AV) (h : ∀ x, AV.unks (f x) = f x) (l : List α) : AV.unkss (l.map f) = l.map f := by
 rw [unkss_eq, List.map_map]
 exact List.map_congr_left fun x _ => h x
theorem Imm.unk {v : Value} {x : AV} (h : Imm F w v x) : Imm F w v x.unk := by
 induction h with
 | sc v => exact .sc v
 | ag vs cs hl _ ih => exact .ag vs _ (by rw [unks_eq]; simpa using hl) fun i a b => by simp only [unks_eq, List.getElem_map]; exact ih i a _
 | tu vs cs hl _ ih => exact .tu vs _ (by rw [unks_eq]; simpa using hl) fun i a b => by simp only [unks_eq, List.getElem_map]; exact ih i a _
 | nil cap hc => exact .nil _ (.inl rfl)
 | sz a cap hc => exact .sz a _ (.inl rfl)
 | sl b off c esz es cap vs hc' hcap hes hF hi ih =>
   have hl : (AV.unkss es).length = es.length := by rw [unkss_eq]; simp
   have := Imm.sl (F := F) (w := w) b off c esz (AV.unkss es) .unk vs (by rw [hl]; exact hc') (.inl rfl) (fun i h => by simp only [unkss_eq, List.getElem_map, unks_len]; exact hes i _) (fun i j h1 h2 => hF i j (by rw [hl] at h1; exact h1) h2)
    (fun i j h1 h2 => by
     simp only [unkss_eq, List.getElem_map, unks_eq]
     exact ih i j (by rw [hl] at h1; exact h1) (by simpa only [unkss_eq, List.getElem_map, unks_len] using h2))
   rw [hl] at this
   exact this
 | ia b off cs vs hF hi ih => exact .ia b off _ vs (fun j h => hF j (by rw [unks_len] at h; exact h)) fun j h => by simp only [unks_eq, List.getElem_map]; exact ih j (by rw [unks_len] at h; exact h)
 | ifc t v x h ih => exact .ifc t v _ ih
 | fn f vs cs hl h ih => exact .fn f vs _ (by rw [unks_len]; exact hl) fun i a b => by simp only [unks_eq, List.getElem_map]; exact ih i a (by rw [unks_len] at b; exact b)
 | opt b v x h h' _ => exact .opt b v x h h'
 | junk v => exact .junk v
theorem PureIs.weak {f : FuncId} {args : List AV} {r : AV} (h : PureIs P f (args.map AV.unk) r) : PureIs P f args r :=
 ⟨h.1, fun F w vals hF hi => h.2 F w vals hF ⟨by simpa using hi.1, fun i a b => by rw [List.getElem_map]; exact (hi.2 i a (by simpa using b)).unk⟩⟩
theorem PureIs.weakR {f : FuncId} {args : List AV} {r : AV} (h : PureIs P f args r) : PureIs P f args r.unk :=
 ⟨h.1, fun F w vals hF hi => (h.2 F w vals hF hi).mono fun _ _ ⟨v, F', h1, h2, h3⟩ => ⟨v, F', h1, h2.unk, h3⟩⟩
end
attribute [go_sem] St.ownV St.ownC AV.unk AV.unks AV.unkss
def resOneR (P : Program) (fr : Fr) (st : St) : ResultVar → Option AV
 | .tmp t => some (st.get fr t)
 | .cell a t => resOne P fr st (.cell a t)
def resAllR (P : Program) (fr : Fr) (st : St) : List ResultVar → Option (List AV)
 | [] => some []
 | x :: xs => match resOneR P fr st x, resAllR P fr st xs with
   | some v, some vs => some (v :: vs)
   | _, _ => none
section
variable {P : Program} {fr : Fr} {ro : Option Nat} {ds : DS} {st st' : St} {Q Q' : Exit → St → Prop} {G G' : Nat → Option Value} {F F' : Nat → Nat → Prop} {a : Act} {w w' : World} {x y c : Code}
 {M : Mem} {ops : Array Oper} {l rest : List Oper} {o : Oper}
theorem Step.all {nx : Nat} {M' : Mem} (hf : ∀ j, nx ≤ j → G j = none) (S : Step (· < nx) G F M w G' F' M' w') : Step All G F M w G' F' M' w' :=
 have lt : ∀ id, G id ≠ none → id < nx := fun id h => Nat.lt_of_not_le fun hle => h (hf id hle)
 { size := S.size, out := S.out, F1 := S.F1, F2 := S.F2, F3 := S.F3, own := S.own, kept := S.kept
   some' := fun id _ h => S.some' id (lt id h) h
   same := fun id v _ h hn => S.same id v (lt id (by rw [h]; simp)) h hn
   keep := fun id o' _ h ho => S.keep id o' (lt id h) h ho }
theorem resAllR_ok (s : SimA P fr ds G F st a w) : ∀ {xs : List ResultVar} {rs : List AV}, resAllR P fr st xs = some rs →
  ∃ us : List Value, (xs.mapM (resVar a.tmps)).run P w = .ok us w ∧ us.length = rs.length ∧ ∀ i (h1 : i < us.length) (h2 : i < rs.length), RV G F st.mem w us[i] rs[i]
 | [], rs, h => by
   cases h
   exact ⟨[], by simp, rfl, fun _ h => absurd h (Nat.not_lt_zero _)⟩
 | x :: xs, rs, h => by
   simp only [resAllR] at h
   split at h
   ·rename_i v vs hv hvs
    cases h
    have h1 : ∃ u, (resVar a.tmps x).run P w = .ok u w ∧ RV G F st.mem w u v := by
     cases x with
     | cell p t => exact resOne_ok s hv
     | tmp t => cases hv; exact ⟨_, rfl, s.sim.slots t⟩
    obtain ⟨u, h1, h2⟩ := h1
    obtain ⟨us, h3, h4, h5⟩ := resAllR_ok s hvs
    refine ⟨u :: us, by simp [List.mapM_cons, h1, h3], by simp [h4], fun i hi hj => ?_⟩
    cases i with
    | zero => exact h2
    | succ i => exact h5 i (by simpa using hi) (by simpa using hj)
   ·cases h
theorem resultsR_ok (s : SimA P fr ds G F st a w) {fn : Func} {rs : List AV} (h : resAllR P fr st fn.results.toList = some rs) : ∃ u, (results fn a.tmps).run P w = .ok u w ∧ RV G F st.mem w u (mkRes rs) := by
 obtain ⟨us, h1, h2, h3⟩ := resAllR_ok s h
 refine ⟨if h : us.toArray.size = 1 then us.toArray[0] else .tuple us.toArray, ?_, ?_⟩
 ·rw [results_eq, Array.mapM_eq_mapM_toList]
  simp [h1]
 ·match us, rs, h2 with
  | [], [], _ => exact .tu [] [] rfl (fun _ h => absurd h (Nat.not_lt_zero _))
  | [u], [r], _ => exact h3 0 (by simp) (by simp)
  | u :: u' :: us, r :: r' :: rs, h2 =>
    simp only [List.size_toArray, List.length_cons, mkRes]
    rw [dif_neg (by omega)]
    exact .tu _ _ h2 h3
def bodyArgs (fr : Fr) (st : St) (args : Array Operand) : List AV := args.toList.map fun x => od fr st true x
end
def PureFr (P : Program) (f : FuncId) (args : List AV) (r : AV) : Prop :=
 callable P f ∧ ∀ F w vals, FOk F w → Imms F w vals args →
  CallsIn Fence.wide 0 P f vals.toArray w fun e w' => ∃ v Fr, e = .returned v ∧ Imm Fr w' v r ∧ (∀ b o, Fr b o → w.heap.size ≤ b ∧ b < w'.heap.size) ∧ Grown F w (fun b o => F b o ∨ Fr b o) w'
section
variable {P : Program} {fr : Fr} {ro : Option Nat} {ds : DS} {st st' : St} {Q Q' : Exit → St → Prop} {G G' : Nat → Option Value} {F F' : Nat → Nat → Prop} {a : Act} {w w' : World} {x y c : Code}
 {M : Mem} {ops : Array Oper} {l rest : List Oper} {o : Oper}
end
def isSc : AV → Bool
 | .sc _ => true
 | _ => false
def flat (es : List (List AV)) : Bool := es.all fun c => c.all isSc
def freshOne (M : Mem) : AV → Option AV
 | .sc v => some (.sc v)
 | .sl true [] cap => some (.sl true [] cap)
 | .tl i n b => match mlook M i with
   | some (.arr _ es _) => if n = es.length ∧ flat es = true then some (.sl b es .unk) else none
   | _ => none
 | .tv i n off len (.val k) => match mlook M i with
   | some (.arr _ es _) => if n = es.length ∧ flat es = true ∧ k = len then some (.sl false ((es.drop off).take len) .full) else none
   | _ => none
 | _ => none
def freshAll (M : Mem) : List AV → Option (List AV)
 | [] => some []
 | x :: xs => match freshOne M x, freshAll M xs with
   | some v, some vs => some (v :: vs)
   | _, _ => none
def newF (B : Nat) (w : World) : Nat → Nat → Prop := fun b _ => B ≤ b ∧ b < w.heap.size
section
variable {P : Program} {G : Nat → Option Value} {F : Nat → Nat → Prop} {M : Mem} {w : World} {nx B : Nat}
theorem flat_get {es : List (List AV)} (h : flat es = true) (i j : Nat) (h1 : i < es.length) (h2 : j < es[i].length) : ∃ v, es[i][j] = .sc v := by
 unfold flat at h
 rw [List.all_eq_true] at h
 have h3 := h _ (List.getElem_mem h1)
 rw [List.all_eq_true] at h3
 have := h3 _ (List.getElem_mem h2)
 cases hx : es[i][j] <;> simp [hx, isSc] at this ⊢
theorem freshOne_ok (hm : SimM P G F M nx w) (hB : ∀ b, Owned G M b → B ≤ b) {v : Value} {y z : AV} (h : RV G F M w v y) (hz : freshOne M y = some z) : Imm (newF B w) w v z := by
 unfold freshOne at hz
 split at hz
 ·cases hz
  rw [h.inv_sc]; exact .sc _
 ·cases hz
  cases h.inv_sl with
  | nil _ hc => exact .nil _ hc
 ·rename_i i n b
  split at hz
  ·rename_i esz es fz ho
   split at hz
   ·rename_i hc
    cases hz
    obtain ⟨hnl, hfl⟩ := hc
    obtain ⟨_, hh⟩ := h.inv_tl
    obtain ⟨hG, hb⟩ := (hh _ _ _ ho).2 hnl
    rcases (hm.obj i _ ho).2 with ⟨h0, base, h1, hsp⟩ | ⟨b', ko, c, cc, e, h1, h2, h3, h4, h5, h6, h7, h8, h9⟩
    ·rw [hG] at h1; cases h1
     subst h0
     cases base with
     | none => simp [isNilSlice] at hb; subst hb; exact .nil _ (.inl rfl)
     | some a =>
       simp [isNilSlice] at hb; subst hb
       exact .sz a .unk (.inl rfl)
    ·have hG1 := hG
     rw [hG] at h1; cases h1
     simp [isNilSlice] at hb; subst hb
     have hown : Owned G M b' := ⟨i, _, _, ho, hG1, by simp [blkOf, h2]⟩
     refine .sl b' ko c esz es .unk (fun i j => (cc[ko + (i * esz + j)]?).getD undef) h4 (.inl rfl) h6 (fun k j hk hj => ⟨⟨hB _ hown, hm.lt hown⟩, ?_⟩) (fun k j hk hj => ?_)
     ·rw [cell?_block h3, Nat.add_assoc]
      obtain ⟨v, hv, h1c, _⟩ := h7 k j hk (by rw [h6 k hk]; exact hj)
      rw [hv]; exact ⟨rfl, h1c⟩
     ·obtain ⟨v, hv, _, hr⟩ := h7 k j hk hj
      obtain ⟨u, hu⟩ := flat_get hfl k j hk hj
      rw [hv]
      rw [hu] at hr ⊢
      rw [show (some v).getD undef = v from rfl, hr.inv_sc]; exact .sc _
   ·cases hz
  ·cases hz
 ·rename_i i n off len k
  split at hz
  ·rename_i esz es fz ho
   split at hz
   ·rename_i hc
    cases hz
    obtain ⟨hnl, hfl, rfl⟩ := hc
    obtain ⟨_, hh⟩ := h.inv_tv
    obtain ⟨hol, b', ko, c, hG, hc0, c', rfl, hlc, hcp⟩ := (hh _ _ _ ho).2 hnl
    rcases hc0 with hc0 | ⟨hc0, hc2, hc1⟩
    rotate_left
    ·simp only [Value.slice.injEq] at hc1
     obtain ⟨_, rfl, rfl⟩ := hc1
     have : es = [] := List.length_eq_zero_iff.1 (by omega)
     subst this
     have e1 : ((([] : List (List AV)).drop off).take 0) = [] := by simp
     rw [e1]
     exact .sz _ _ (.inr (.inr (.inl rfl)))
    have hc' : c' = k := by
     rcases hcp with h | h | ⟨h, _⟩
     ·cases h
     ·cases h; rfl
     ·cases h
    subst hc'
    rcases (hm.obj i _ ho).2 with ⟨h0, base, h1, hsp⟩ | ⟨b2, ko2, c2, cc, e, h1, h2, h3, h4, h5, h6, h7, h8, h9⟩
    ·rw [hG] at h1; cases h1; exact absurd rfl hc0
    ·rw [hG] at h1; cases h1
     have hown : Owned G M b' := ⟨i, _, _, ho, hG, by simp [blkOf, hc0]⟩
     have hlen : ((es.drop off).take c').length = c' := by simp; omega
     have hget : ∀ k (hk : k < ((es.drop off).take c').length), ((es.drop off).take c')[k] = es[off + k]'(by rw [hlen] at hk; omega) := fun k hk => by simp
     have := Imm.sl (F := newF B w) (w := w) b' (ko + off * esz) c' esz ((es.drop off).take c') .full (fun k j => (cc[ko + ((off + k) * esz + j)]?).getD undef) (by omega) (.inr (.inr (.inl ⟨rfl, hlen.symm⟩))) (fun k hk => by rw [hget k hk]; exact h6 _ _)
      (fun k j hk hj => by
       refine ⟨⟨hB _ hown, hm.lt hown⟩, ?_⟩
       have hk2 : off + k < es.length := by rw [hlen] at hk; omega
       rw [cell?_block h3, show ko + off * esz + k * esz + j = ko + ((off + k) * esz + j) by rw [Nat.add_mul]; omega]
       obtain ⟨v, hv, h1c, _⟩ := h7 (off + k) j hk2 (by rw [h6 _ hk2]; exact hj)
       rw [hv]; exact ⟨rfl, h1c⟩)
      (fun k j hk hj => by
       have hk2 : off + k < es.length := by rw [hlen] at hk; omega
       simp only [hget k hk] at hj ⊢
       obtain ⟨v, hv, _, hr⟩ := h7 (off + k) j hk2 hj
       obtain ⟨u, hu⟩ := flat_get hfl (off + k) j hk2 hj
       rw [hv]
       rw [hu] at hr ⊢
       rw [show (some v).getD undef = v from rfl, hr.inv_sc]; exact .sc _)
     rw [hlen] at this
     exact this
   ·cases hz
  ·cases hz
 ·cases hz
theorem freshAll_ok (hm : SimM P G F M nx w) (hB : ∀ b, Owned G M b → B ≤ b) : ∀ {us : List Value} {rs zs : List AV}, us.length = rs.length → (∀ i (h1 : i < us.length) (h2 : i < rs.length), RV G F M w us[i] rs[i]) → freshAll M rs = some zs →
  us.length = zs.length ∧ ∀ i (h1 : i < us.length) (h2 : i < zs.length), Imm (newF B w) w us[i] zs[i]
 | [], [], zs, _, _, h => by cases h; exact ⟨rfl, fun i h => by simp at h⟩
 | [], _ :: _, _, h, _, _ => by simp at h
 | _ :: _, [], _, h, _, _ => by simp at h
 | u :: us, r :: rs, zs, hl, hr, h => by
   simp only [freshAll] at h
   split at h
   ·rename_i v vs hv hvs
    cases h
    obtain ⟨h1, h2⟩ := freshAll_ok hm hB (by simpa using hl) (fun i a b => hr (i + 1) (by simpa using a) (by simpa using b)) hvs
    refine ⟨by simpa using h1, fun i a b => ?_⟩
    cases i with
    | zero => exact freshOne_ok hm hB (hr 0 (by simp) (by simp)) hv
    | succ i => exact h2 i (by simpa using a) (by simpa using b)
   ·cases h
theorem freshRes_ok (hm : SimM P G F M nx w) (hB : ∀ b, Owned G M b → B ≤ b) {fr : Fr} {ds : DS} {st : St} {a : Act} (s : SimA P fr ds G F st a w) (hM : st.mem = M) {fn : Func} {rs zs : List AV} (h : resAllR P fr st fn.results.toList = some rs) (hz : freshAll M rs = some zs) :
  ∃ u, (results fn a.tmps).run P w = .ok u w ∧ Imm (newF B w) w u (mkRes zs) := by
 subst hM
 obtain ⟨us, h1, h2, h3⟩ := resAllR_ok s h
 obtain ⟨h4, h5⟩ := freshAll_ok hm hB h2 h3 hz
 refine ⟨if h : us.toArray.size = 1 then us.toArray[0] else .tuple us.toArray, ?_, ?_⟩
 ·rw [results_eq, Array.mapM_eq_mapM_toList]
  simp [h1]
 ·match us, zs, h4 with
  | [], [], _ => exact .tu [] [] rfl (fun _ h => absurd h (Nat.not_lt_zero _))
  | [u], [r], _ => exact h5 0 (by simp) (by simp)
  | u :: u' :: us, r :: r' :: rs, h4 =>
    simp only [List.size_toArray, List.length_cons, mkRes]
    rw [dif_neg (by omega)]
    exact .tu _ _ h4 h5
def retF (P : Program) (fr : Fr) (results : List ResultVar) (r : AV) (e : Exit) (st : St) : Prop :=
 (e = .ret ∨ e = .normal) ∧ ∃ rs zs, resAllR P fr st results = some rs ∧ freshAll st.mem rs = some zs ∧ mkRes zs = r
theorem PureFr.of {c : Code} {f : FuncId} {fn : Func} {args : List AV} {r : AV} {nv : Nat} {hid : List Nat} (hf : P.funcs[f]? = some fn) (hb : fn.body = some c) (hnm : (fn.name == "runtime.NumGoroutine") = false) (hsz : args.length ≤ fn.ntmps)
  (h : ∀ h0 : Nat, EvC P ⟨0, nv, hid, fn.ntmps⟩ none ⟨h0, none, false⟩ c (st0 args) (retF P ⟨0, nv, hid, fn.ntmps⟩ fn.results.toList r)) (hlt : f < 1000000 := by first | assumption | decide) : PureFr P f args r := by
 refine ⟨callable_of hf hnm (by rw [hb]; rfl), fun F w vals hF hi => ?_⟩
 obtain ⟨hl, hi⟩ := hi
 have s0 : SimA P ⟨0, nv, hid, fn.ntmps⟩ ⟨w.heap.size, none, false⟩ (fun _ => none) F (st0 args) { tmps := vals.toArray ++ Array.replicate (fn.ntmps - vals.toArray.size) undef, defers := [] } w := by
  refine ⟨⟨⟨fun id o h => (by cases h), fun id id' v v' b h => absurd rfl h, hF.1, hF.2⟩, fun k => ?_, by simp; omega⟩, fun _ _ => rfl, Marks.none _ _ _ (Nat.le_refl _)⟩
  have key : ∀ x, (x = .junk ∨ ∃ h : k < args.length, x = args[k]) → RV (fun _ => none) F (st0 args).mem w ((vals.toArray ++ Array.replicate (fn.ntmps - vals.toArray.size) undef).getD k undef) x := by
   rintro x (rfl | ⟨hk, rfl⟩)
   ·exact .imm (.junk _)
   ·have : (vals.toArray ++ Array.replicate (fn.ntmps - vals.toArray.size) undef).getD k undef = vals[k]'(by omega) := by
      rw [Array.getD_eq_getD_getElem?, Array.getElem?_append_left (by simp; omega)]
      simp [List.getElem?_eq_getElem (show k < vals.length by omega)]
    rw [this]
    exact .imm (hi k (by omega) hk)
  refine key _ ?_
  unfold St.get
  split
  ·rcases alook_vars0 args 0 k with h | ⟨h1, h2, h3⟩
   ·exact .inl h
   ·exact .inr ⟨by simpa using h1, by simpa [st0] using h3⟩
  ·exact .inl rfl
 refine callsIn_of_wp_marks (F := Fence.wide) hf hb trivial (wpIn_mono (h _ _ _ _ _ _ _ _ _ .refl s0) ?_)
 rintro e a' w' ⟨G', F', st', s', S', he, rs, zs, hrs, hzs, rfl⟩
 have hown : ∀ b, Owned G' st'.mem b → w.heap.size ≤ b := fun b hb => (S'.own b hb).elim id fun ⟨_, _, _, h, _⟩ => by cases h
 have g : ∀ w2 : World, w.heap.size ≤ w2.heap.size → (∀ b, b < w.heap.size → w2.heap[b]? = w.heap[b]?) → Kept w w2 → Grown F w (fun b o => F b o ∨ newF w.heap.size w2 b o) w2 := fun w2 h1 h2 h3 =>
  ⟨h1, h2, fun _ _ h => .inl h, fun b o h => h.imp id fun h => h.1, fun b o h => h.elim (fun h => Nat.lt_of_lt_of_le (hF.1 b o h) h1) fun h => h.2, h3⟩
 have hfin : ∀ (Ds : List Nat) (w2 : World), Ds.Nodup → (∀ D ∈ Ds, w.heap.size ≤ D ∧ w2.heap[D]? = some (.deferred (some []))) → w.heap.size ≤ w2.heap.size → (∀ b, b < w.heap.size → w2.heap[b]? = w.heap[b]?) → Kept w w2 →
   SimA P ⟨0, nv, hid, fn.ntmps⟩ ⟨w.heap.size, none, false⟩ G' F' st' { a' with defers := [] } w2 →
   LeavesInM Fence.wide 0 P fn a'.tmps (fun e w' => ∃ v Fr, e = .returned v ∧ Imm Fr w' v (mkRes zs) ∧ (∀ b o, Fr b o → w.heap.size ≤ b ∧ b < w'.heap.size) ∧ Grown F w (fun b o => F b o ∨ Fr b o) w') (Ds.map dmark) .returning w2 := by
  intro Ds
  induction Ds with
  | nil =>
    intro w2 _ _ h1 h2 h3 s2
    obtain ⟨u, k1, k2⟩ := freshRes_ok s2.sim.mem hown s2 rfl hrs hzs
    exact ⟨u, k1, u, newF w.heap.size w2, rfl, k2, fun _ _ h => h, g w2 h1 h2 h3⟩
  | cons D Ds ih =>
    intro w2 hnd hD h1 h2 h3 s2
    obtain ⟨d1, d2⟩ := hD D List.mem_cons_self
    have hnd := List.nodup_cons.1 hnd
    have hk : ∀ (b : Nat) (o : Obj), w2.heap[b]? = some o → isData o = true → (w2.putObj D (.deferred none)).heap[b]? = some o := fun b o hb ho => by
     rw [World.putObj_heap_other (by rintro rfl; rw [d2] at hb; cases hb; cases ho)]; exact hb
    refine ⟨(by intro h; cases h), .inl ⟨D, _, rfl, run_takeDeferred d2, ih _ hnd.2 (fun D' hD' => ?_) (by rw [World.putObj_size]; exact h1) (fun b hb => ?_) (h3.trans (.set d2 rfl rfl)) ?_⟩⟩
    ·refine ⟨(hD D' (List.mem_cons_of_mem _ hD')).1, ?_⟩
     rw [World.putObj_heap_other (by rintro rfl; exact hnd.1 hD')]; exact (hD D' (List.mem_cons_of_mem _ hD')).2
    ·rw [World.putObj_heap_other (by omega)]; exact h2 b hb
    ·exact ⟨⟨s2.sim.mem.keepData hk (by rw [World.putObj_size]; exact Nat.le_refl _), fun k => (s2.sim.slots k).keepData hk, s2.sim.size⟩, s2.fresh, Marks.none _ _ _ (by rw [World.putObj_size]; exact h1)⟩
 obtain ⟨⟨Ds, hDs, hnd, hD⟩, _⟩ := s'.defers
 have hDs : a'.defers = Ds.map dmark := hDs
 have := hfin Ds w' hnd hD S'.size (fun b hb => S'.out b hb (fun ⟨_, _, _, h, _⟩ => by cases h)) S'.kept ⟨⟨s'.sim.mem, s'.sim.slots, s'.sim.size⟩, s'.fresh, Marks.none _ _ _ S'.size⟩
 rw [← hDs] at this
 rcases he with rfl | rfl
 ·exact this
 ·exact this
theorem PureFr.pure {f : FuncId} {args : List AV} {r : AV} (h : PureFr P f args r) : PureIs P f args r :=
 ⟨h.1, fun F w vals hF hi => (h.2 F w vals hF hi).mono fun _ _ ⟨v, Fr, he, hv, _, hg⟩ => ⟨v, _, he, hv.mono (fun _ _ h => .inr h) fun _ _ _ => rfl, hg⟩⟩
end
section
variable {F : Fence} {n : Nat} {P : Program} {a : Act} {w : World} {c : Code}
theorem stepR_scope {b : Frame} {k : List Item} {cs : List Frame} : step P (lone (b.atR a (.code (.scope c) :: k)) cs w) = .next (lone (b.atR a (.code c :: .inScope c :: k)) cs w) :=
 step_lone_go (by simp [stepG, stepG.exec, Frame.atR])
theorem stepR_inScope {b : Frame} {k : List Item} {cs : List Frame} : step P (lone (b.atR a (.inScope c :: k)) cs w) = .next (lone (b.atR a k) cs w) :=
 step_lone_go (by simp [stepG, stepG.exec, Frame.atR])
theorem wpIn_scope {Q : Exit → Act → World → Prop} (h : c.wpIn F n P (Exit.noGoto Q) a w) : (Code.scope c).wpIn F n P Q a w := by
 intro b k cs hro hb hr
 have h0 : (lone (b.atR a (.code (.scope c) :: k)) cs w).fenced P F := fenced_calm hb hr rfl
 obtain ⟨e, a₁, w₁, hq, harr⟩ := h b (.inScope c :: k) cs hro hb hr
 cases e with
 | normal => exact ⟨.normal, a₁, w₁, hq, .head h0 stepR_scope (StepsIn.trans harr (.one (fenced_calm hb hr rfl) stepR_inScope))⟩
 | exit id =>
   have hx : exitTo id (.inScope c :: k) = exitTo id k := by simp [exitTo]
   exact ⟨.exit id, a₁, w₁, hq, fun k' hk => .head h0 stepR_scope (harr.1 k' (by rw [hx]; exact hk)),
    fun hr' hk => let ⟨k₁, h1, h2⟩ := harr.2 hr' (by rw [hx]; exact hk); ⟨k₁, h1, .head h0 stepR_scope h2⟩⟩
 | goto l => exact hq.elim
 | ret => exact ⟨_, a₁, w₁, hq, .of_steps (.one h0 stepR_scope) harr⟩
 | panic ch => exact ⟨_, a₁, w₁, hq, .of_steps (.one h0 stepR_scope) harr⟩
 | outgrown => exact ⟨_, a₁, w₁, hq, .of_steps (.one h0 stepR_scope) harr⟩
end
section
variable {P : Program} {fr : Fr} {ro : Option Nat} {ds : DS} {st st' : St} {Q Q' : Exit → St → Prop} {x y c : Code}
def noGotoE (Q : Exit → St → Prop) : Exit → St → Prop
 | .goto _, _ => False
 | e, st => Q e st
theorem EvC.scope (h : EvC P fr ro ds c st (noGotoE Q)) : EvC P fr ro ds (.scope c) st Q :=
 fun _ _ _ _ _ _ _ _ S s => wpIn_scope (wpIn_mono (h _ _ _ _ _ _ _ _ S s) fun e _ _ ⟨G', F', st', h1, h2, h3⟩ => by
  cases e <;> first | exact h3.elim | exact ⟨G', F', st', h1, h2, h3⟩)
theorem EvC.label {l : Nat} (h : Q .normal st) : EvC P fr ro ds (.label l) st Q :=
 fun _ _ _ _ G F _ _ S s => wpIn_label ⟨G, F, st, s, S, h⟩
end
def St.shrink (fr : Fr) (k : Nat) (st : St) : Option St :=
 match st.get fr k with
 | .tv i n 0 0 .rest => match mlook st.mem i with
   | some (.arr esz es false) => if n = es.length then some ((⟨st.vars, st.tmps, (st.nx, .arr esz [] false) :: mdel st.mem i, st.nx + 1⟩ : St).put fr (some k) (.tl st.nx 0 false)) else none
   | _ => none
 | _ => none
section
variable {P : Program} {fr : Fr} {ro : Option Nat} {ds : DS} {st st' : St} {Q Q' : Exit → St → Prop} {G G' : Nat → Option Value} {F F' : Nat → Nat → Prop} {a : Act} {w w' : World} {x y c : Code} {M : Mem}
 {ops : Array Oper} {l rest : List Oper}
theorem mlook_mdel' : ∀ (M : Mem) (i j : Nat), mlook (mdel M i) j = if j = i then none else mlook M j
 | [], i, j => by simp [mdel, mlook]
 | (k, o) :: M, i, j => by
   have ih := mlook_mdel' M i j
   simp only [mdel]
   by_cases h : i = k
   ·subst h
    rw [if_pos rfl, ih]
    by_cases hj : j = i
    ·subst hj; simp
    ·simp [mlook, hj]
   ·rw [if_neg h]
    simp only [mlook]
    by_cases hj : j = k
    ·subst hj
     rw [if_pos rfl, if_neg (fun e => h e.symm), if_pos rfl]
    ·rw [if_neg hj, if_neg hj]; exact ih
theorem SimA.shrink {k : Nat} (s : SimA P fr ds G F st a w) (h : st.shrink fr k = some st') : ∃ G', SimA P fr ds G' F st' a w ∧ Step (· < fr.base) G F st.mem w G' F st'.mem w := by
 unfold St.shrink at h
 split at h
 ·rename_i i n hk
  split at h
  ·rename_i esz es ho
   split at h
   ·rename_i hn
    cases h
    have hv := s.sim.slots k
    rw [hk] at hv
    obtain ⟨hG0, hh⟩ := hv.inv_tv
    obtain ⟨_, b, ko, c, hG, hc0, c', hval, _, hcp⟩ := (hh _ _ _ ho).2 hn
    replace hc0 : c ≠ 0 := hc0.resolve_right fun h => by cases h.2.1
    have hcc : c' = c := by
     rcases hcp with h | h | ⟨_, h⟩
     ·cases h
     ·cases h
     ·omega
    subst hcc
    rw [Nat.zero_mul, Nat.add_zero] at hval
    have hob := (s.sim.mem.obj i _ ho)
    have hne : i ≠ st.nx := Nat.ne_of_lt hob.1
    obtain ⟨G1, hG1⟩ : ∃ G1, G1 = upG G st.nx (.slice (some ⟨b, ko, none⟩) 0 c') := ⟨_, rfl⟩
    obtain ⟨M1, hM1⟩ : ∃ M1 : Mem, M1 = (st.nx, .arr esz [] false) :: mdel st.mem i := ⟨_, rfl⟩
    have hlk : ∀ j, mlook M1 j = if j = st.nx then some (.arr esz [] false) else if j = i then none else mlook st.mem j := fun j => by
     rw [hM1]; simp only [mlook]
     by_cases hj : j = st.nx
     ·rw [if_pos hj, if_pos hj]
     ·rw [if_neg hj, if_neg hj, mlook_mdel']
    have hgo : ∀ j, j ≠ st.nx → G1 j = G j := fun j hj => by rw [hG1, upG_other G _ hj]
    have hgs : G1 st.nx = some (.slice (some ⟨b, ko, none⟩) 0 c') := by rw [hG1, upG_self]
    have hbk : blkOf (.slice (some ⟨b, ko, none⟩) n c') = some b := by simp [blkOf, hc0]
    have hbk0 : blkOf (.slice (some ⟨b, ko, none⟩) 0 c') = some b := by simp [blkOf, hc0]
    have S : Step All G F st.mem w G1 F M1 w :=
     { kept := .refl
       size := Nat.le_refl _
       out := fun _ _ _ => rfl
       F1 := fun _ _ h => h
       F2 := fun _ _ _ => rfl
       F3 := fun _ _ h => .inl h
       own := fun b' ⟨id, o, v, h1, h2, h3⟩ => by
        rw [hlk] at h1
        by_cases hj : id = st.nx
        ·subst hj
         rw [hgs] at h2; cases h2
         rw [hbk0] at h3; cases h3
         exact .inr ⟨i, _, _, ho, hG, hbk⟩
        ·rw [if_neg hj] at h1
         rw [hgo id hj] at h2
         split at h1
         ·cases h1
         ·exact .inr ⟨id, o, v, h1, h2, h3⟩
       some' := fun id _ hid => by
        by_cases hj : id = st.nx
        ·subst hj; rw [hgs]; simp
        ·rw [hgo id hj]; exact hid
       same := fun id v _ hid _ => by
        have hj : id ≠ st.nx := fun e => by rw [e, s.fresh _ (Nat.le_refl _)] at hid; cases hid
        rw [hgo id hj]; exact hid
       keep := fun id o' _ hid h1 => by
        have hj : id ≠ st.nx := fun e => hid (by rw [e]; exact s.fresh _ (Nat.le_refl _))
        rw [hlk, if_neg hj] at h1
        obtain ⟨v, hv⟩ := Option.ne_none_iff_exists'.1 hid
        split at h1
        ·cases h1
        ·exact ⟨o', v, v, h1, hv, (hgo id hj).trans hv, objKeep.refl v o'⟩ }
    have hm' : SimM P G1 F M1 (st.nx + 1) w := by
     refine simM_gen s.sim.mem S (fun id o' h1 => ?_) (fun id id' v v' b' h1 h2 h3 h4 h5 h6 => ?_) s.sim.mem.inF
     ·rw [hlk] at h1
      by_cases hj : id = st.nx
      ·subst hj
       rw [if_pos rfl] at h1; cases h1
       refine ⟨Nat.lt_succ_self _, .inl ?_⟩
       rcases hob.2 with ⟨_, base, h1, _⟩ | ⟨b2, ko2, c2, cc, e, k1, k2, k3, k4, k5, k6, k7, k8, k9⟩
       ·rw [hG] at h1; cases h1; exact absurd rfl hc0
       ·rw [hG] at k1; cases k1
        refine .inr ⟨b, ko, c', cc, e, hgs, hc0, k3, Nat.zero_le _, k5, fun i h => absurd h (Nat.not_lt_zero _), fun i j h => absurd h (Nat.not_lt_zero _), fun o h => ?_, fun h => by cases h⟩
        have := (k8 o h).1
        cases this
      ·rw [if_neg hj] at h1
       split at h1
       ·cases h1
       ·exact ⟨Nat.lt_succ_of_lt (s.sim.mem.obj id o' h1).1, .inr ⟨h1, hgo id hj, fun b v _ _ => ⟨rfl, fun _ h => h⟩⟩⟩
     ·have back : ∀ {id : Nat} {v : Value}, mlook M1 id ≠ none → G1 id = some v → blkOf v = some b' → (id = st.nx ∧ b' = b) ∨ (id ≠ st.nx ∧ id ≠ i ∧ mlook st.mem id ≠ none ∧ G id = some v) := fun {id v} q1 q2 q3 => by
        by_cases hj : id = st.nx
        ·subst hj
         rw [hgs] at q2; cases q2
         rw [hbk0] at q3; cases q3
         exact .inl ⟨rfl, rfl⟩
        ·rw [hlk, if_neg hj] at q1
         rw [hgo id hj] at q2
         by_cases hi : id = i
         ·rw [if_pos hi] at q1; exact absurd rfl q1
         ·rw [if_neg hi] at q1; exact .inr ⟨hj, hi, q1, q2⟩
      have hio : mlook st.mem i ≠ none := by rw [ho]; simp
      rcases back h1 h3 h5 with ⟨e1, e2⟩ | ⟨q1, q2, q3, q4⟩ <;> rcases back h2 h4 h6 with ⟨e3, e4⟩ | ⟨p1, p2, p3, p4⟩
      ·rw [e1, e3]
      ·subst e2
       exact absurd (s.sim.mem.inj id' i _ _ _ p3 hio p4 hG h6 hbk) p2
      ·subst e4
       exact absurd (s.sim.mem.inj id i _ _ _ q3 hio q4 hG h5 hbk) q2
      ·exact s.sim.mem.inj id id' _ _ _ q3 p3 q4 p4 h5 h6
    refine ⟨G1, ⟨⟨by rw [St.put_mem, St.put_nx, ← hM1]; exact hm', fun j => ?_, s.sim.size⟩, fun j hj => ?_, s.defers⟩, by rw [St.put_mem, ← hM1]; exact S.mono fun _ _ => trivial⟩
    ·rw [St.put_mem, St.get_put, ← hM1]
     split
     ·rename_i hj; subst hj
      rw [hval]
      exact .tl st.nx 0 false _ (by rw [hgs]; simp) fun esz' es' fz ho' => by
       rw [hlk, if_pos rfl] at ho'; cases ho'
       exact ⟨Nat.le_refl _, fun _ => ⟨hgs, rfl⟩⟩
     ·exact (s.sim.slots j).step S fun _ _ => trivial
    ·rw [St.put_nx] at hj
     have hj : st.nx + 1 ≤ j := hj
     rw [hgo j (by omega)]; exact s.fresh j (by omega)
   ·cases h
  ·cases h
 ·cases h
theorem EvC.shrink (k : Nat) {st' : St} (h : st.shrink fr k = some st') (hc : EvC P fr ro ds c st' Q) : EvC P fr ro ds c st Q :=
 EvC.conv (fun _ F _ _ s => let ⟨G', s', S'⟩ := s.shrink h; ⟨G', F, s', S'⟩) hc
theorem XR.shrink (k : Nat) {st' : St} (h : st.shrink fr k = some st') (hc : XR P fr ro ds ops l st' Q) : XR P fr ro ds ops l st Q :=
 fun _ _ _ _ _ _ _ _ S s => let ⟨_, s', S'⟩ := s.shrink h; hc _ _ _ _ _ _ _ _ (S.trans S') s'
theorem XR.gcTo (st2 : St) (L : List Nat) (K : List (Nat × Nat)) (hk : gcOk fr.base st2.nx K = true) (he : st.gc L K st2.nx = st2) (h : XR P fr ro ds ops l st2 Q) : XR P fr ro ds ops l st Q :=
 fun _ _ _ _ _ _ _ _ S s => by
  have s1 := s.gc (L := L) hk
  rw [he] at s1
  obtain ⟨s', S'⟩ := s1
  exact h _ _ _ _ _ _ _ _ (S.trans S') s'
end
attribute [go_sem] St.shrink mdel resAllR resOneR bodyArgs cutHead cutTail
def lendC (f : AV → AV) (cs : List AV) : List AV := if AV.norefs cs = true then cs else cs.map f
def lendR (f : AV → AV) (es : List (List AV)) : List (List AV) := if es.all AV.norefs = true then es else es.map (·.map f)
def lendA (M : Mem) : Nat → AV → AV
 | 0, v => v
 | d + 1, .tl i n b => match mlook M i with
   | some (.arr _ es _) => .sl b (lendR (lendA M d) es) .unk
   | _ => .tl i n b
 | d + 1, .tv i n off len cap => match mlook M i with
   | some (.arr _ es _) => .sl false (tvEs (lendR (lendA M d) es) n off len) (tvCap len cap)
   | _ => .tv i n off len cap
 | d + 1, .rf i off => match mlook M i with
   | some (.cells cs) => .ia ((lendC (lendA M d) cs).drop off)
   | _ => .rf i off
 | d + 1, .fn f cs => .fn f (lendC (lendA M d) cs)
 | d + 1, .ag cs => .ag (lendC (lendA M d) cs)
 | _ + 1, v => v
def lendK (M : Mem) : Nat → AV → Bool
 | 0, v => v.noref
 | d + 1, .tl i n _ => match mlook M i with
   | some (.arr _ es _) => decide (n = es.length) && (es.all AV.norefs || es.all fun c => c.all (lendK M d))
   | _ => false
 | d + 1, .tv i n _ _ _ => match mlook M i with
   | some (.arr _ es _) => decide (n = es.length) && (es.all AV.norefs || es.all fun c => c.all (lendK M d))
   | _ => false
 | d + 1, .rf i _ => match mlook M i with
   | some (.cells cs) => AV.norefs cs || cs.all (lendK M d)
   | _ => false
 | d + 1, .fn _ cs => AV.norefs cs || cs.all (lendK M d)
 | d + 1, .ag cs => AV.norefs cs || cs.all (lendK M d)
 | _ + 1, v => v.noref
def lendIs (f : AV → List Nat) : List AV → List Nat
 | [] => []
 | c :: cs => f c ++ lendIs f cs
def lendIss (f : AV → List Nat) : List (List AV) → List Nat
 | [] => []
 | c :: cs => lendIs f c ++ lendIss f cs
def lendI (M : Mem) : Nat → AV → List Nat
 | 0, _ => []
 | d + 1, .tl i _ _ => i :: match mlook M i with
   | some (.arr _ es _) => if es.all AV.norefs = true then [] else lendIss (lendI M d) es
   | _ => []
 | d + 1, .tv i _ _ _ _ => i :: match mlook M i with
   | some (.arr _ es _) => if es.all AV.norefs = true then [] else lendIss (lendI M d) es
   | _ => []
 | d + 1, .rf i _ => i :: match mlook M i with
   | some (.cells cs) => if AV.norefs cs = true then [] else lendIs (lendI M d) cs
   | _ => []
 | d + 1, .fn _ cs => if AV.norefs cs = true then [] else lendIs (lendI M d) cs
 | d + 1, .ag cs => if AV.norefs cs = true then [] else lendIs (lendI M d) cs
 | _ + 1, _ => []
section
variable {P : Program} {fr : Fr} {ro : Option Nat} {ds : DS} {st st' : St} {Q Q' : Exit → St → Prop} {G G' : Nat → Option Value} {F F' : Nat → Nat → Prop} {a : Act} {w w' : World} {x y c : Code}
 {M M' : Mem} {ops : Array Oper} {l rest : List Oper} {o : Oper} {id N : Nat} {rd : List Nat}
def argsD (fr : Fr) (st : St) (d : Nat) (args : Array Operand) : List AV := args.toList.map fun x => lendA st.mem d (od fr st true x)
def argsK (fr : Fr) (st : St) (d : Nat) (args : Array Operand) : Bool := args.toList.all fun x => lendK st.mem d (od fr st true x)
def argsI (fr : Fr) (st : St) (d : Nat) : List Operand → List Nat
 | [] => []
 | x :: xs => odds (lendI st.mem d (od fr st true x)) ++ argsI fr st d xs
def rdL (fr : Fr) (st : St) (d : Nat) (gs : List Nat) (o : Oper) (args : Array Operand) : List Nat := gs ++ (opSlots o.op.operands.toList ++ argsI fr st d args.toList)
end
attribute [go_sem] lendC lendR lendA lendK lendIs lendIss lendI argsD argsK argsI rdL
def St.thaw (i : Nat) (st : St) : Option St :=
 match mlook st.mem i with
 | some (.arr esz [] _) => some ⟨st.vars, st.tmps, mset st.mem i (.arr esz [] false), st.nx⟩
 | _ => none
def St.snapE (j k : Nat) (st : St) : Option St :=
 match mlook st.mem j with
 | some (.arr esz es false) => match es[k]? with
   | some c => some ⟨st.vars, st.tmps, mset st.mem j (.arr esz (es.set k (c.map (AV.deep (snap st.mem)))) false), st.nx⟩
   | none => none
 | _ => none
section
variable {P : Program} {fr : Fr} {ro : Option Nat} {ds : DS} {st st' : St} {Q Q' : Exit → St → Prop} {G G' : Nat → Option Value} {F F' : Nat → Nat → Prop} {a : Act} {w w' : World} {x y c : Code} {M : Mem}
theorem simM_thaw {nx i esz : Nat} {fz : Bool} (hm : SimM P G F M nx w) (ho : mlook M i = some (.arr esz [] fz)) :
  SimM P G F (mset M i (.arr esz [] false)) nx w ∧ Step All G F M w G F (mset M i (.arr esz [] false)) w := by
 have hold := (hm.obj i _ ho).2
 have S : Step All G F M w G F (mset M i (.arr esz [] false)) w :=
  { kept := .refl
    size := Nat.le_refl _
    out := fun _ _ _ => rfl
    F1 := fun _ _ h => h
    F2 := fun _ _ _ => rfl
    F3 := fun b o h => .inl h
    own := fun b ⟨id, o, v, h3, h4, h5⟩ => by
     rw [mlook_mset] at h3
     by_cases hi : id = i
     ·subst hi; exact .inr ⟨id, _, v, ho, h4, h5⟩
     ·rw [if_neg hi] at h3; exact .inr ⟨id, o, v, h3, h4, h5⟩
    some' := fun _ _ h => h
    same := fun _ _ _ h _ => h
    keep := fun id o' _ hG h3 => by
     obtain ⟨v, hv⟩ := Option.ne_none_iff_exists'.1 hG
     rw [mlook_mset] at h3
     by_cases hi : id = i
     ·subst hi
      rw [if_pos rfl] at h3; cases h3
      exact ⟨_, v, v, ho, hv, hv, ⟨rfl, .inl ⟨rfl, rfl⟩⟩⟩
     ·rw [if_neg hi] at h3
      exact ⟨o', v, v, h3, hv, hv, objKeep.refl v o'⟩ }
 have hinj : ∀ id id' v v' b, mlook (mset M i (.arr esz [] false)) id ≠ none → mlook (mset M i (.arr esz [] false)) id' ≠ none → G id = some v → G id' = some v' → blkOf v = some b → blkOf v' = some b → id = id' := by
  intro id id' v v' b h1 h2
  refine hm.inj id id' v v' b ?_ ?_
  ·rw [mlook_mset] at h1; by_cases hi : id = i
   ·subst hi; rw [ho]; simp
   ·rwa [if_neg hi] at h1
  ·rw [mlook_mset] at h2; by_cases hi : id' = i
   ·subst hi; rw [ho]; simp
   ·rwa [if_neg hi] at h2
 refine ⟨simM_gen hm S (fun id o' h => ?_) hinj hm.inF, S⟩
 rw [mlook_mset] at h
 by_cases hi : id = i
 ·subst hi; rw [if_pos rfl] at h; cases h
  refine ⟨(hm.obj id _ ho).1, .inl ?_⟩
  rcases hold with h | ⟨b, ko, c, cc, e, h1, h2, h3, h4, h5, h6, h7, h8, h9⟩
  ·exact .inl h
  ·exact .inr ⟨b, ko, c, cc, e, h1, h2, h3, h4, h5, h6, fun k j hk => absurd hk (Nat.not_lt_zero _), fun o h => absurd (h8 o h).2 (by simp), fun h => (by cases h)⟩
 ·rw [if_neg hi] at h
  exact ⟨(hm.obj id _ h).1, .inr ⟨h, rfl, fun b v hG hb => ⟨rfl, fun _ h => h⟩⟩⟩
theorem SimA.thaw {i : Nat} (s : SimA P fr ds G F st a w) (h : st.thaw i = some st') : SimA P fr ds G F st' a w ∧ Step (· < fr.base) G F st.mem w G F st'.mem w := by
 unfold St.thaw at h
 split at h
 ·rename_i esz fz ho
  cases h
  obtain ⟨hm', S'⟩ := simM_thaw s.sim.mem ho
  exact ⟨⟨⟨hm', fun k => (s.sim.slots k).step S' (fun _ _ => trivial), s.sim.size⟩, s.fresh, s.defers⟩, S'.mono fun _ _ => trivial⟩
 ·cases h
theorem EvC.thaw (i : Nat) (h : st.thaw i = some st') (hc : EvC P fr ro ds c st' Q) : EvC P fr ro ds c st Q :=
 EvC.conv (fun _ _ _ _ s => let ⟨s', S'⟩ := s.thaw h; ⟨_, _, s', S'⟩) hc
theorem simM_snapE {nx j esz k : Nat} {es : List (List AV)} {c0 : List AV} (hm : SimM P G F M nx w) (ho : mlook M j = some (.arr esz es false)) (hk : es[k]? = some c0) :
  SimM P G F (mset M j (.arr esz (es.set k (c0.map (AV.deep (snap M)))) false)) nx w ∧ Step All G F M w G F (mset M j (.arr esz (es.set k (c0.map (AV.deep (snap M)))) false)) w := by
 obtain ⟨es', hes⟩ : ∃ es', es' = es.set k (c0.map (AV.deep (snap M))) := ⟨_, rfl⟩
 rw [← hes]
 have hle : es'.length = es.length := by rw [hes, List.length_set]
 have hold := (hm.obj j _ ho).2
 have S : Step All G F M w G F (mset M j (.arr esz es' false)) w :=
  { kept := .refl
    size := Nat.le_refl _
    out := fun _ _ _ => rfl
    F1 := fun _ _ h => h
    F2 := fun _ _ _ => rfl
    F3 := fun b o h => .inl h
    own := fun b ⟨id, o, v, h3, h4, h5⟩ => by
     rw [mlook_mset] at h3
     by_cases hi : id = j
     ·subst hi; exact .inr ⟨id, _, v, ho, h4, h5⟩
     ·rw [if_neg hi] at h3; exact .inr ⟨id, o, v, h3, h4, h5⟩
    some' := fun _ _ h => h
    same := fun _ _ _ h _ => h
    keep := fun id o' _ hG h3 => by
     obtain ⟨v, hv⟩ := Option.ne_none_iff_exists'.1 hG
     rw [mlook_mset] at h3
     by_cases hi : id = j
     ·subst hi
      rw [if_pos rfl] at h3; cases h3
      exact ⟨_, v, v, ho, hv, hv, ⟨rfl, .inl ⟨hle, rfl⟩⟩⟩
     ·rw [if_neg hi] at h3
      exact ⟨o', v, v, h3, hv, hv, objKeep.refl v o'⟩ }
 have hinj : ∀ id id' v v' b, mlook (mset M j (.arr esz es' false)) id ≠ none → mlook (mset M j (.arr esz es' false)) id' ≠ none → G id = some v → G id' = some v' → blkOf v = some b → blkOf v' = some b → id = id' := by
  intro id id' v v' b h1 h2
  refine hm.inj id id' v v' b ?_ ?_
  ·rw [mlook_mset] at h1; by_cases hi : id = j
   ·subst hi; rw [ho]; simp
   ·rwa [if_neg hi] at h1
  ·rw [mlook_mset] at h2; by_cases hi : id' = j
   ·subst hi; rw [ho]; simp
   ·rwa [if_neg hi] at h2
 refine ⟨simM_gen hm S (fun id o' h => ?_) hinj hm.inF, S⟩
 rw [mlook_mset] at h
 by_cases hi : id = j
 ·subst hi; rw [if_pos rfl] at h; cases h
  refine ⟨(hm.obj id _ ho).1, .inl ?_⟩
  have hkl : k < es.length := (List.getElem?_eq_some_iff.1 hk).1
  have hke : es[k] = c0 := by rw [List.getElem?_eq_getElem hkl] at hk; exact Option.some.inj hk
  rcases hold with ⟨h0, _⟩ | ⟨b, ko, c, cc, e, h1, h2, h3, h4, h5, h6, h7, h8, h9⟩
  ·rw [h0] at hkl; exact absurd hkl (Nat.not_lt_zero _)
  ·refine .inr ⟨b, ko, c, cc, e, by rw [hle]; exact h1, h2, h3, by rw [hle]; exact h4, h5, fun i hi' => ?_, fun i l hi' hl' => ?_, fun o h => absurd (h8 o h).1 (by simp), fun h => (by cases h)⟩
   ·have hi2 : i < es.length := by rw [← hle]; exact hi'
    simp only [hes, List.getElem_set]
    split
    ·rename_i e1; subst e1; rw [List.length_map, ← hke]; exact h6 _ hi2
    ·exact h6 _ hi2
   ·have hi2 : i < es.length := by rw [← hle]; exact hi'
    by_cases e1 : k = i
    ·subst e1
     have e2 : es'[k] = es[k].map (AV.deep (snap M)) := by simp [hes, hke]
     have hl2 : l < es[k].length := by rw [e2, List.length_map] at hl'; exact hl'
     obtain ⟨v, k1, k2, k3⟩ := h7 k l hi2 hl2
     refine ⟨v, k1, k2, ?_⟩
     have e3 : es'[k][l] = AV.deep (snap M) es[k][l] := by simp [e2]
     rw [e3]
     exact (k3.deep fun v y h => h.snap hm).step S fun _ _ => trivial
    ·have e2 : es'[i] = es[i] := by simp [hes, e1]
     have hl2 : l < es[i].length := by rw [e2] at hl'; exact hl'
     obtain ⟨v, k1, k2, k3⟩ := h7 i l hi2 hl2
     have e3 : es'[i][l] = es[i][l] := by simp [e2]
     exact ⟨v, k1, k2, by rw [e3]; exact k3.step S fun _ _ => trivial⟩
 ·rw [if_neg hi] at h
  exact ⟨(hm.obj id _ h).1, .inr ⟨h, rfl, fun b v hG hb => ⟨rfl, fun _ h => h⟩⟩⟩
theorem SimA.snapE {j k : Nat} (s : SimA P fr ds G F st a w) (h : st.snapE j k = some st') : SimA P fr ds G F st' a w ∧ Step (· < fr.base) G F st.mem w G F st'.mem w := by
 unfold St.snapE at h
 split at h
 ·rename_i esz es ho
  split at h
  ·rename_i c0 hk
   cases h
   obtain ⟨hm', S'⟩ := simM_snapE s.sim.mem ho hk
   exact ⟨⟨⟨hm', fun k => (s.sim.slots k).step S' (fun _ _ => trivial), s.sim.size⟩, s.fresh, s.defers⟩, S'.mono fun _ _ => trivial⟩
  ·cases h
 ·cases h
theorem EvC.snapE (j k : Nat) (h : st.snapE j k = some st') (hc : EvC P fr ro ds c st' Q) : EvC P fr ro ds c st Q :=
 EvC.conv (fun _ _ _ _ s => let ⟨s', S'⟩ := s.snapE h; ⟨_, _, s', S'⟩) hc
end
attribute [go_sem] St.snapE
attribute [go_sem] St.thaw
end Go.Avl
