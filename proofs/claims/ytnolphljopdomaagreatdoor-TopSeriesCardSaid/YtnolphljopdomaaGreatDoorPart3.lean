/-
  Built-in functions; all operations together.
  A calculus of abstract states over the kit's 'wpIn': regions in the text's order, sequence, branches, blocks, loops.
  Calls of functions that write nothing that was there; functions from their bodies; freezing.
  Loops: states by their shape; slots are dropped, objects are dropped and renamed.
  The rules in the shapes that texts use; the simp set.
  An operation's abstract evaluation hangs on its operands and on the objects that these name, and on nothing else.
  Regions that draw their order: if each two operations that touch one thing have an edge between them, every order ends as the text's order does.
  Regions that draw their order: the theorem.
-/
import Derived.TacticsIn
import Derived.Test.YtnolphljopdomaaGreatDoorPart2
set_option linter.unusedSimpArgs false
set_option linter.unusedVariables false
set_option linter.unnecessarySimpa false
set_option linter.deprecated false
namespace Go.Avl
open Go
section
variable {P : Program} {G : Nat → Option Value} {F : Nat → Nat → Prop} {w w' : World} {nx id : Nat} {fr : Fr} {st : St} {ρ : Operand → Value}
theorem exec_builtin {b : Builtin} {args : Array Operand} {tys : Array TypeId} {dst : Option Tmp} {ty : TypeId} {pos : String} {after : Array Edge} {guard : Option (Nat × Bool)} :
  (execOp ρ ⟨dst, .call ⟨.builtin b, args, tys⟩, ty, pos, after, guard⟩).run P w = (builtin b tys ty (args.map fun | .const _ => true | _ => false) (args.map ρ)).run P w := by
 simp only [execOp, resolve, invoke, Sem.run_bind, Sem.run_pure, Result.andThen_ok]; rfl
theorem elems_len (hm : SimM P G F st.mem nx w) {v : Value} {y : AV} {ys : List (List AV)} (hv : RV G F st.mem w v y) (he : elemsOf st.mem y = some ys) : ∃ a c, v = .slice a ys.length c := by
 unfold elemsOf at he
 split at he
 ·cases he
  cases hv.inv_sl with
  | nil => exact ⟨_, _, rfl⟩
  | sl => exact ⟨_, _, rfl⟩
  | sz => exact ⟨_, _, rfl⟩
 ·split at he
  ·rename_i ho
   split at he
   ·rename_i hn
    cases he
    obtain ⟨_, _, va, vc, rfl, _⟩ := tl_handle hm hv ho hn
    exact ⟨_, _, rfl⟩
   ·cases he
  ·cases he
 ·split at he
  ·rename_i ho
   split at he
   ·rename_i hn
    cases he
    obtain ⟨_, hh⟩ := hv.inv_tv
    obtain ⟨hol, b, ko, c, hG, hc0, c', rfl, hlc, _⟩ := (hh _ _ _ ho).2 hn
    refine ⟨_, _, by congr 1; simp; omega⟩
   ·cases he
  ·cases he
 ·cases he
theorem x_len (hm : SimM P G F st.mem nx w) (hρ : ∀ x, RV G F st.mem w (ρ x) (opnd fr st x)) {x : Operand} {t : TypeId} {ty : TypeId} {cs : Array Bool} {ef : Ef}
  (he : ef = match telem P t with
   | some _ => match elemsOf st.mem (od fr st true x) with
     | some es => .val true (.sc (.int .i64 es.length))
     | none => match od fr st true x with
       | .sc (.slice _ n _) => .val true (.sc (.int .i64 n))
       | _ => .bad
   | none => match od fr st true x with
     | .sc (.string s) => if tstr P t = true then .val true (.sc (.int .i64 s.size)) else .bad
     | .mp i => match mlook st.mem i, tmap P t with
       | some (.map _ es), some _ => .val true (.sc (.int .i64 es.length))
       | _, _ => .bad
     | _ => .bad) :
  EfOk P G F st.mem nx w id ((builtin .len #[t] ty cs #[ρ x]).run P w) ef := by
 subst he
 have hx := od_rv hρ x
 generalize od fr st true x = X at hx ⊢
 split
 ·rename_i e ht
  split
  ·rename_i es hes
   intro _
   obtain ⟨a, c, hv⟩ := elems_len hm hx hes
   refine .val hm (run_v (s := Builtin.len_ #[t] ty #[ρ x]) ?_) (.imm (.sc _))
   simp only [Builtin.len_, List.getElem?_toArray, List.getElem?_cons_zero, Sem.run_bind, run_under (telem_inv ht), Result.andThen_ok, hv, Sem.run_pure, goInt]
  ·split
   ·rename_i a n c
    intro _
    refine .val hm (run_v (s := Builtin.len_ #[t] ty #[ρ x]) ?_) (.imm (.sc _))
    simp only [Builtin.len_, List.getElem?_toArray, List.getElem?_cons_zero, Sem.run_bind, run_under (telem_inv ht), Result.andThen_ok, hx.inv_sc, Sem.run_pure, goInt]
   ·trivial
 ·split
  ·rename_i s
   split
   ·rename_i hs
    intro _
    have hun : P.underlying t = some .string := by
     unfold tstr at hs; split at hs
     ·assumption
     ·cases hs
    refine .val hm (run_v (s := Builtin.len_ #[t] ty #[ρ x]) ?_) (.imm (.sc _))
    rw [hx.inv_sc]
    simp only [Builtin.len_, List.getElem?_toArray, List.getElem?_cons_zero, Sem.run_bind, run_under hun, Result.andThen_ok, Sem.run_pure, goInt]
   ·trivial
  ·rename_i i
   split
   ·rename_i kt es k ho ht
    intro _
    obtain ⟨kt', et⟩ := k
    obtain ⟨b, hG, hval⟩ := hx.inv_mp
    obtain ⟨ents, clock, hb, ⟨hsz, _⟩, _, _⟩ := map_of hm hG ho
    refine .val hm (run_v (s := Builtin.len_ #[t] ty #[ρ x]) ?_) (.imm (.sc _))
    simp only [Builtin.len_, List.getElem?_toArray, List.getElem?_cons_zero, Sem.run_bind, run_under (tmap_inv ht), Result.andThen_ok, hval, run_getObj hb, Sem.run_pure, goInt, hsz]
   ·trivial
  ·trivial
theorem x_cap (hm : SimM P G F st.mem nx w) (hρ : ∀ x, RV G F st.mem w (ρ x) (opnd fr st x)) {x : Operand} {t : TypeId} {ty : TypeId} {cs : Array Bool} {ef : Ef}
  (he : ef = match telem P t, od fr st true x with
   | some _, .sl _ es .full => .val true (.sc (.int .i64 es.length))
   | some _, .sl _ _ .zer => .val true (.sc (.int .i64 0))
   | some _, .sl _ _ (.val c) => .val true (.sc (.int .i64 c))
   | some _, .tv i n _ _ (.val c) => match mlook st.mem i with
     | some (.arr _ es _) => .val (decide (n = es.length)) (.sc (.int .i64 c))
     | _ => .bad
   | _, _ => .bad) :
  EfOk P G F st.mem nx w id ((builtin .cap #[t] ty cs #[ρ x]).run P w) ef := by
 subst he
 have hx := od_rv hρ x
 generalize od fr st true x = X at hx ⊢
 have fin : ∀ {e a n c}, telem P t = some e → ρ x = .slice a n c → OpOk P G F st.mem nx w id ((builtin .cap #[t] ty cs #[ρ x]).run P w) (.sc (.int .i64 c)) st.mem := fun {e a n c} ht hv =>
  .val hm (run_v (s := Builtin.cap_ #[t] ty #[ρ x]) (by
   simp only [Builtin.cap_, List.getElem?_toArray, List.getElem?_cons_zero, Sem.run_bind, run_under (telem_inv ht), Result.andThen_ok, hv, Sem.run_pure, goInt])) (.imm (.sc _))
 have inv : ∀ {nl es cp}, RV G F st.mem w (ρ x) (.sl nl es cp) → ∃ a c, ρ x = .slice a es.length c ∧ (cp = .full → c = es.length) ∧ (cp = .zer → c = 0) ∧ ∀ k, cp = .val k → c = k := fun {nl es cp} h => by
  have h' := h.inv_sl
  generalize ρ x = v at h' ⊢
  cases h' with
  | nil _ hc => exact ⟨none, 0, rfl, fun _ => rfl, fun _ => rfl, fun k e => by
   subst e; rcases hc with h | h | h | h <;> cases h; rfl⟩
  | sz a _ hc => exact ⟨_, 0, rfl, fun _ => rfl, fun _ => rfl, fun k e => by
   subst e; rcases hc with h | h | h | h <;> cases h; rfl⟩
  | sl b off c esz _ _ vs hc hcap hes hF hi =>
    refine ⟨_, c, rfl, fun e => ?_, fun e => ?_, fun k e => ?_⟩ <;> subst e <;> rcases hcap with h | ⟨h, h'⟩ | ⟨h, h'⟩ | h <;> first | (cases h; done) | exact h' | (cases h; rfl)
 split
 ·rename_i e nl es ht
  obtain ⟨a, c, hv, h1, _, _⟩ := inv hx
  intro _; rw [h1 rfl] at hv; exact fin ht hv
 ·rename_i e nl es ht
  obtain ⟨a, c, hv, _, h1, _⟩ := inv hx
  intro _; rw [h1 rfl] at hv
  have := fin ht hv
  simpa using this
 ·rename_i e nl es c' ht
  obtain ⟨a, c, hv, _, _, h1⟩ := inv hx
  intro _; rw [h1 _ rfl] at hv; exact fin ht hv
 ·rename_i e i n off len c ht
  split
  ·rename_i esz es fz ho
   intro h
   simp only [decide_eq_true_eq] at h
   obtain ⟨_, hh⟩ := hx.inv_tv
   obtain ⟨_, b, ko, cG, _, _, c', hv, _, hcp⟩ := (hh _ _ _ ho).2 h
   rcases hcp with h | h | ⟨h, _⟩
   ·cases h
   ·cases h; exact fin ht hv
   ·cases h
  ·trivial
 ·trivial
theorem RV.tv_tl {M : Mem} {v : Value} {i n esz : Nat} {es : List (List AV)} {fz : Bool} (h : RV G F M w v (.tv i n 0 n .rest)) (ho : mlook M i = some (.arr esz es fz)) (hn : n = es.length) (h0 : n ≠ 0) : RV G F M w v (.tl i n false) := by
 obtain ⟨hG0, hh⟩ := h.inv_tv
 obtain ⟨_, b, ko, c, hG, hc0, c', rfl, _, hcp⟩ := (hh _ _ _ ho).2 hn
 have hcc : c' = c := by
  rcases hcp with h | h | ⟨_, h⟩
  ·cases h
  ·cases h
  ·omega
 subst hcc
 refine .tl i n false _ hG0 fun esz' es' fz' ho' => ?_
 rw [ho] at ho'; cases ho'
 exact ⟨by omega, fun _ => ⟨by rw [hG, Nat.zero_mul, Nat.add_zero], rfl⟩⟩
theorem RV.tl_tv {M : Mem} {v : Value} {i n esz nx : Nat} {nl : Bool} {es : List (List AV)} {fz : Bool} (h : RV G F M w v (.tl i n nl)) (hm : SimM P G F M nx w) (ho : mlook M i = some (.arr esz es fz)) (hn : n = es.length) (h0 : n ≠ 0) : RV G F M w v (.tv i n 0 n .rest) := by
 obtain ⟨hG0, _⟩ := h.inv_tl
 obtain ⟨hG, _, va, vc, rfl, hcase⟩ := tl_handle hm h ho hn
 rcases hcase with ⟨h1, _⟩ | ⟨b, ko, cc, e, rfl, k2, _⟩
 ·subst h1; exact absurd hn h0
 ·refine .tv i n 0 n .rest _ hG0 fun esz' es' fz' ho' => ?_
  rw [ho] at ho'; cases ho'
  have hle : es.length ≤ vc := by
   rcases (hm.obj i _ ho).2 with ⟨h1, _⟩ | ⟨b', _, c1, _, _, k1, _, _, k4, _⟩
   ·subst h1; exact absurd hn h0
   ·rw [hG] at k1; cases k1; exact k4
  exact ⟨by omega, fun _ => ⟨by omega, b, ko, vc, by rw [hG, hn], .inl k2, vc, by rw [Nat.zero_mul, hn]; rfl, by omega, .inr (.inr ⟨rfl, by omega⟩)⟩⟩
theorem OpOk.map {M M' : Mem} {run : Result Next} {x y : AV} (h : OpOk P G F M nx w id run x M') (f : ∀ {G' : Nat → Option Value} {F' : Nat → Nat → Prop} {w' : World} {v : Value}, SimM P G' F' M' nx w' → RV G' F' M' w' v x → RV G' F' M' w' v y) : OpOk P G F M nx w id run y M' := by
 obtain ⟨u, w', G', F', h1, h2, h3, h4, h5⟩ := h
 exact ⟨u, w', G', F', h1, h2, h3, f h2 h4, h5⟩
theorem ok_append_tv {M : Mem} (hm : SimM P G F M nx w) {t t' e e' ty : TypeId} {ti : TI} (ht : telem P t = some e) (ht' : telem P t' = some e') (hti : tinfo P e = some ti) {v u : Value} {i n len esz : Nat} {cap : Cp} {es ys : List (List AV)} {y : AV}
  (hv : RV G F M w v (.tv i n 0 len cap)) (ho : mlook M i = some (.arr esz es false)) (hn : n = es.length) (hu : RV G F M w u y) (hy : elemsOf M y = some ys)
  (h1 : esz = ti.size) (hcap : ∀ c' cH, n ≤ cH → (cap = .unk ∨ cap = .val c' ∨ (cap = .rest ∧ 0 + c' = cH)) → len + ys.length ≤ c') (hln : len + ys.length ≤ n) (h4 : ∀ i (h : i < ys.length), ys[i].length = esz) :
  OpOk P G F M nx w id ((do pure (Next.value (← Builtin.append_ #[t, t'] ty #[v, u])) : Sem Next).run P w) (.tv i n 0 (len + ys.length) cap) (mset M i (.arr esz (es.take len ++ (ys ++ es.drop (len + ys.length))) false)) := by
 subst hn
 subst h1
 obtain ⟨hsl, hlen, cy, hcy, hry⟩ := elems_cells hm hu hy h4
 obtain ⟨_, hh⟩ := hv.inv_tv
 obtain ⟨_, b, ko, cH, hG, hc0, c', rfl, _, hcp⟩ := (hh _ _ _ ho).2 rfl
 obtain ⟨es', hes'⟩ : ∃ es', es' = es.take len ++ (ys ++ es.drop (len + ys.length)) := ⟨_, rfl⟩
 rw [← hes']
 have hl' : es'.length = es.length := by rw [hes']; simp; omega
 rcases hc0 with hc0 | ⟨hn0, hcv, hvv⟩
 rotate_left
 ·subst hcv
  simp only [Value.slice.injEq] at hvv
  obtain ⟨_, hlen1, hc1⟩ := hvv
  subst hc1
  have hes0 : es = [] := List.length_eq_zero_iff.1 (by omega)
  have hys : ys = [] := List.length_eq_zero_iff.1 (by omega)
  have hlen0 : len = 0 := by omega
  subst hes0; subst hys; subst hlen0
  simp only [List.take_nil, List.drop_nil, List.append_nil, List.nil_append] at hes'
  subst hes'
  have hcy0 : cy = [] := by have := hry.1; simpa using this
  subst hcy0
  have hrun := run_append_place (w' := w) (ty := ty) ht ht' hti (base := some ⟨b, ko + 0 * ti.size, none⟩) (sLen := 0) (sCap := 0) hlen hcy (by simp) (fun a _ => by simp [storeCells]) (fun h => by cases h)
  refine OpOk.upd (F' := F) (h' := .slice (some ⟨b, ko, none⟩) 0 cH) hm (.inl (run_v hrun)) ho hG ⟨rfl, .inl ⟨by simp, rfl⟩⟩ .refl (Nat.le_refl _) (fun _ _ _ => rfl) (fun _ _ h => h) (fun _ _ _ => rfl) (fun _ _ h => .inl h) (fun _ h => .inl h)
   (fun S => ?_) ?_
  ·rcases (hm.obj i _ ho).2 with ⟨_, base, k1, _⟩ | ⟨b', ko1, c1, cc, e0, k1, k2, k3, k4, k5, k6, k7, k8, k9⟩
   ·rw [hG] at k1
    simp only [Option.some.injEq, Value.slice.injEq] at k1
    obtain ⟨rfl, _, rfl⟩ := k1
    exact .inl ⟨rfl, _, upG_self _ _ _, fun a _ => rfl⟩
   ·exact .inr ⟨b', ko1, c1, cc, e0, by rw [upG_self]; rw [hG] at k1; exact k1, k2, k3, k4, k5, k6, fun i j h => absurd h (by simp), k8, k9⟩
  ·refine .tv _ _ _ _ _ _ (by rw [upG_self]; simp) fun esz' es' fz' ho' => ?_
   rw [mlook_mset, if_pos rfl] at ho'
   cases ho'
   exact ⟨by simp, fun _ => ⟨by simp, b, ko, cH, upG_self _ _ _, .inr ⟨rfl, rfl, by simp⟩, 0, by simp, by simp, .inr (.inl rfl)⟩⟩
 have hcyl : cy.length = ys.length * ti.size := hry.1
 rcases (hm.obj i _ ho).2 with ⟨he0, base, k1, _⟩ | ⟨b', ko1, c1, cc, e0, k1, k2, k3, k4, k5, k6, k7, k8, k9⟩
 ·rw [hG] at k1
  simp only [Option.some.injEq, Value.slice.injEq] at k1
  exact absurd k1.2.2 hc0
 rw [hG] at k1
 cases k1
 have hlc : len + ys.length ≤ c' := hcap c' cH k4 hcp
 have hone : ∀ q ∈ cy, q.oneCell' = true := hry.one
 have hend : ko + (len * ti.size + ys.length * ti.size) ≤ cc.size := by
  rw [k5, ← Nat.add_mul]; exact Nat.add_le_add_left (Nat.mul_le_mul_right _ (by omega)) _
 have hst := run_storeCells' (P := P) (w := w) b (ko + len * ti.size) cy 0 k3 (by omega) hone
 rw [Nat.add_zero] at hst
 have hrun := run_append_place (w' := setCells w b (ko + len * ti.size) cy) (ty := ty) ht ht' hti (base := some ⟨b, ko + 0 * ti.size, none⟩) (sLen := len) (sCap := c') hlen hcy hlc
  (fun a ha => by cases ha; rw [add_eq, Nat.zero_mul, Nat.add_zero]; exact hst) (fun h => by cases h)
 have hget := putCells_get cy cc (ko + len * ti.size)
 have hb' := setCells_block cy (off := ko + len * ti.size) k3
 have hnoF : ∀ o, ¬ F b o := fun o hF => by cases (k8 o hF).1
 have hF2 : ∀ b' o, F b' o → (setCells w b (ko + len * ti.size) cy).cell? ⟨b', o, none⟩ = w.cell? ⟨b', o, none⟩ := fun b' o hF => by
  by_cases e : b' = b
  ·subst e; exact absurd hF (hnoF o)
  ·exact cell?_same (setCells_other _ e) o
 have hcase : ∀ j (hj : j < es'.length), (∃ (h : j < es.length), es'[j] = es[j] ∧ (j < len ∨ len + ys.length ≤ j)) ∨ (∃ (h : j - len < ys.length), es'[j] = ys[j - len] ∧ len ≤ j ∧ j < len + ys.length) := fun j hj => by
  have hj' : j < es.length := by omega
  have e : es'[j]? = (es.take len ++ (ys ++ es.drop (len + ys.length)))[j]? := by rw [hes']
  rw [List.getElem?_eq_getElem hj] at e
  by_cases j1 : j < len
  ·left
   refine ⟨hj', ?_, .inl j1⟩
   rw [List.getElem?_append_left (by simp; omega), List.getElem?_take_of_lt j1, List.getElem?_eq_getElem hj'] at e
   exact Option.some.inj e
  ·rw [List.getElem?_append_right (by simp; omega), List.length_take, Nat.min_eq_left (by omega)] at e
   by_cases j2 : j < len + ys.length
   ·right
    refine ⟨by omega, ?_, by omega, j2⟩
    rw [List.getElem?_append_left (by omega), List.getElem?_eq_getElem (by omega)] at e
    exact Option.some.inj e
   ·left
    refine ⟨hj', ?_, .inr (by omega)⟩
    rw [List.getElem?_append_right (by omega), List.getElem?_drop, show len + ys.length + (j - len - ys.length) = j by omega, List.getElem?_eq_getElem hj'] at e
    exact Option.some.inj e
 refine OpOk.upd (F' := F) (h' := .slice (some ⟨b, ko, none⟩) es.length cH) hm (.inl (run_v hrun)) ho hG ⟨rfl, .inl ⟨hl', rfl⟩⟩ (kept_setCells _) (by rw [setCells_size]; exact Nat.le_refl _)
  (fun k hk hne => setCells_other _ (fun e => hne (by rw [e]; simp [blkOf, hc0]))) (fun _ _ h => h) hF2 (fun _ _ h => .inl h) (fun _ h => .inl h) (fun S => ?_) ?_
 ·have T : ∀ {v x}, RV G F M w v x → RV _ _ _ _ v x := fun h => h.step S (fun _ _ => trivial)
  refine .inr ⟨b, ko, cH, putCells cc (ko + len * ti.size) cy, e0, by rw [upG_self, hl'], hc0, hb', by rw [hl']; exact k4, by rw [putCells_size]; exact k5, fun j hj => ?_, fun j l hj hl => ?_, fun o h => absurd h (hnoF o), fun hz => by cases hz⟩
  ·rcases hcase j hj with ⟨h, e, _⟩ | ⟨h, e, _⟩
   ·rw [e]; exact k6 _ _
   ·rw [e]; exact h4 _ _
  ·rcases hcase j hj with ⟨h, e, hjo⟩ | ⟨h, e, j1, j2⟩
   ·have hl2 : l < es[j].length := by rw [← e]; exact hl
    have hls : l < ti.size := by rw [k6 _ h] at hl2; exact hl2
    obtain ⟨q, hq, h1c, hr⟩ := k7 j l h hl2
    refine ⟨q, ?_, h1c, by simp only [e]; exact T hr⟩
    have hlt := row_lt h hls
    have hout : ¬ (ko + len * ti.size ≤ ko + (j * ti.size + l) ∧ ko + (j * ti.size + l) < ko + len * ti.size + cy.length) := by
     rintro ⟨a1, a2⟩
     rcases hjo with j1 | j2
     ·have := row_end (size := ti.size) j1; omega
     ·have := Nat.mul_le_mul_right ti.size j2
      rw [Nat.add_mul] at this; omega
    rw [hget _ (by omega)]
    split
    ·exact absurd ‹_› hout
    ·exact hq
   ·have hl2 : l < ys[j - len].length := by rw [← e]; exact hl
    have hls : l < ti.size := by rw [h4 _ h] at hl2; exact hl2
    obtain ⟨q, hq, h1c, hr⟩ := hry.2.2 (j - len) l h hl2
    refine ⟨q, ?_, h1c, by simp only [e]; exact T hr⟩
    have e2 : ko + (j * ti.size + l) - (ko + len * ti.size) = (j - len) * ti.size + l := by rw [Nat.sub_mul]; have := Nat.mul_le_mul_right ti.size j1; omega
    have hge := Nat.mul_le_mul_right ti.size j1
    have hlt2 : (j - len) * ti.size + l < ys.length * ti.size := row_lt (by omega) hls
    rw [hget _ (by omega), if_pos (by omega), e2]; exact hq
 ·refine .tv _ _ _ _ _ _ (by rw [upG_self]; simp) fun esz' es2 fz' ho' => ?_
  rw [mlook_mset, if_pos rfl] at ho'
  cases ho'
  exact ⟨by omega, fun _ => ⟨by omega, b, ko, cH, upG_self _ _ _, .inl hc0, c', by simp, hlc, hcp⟩⟩
theorem x_append {own : Bool} (hm : SimM P G F st.mem nx w) (hρ : ∀ x, RV G F st.mem w (ρ x) (opnd fr st x)) (hid : G id = none) (hn : id < nx) {x y : Operand} {t t' : TypeId} {ty : TypeId} {cs : Array Bool} {ef : Ef}
  (he : ef = match telem P t', elemsOf st.mem (od fr st true y) with
   | some _, some ys => appendEf P st.mem id own t (od fr st true x) ys
   | none, _ => appendN P id t t' (od fr st true x) (od fr st true y)
   | _, _ => .bad) :
  EfOk P G F st.mem nx w id ((builtin .append #[t, t'] ty cs #[ρ x, ρ y]).run P w) ef := by
 subst he
 have hx := od_rv hρ x
 have hy := od_rv hρ y
 generalize od fr st true x = X at hx ⊢
 generalize od fr st true y = Y at hy ⊢
 split
 ·rename_i e' ys ht' hys
  unfold appendEf
  split
  ·trivial
  ·rename_i e ht
   split
   ·trivial
   ·rename_i ti hti
    have all : ∀ {n : Nat} {l : List (List AV)}, (l.all fun y => decide (y.length = n)) = true → ∀ i (h : i < l.length), l[i].length = n := fun {n l} h i hi => by
     rw [List.all_eq_true] at h
     simpa using h _ (List.getElem_mem hi)
    split
    ·rename_i i n nl
     split
     ·rename_i esz es fz ho
      intro h
      simp only [Bool.and_eq_true, decide_eq_true_eq, Bool.or_eq_true, Bool.not_eq_true'] at h
      obtain ⟨⟨⟨⟨⟨h1, h2⟩, h3⟩, h4⟩, h5⟩, h6⟩ := h
      exact ok_append_tl hm ht ht' hti hx ho h1 hy hys h2 h3 h4 (all h5) (fun hz => by
       rcases h6 with h | h
       ·rw [hz] at h; cases h
       ·exact h)
     ·trivial
    ·rename_i i n len c
     split
     ·rename_i esz es fz ho
      intro h
      simp only [Bool.and_eq_true, decide_eq_true_eq, Bool.not_eq_true'] at h
      obtain ⟨⟨⟨⟨⟨⟨⟨h0, h1⟩, h2⟩, h3⟩, h4⟩, h5⟩, _⟩, h7⟩ := h
      subst h0
      exact ok_append_tv hm ht ht' hti hx ho h1 hy hys h2 (fun c' cH _ h => by
       rcases h with h | h | ⟨h, _⟩
       ·cases h
       ·cases h; exact h4
       ·cases h) (by omega) (all h7)
     ·trivial
    ·rename_i i n len
     split
     ·rename_i esz es fz ho
      split
      ·rename_i hln
       intro h
       simp only [Bool.and_eq_true, decide_eq_true_eq, Bool.not_eq_true'] at h
       obtain ⟨⟨⟨⟨⟨⟨h0, h1⟩, h2⟩, h3⟩, h4⟩, h5⟩, h6⟩ := h
       subst h0
       subst hln
       exact (ok_append_tl hm ht ht' hti (hx.tv_tl ho h2 h1) ho h2 hy hys h3 h4 h5 (all h6) (fun h => by cases h)).map fun hm' hr => hr.tl_tv hm' (by rw [mlook_mset, if_pos rfl]) rfl (by rw [List.length_append]; omega)
      ·intro h
       simp only [Bool.and_eq_true, decide_eq_true_eq, Bool.not_eq_true'] at h
       obtain ⟨⟨⟨⟨⟨h0, h1⟩, h2⟩, h3⟩, h4⟩, h5⟩ := h
       subst h0
       exact ok_append_tv hm ht ht' hti hx ho h1 hy hys h2 (fun c' cH hc h => by
        rcases h with h | h | ⟨_, h⟩
        ·cases h
        ·cases h
        ·omega) h4 (all h5)
     ·trivial
    ·rename_i nl es
     intro h
     simp only [Bool.and_eq_true, decide_eq_true_eq] at h
     obtain ⟨⟨⟨h1, h2⟩, h3⟩, h4⟩ := h
     exact ok_append_zer hm hid hn ht ht' hti hx hy hys h1 h2 h3 (all h4)
    ·rename_i nl es
     split
     ·intro h
      simp only [Bool.and_eq_true, decide_eq_true_eq] at h
      obtain ⟨⟨⟨⟨h0, h1⟩, h2⟩, h3⟩, h4⟩ := h
      exact ok_append_fullO hm hid hn ht ht' hti hx hy hys h2 h1 (all h3) (by rintro rfl; simp at h0) (all h4)
     intro h
     simp only [Bool.and_eq_true, decide_eq_true_eq] at h
     obtain ⟨⟨⟨h1, h2⟩, h3⟩, h4⟩ := h
     have split2 : ∀ {l : List (List AV)}, (l.all fun y => decide (y.length = ti.size) && AV.norefs y) = true → (l.all fun y => decide (y.length = ti.size)) = true ∧ l.all AV.norefs = true := fun {l} h => by
      simp only [List.all_eq_true, Bool.and_eq_true] at h ⊢
      exact ⟨fun x hx => (h x hx).1, fun x hx => (h x hx).2⟩
     exact ok_append_full hm ht ht' hti hx hy hys h2 h1 (all (split2 h3).1) (split2 h3).2 (all (split2 h4).1) (split2 h4).2
    ·trivial
 ·unfold appendN
  split
  ·rename_i kn e hkn ht
   split
   ·rename_i ti nl es k n hti
    intro h
    simp only [Bool.and_eq_true, decide_eq_true_eq] at h
    obtain ⟨⟨⟨⟨h0, h1⟩, h2⟩, h3⟩, h4⟩ := h
    have hes : es = [] := List.length_eq_zero_iff.1 h0
    subst hes
    exact ok_append_count hm hid hn ht hkn hti hx hy h1 h2 h3 h4
   ·trivial
  ·trivial
 ·trivial
theorem load_same {a : Addr} {v : Value} {w1 : World} (h : (load a).run P w = .ok v w1) : w1 = w := by
 rw [run_load] at h
 split at h
 ·cases h; rfl
 ·split at h
  ·cases h; rfl
  ·cases h
theorem loads_take {a : Addr} : ∀ (n i : Nat) (acc r : Array Value), (loadCellsFrom a i n acc).run P w = .ok r w → ∀ k, k ≤ n → ∃ r', (loadCellsFrom a i k acc).run P w = .ok r' w ∧ r'.toList = r.toList.take (acc.size + k) ∧ ∃ l, r.toList = acc.toList ++ l
 | 0, i, acc, r, h, k, hk => by
   obtain rfl : k = 0 := by omega
   simp only [loadCellsFrom, Sem.run_pure, Result.ok.injEq] at h
   obtain ⟨rfl, _⟩ := h
   refine ⟨acc, by simp [loadCellsFrom], ?_, [], by simp⟩
   rw [Nat.add_zero, ← Array.length_toList, List.take_length]
 | n + 1, i, acc, r, h, k, hk => by
   simp only [loadCellsFrom, Sem.run_bind] at h
   cases hc : (load (a.add i)).run P w with
   | halt e w1 => rw [hc] at h; cases h
   | ok v w1 =>
     rw [load_same hc] at hc
     rw [hc] at h
     simp only [Result.andThen_ok] at h
     cases k with
     | zero =>
       obtain ⟨r', h1, h2, l, hl⟩ := loads_take n (i + 1) (acc.push v) r h 0 (Nat.zero_le _)
       refine ⟨acc, by simp [loadCellsFrom], ?_, v :: l, by rw [hl]; simp⟩
       rw [hl, Array.toList_push, List.append_assoc, Nat.add_zero, ← Array.length_toList, List.take_append_of_le_length (Nat.le_refl _), List.take_length]
     | succ k =>
       obtain ⟨r', h1, h2, l, hl⟩ := loads_take n (i + 1) (acc.push v) r h k (by omega)
       refine ⟨r', by simp only [loadCellsFrom, Sem.run_bind, hc, Result.andThen_ok]; exact h1, ?_, v :: l, by rw [hl]; simp⟩
       rw [h2, Array.size_push]; congr 1; omega
theorem first_take {v : Value} {size n : Nat} {c : List Value} (hs : ∃ a l k, v = .slice a l k) (h : (Builtin.firstCells size n v).run P w = .ok c.toArray w) {m : Nat} (hm : m ≤ n) : (Builtin.firstCells size m v).run P w = .ok (c.take (m * size)).toArray w := by
 obtain ⟨a, l, k, rfl⟩ := hs
 cases a with
 | none =>
   simp only [Builtin.firstCells, Sem.run_pure, Result.ok.injEq, and_true] at h ⊢
   have : c = [] := by simpa using h.symm
   rw [this]; simp
 | some a =>
   simp only [Builtin.firstCells, loadCells] at h ⊢
   obtain ⟨r', h1, h2, _⟩ := loads_take (n * size) 0 #[] c.toArray h (m * size) (Nat.mul_le_mul_right _ hm)
   rw [h1]
   congr 1
   apply Array.toList_inj.1
   rw [h2]; simp
theorem x_copy (hm : SimM P G F st.mem nx w) {v u : Value} {x y : AV} (hv : RV G F st.mem w v x) (hu : RV G F st.mem w u y) {t t' ty : TypeId} {cs : Array Bool} :
  EfOk P G F st.mem nx w id ((builtin .copy #[t, t'] ty cs #[v, u]).run P w) (copyEf P st.mem t x y) := by
 unfold copyEf
 split
 ·trivial
 rename_i e ht
 split
 ·rename_i ti i esz n off len cap ys hti hview hys
  split
  ·rename_i esz' es fz ho
   intro hok
   simp only [Bool.and_eq_true, Bool.not_eq_true', decide_eq_true_eq] at hok
   obtain ⟨⟨⟨⟨h0, h1⟩, h2⟩, h3⟩, h4⟩ := hok
   subst h0
   subst h1
   obtain ⟨b, ko, c, c', es0, fz0, hG, hc0, rfl, hlc, _, hol, ho', hn⟩ := view_inv hm hv hview h2
   rw [ho] at ho'
   cases ho'
   have h3' : ∀ i (h : i < ys.length), ys[i].length = ti.size := fun i h => by
    rw [List.all_eq_true] at h3
    exact of_decide_eq_true (h3 _ (List.getElem_mem h))
   obtain ⟨hsl, hlen, cy, hcy, hry⟩ := elems_cells hm hu hys h3'
   obtain ⟨m, hmd⟩ : ∃ m, m = min ys.length len := ⟨_, rfl⟩
   rw [← hmd]
   have hm1 : m ≤ ys.length := by omega
   have hm2 : off + m ≤ es.length := by omega
   have hcy' := first_take hsl hcy hm1
   obtain ⟨cz, hcz⟩ : ∃ cz, cz = cy.take (m * ti.size) := ⟨_, rfl⟩
   rw [← hcz] at hcy'
   have hcyl : cz.length = m * ti.size := by
    rw [hcz, List.length_take, hry.1]
    exact Nat.min_eq_left (Nat.mul_le_mul_right _ hm1)
   have hone : ∀ q ∈ cz, q.oneCell' = true := fun q hq => hry.one q (by rw [hcz] at hq; exact List.mem_of_mem_take hq)
   rcases (hm.obj i _ ho).2 with ⟨he0, _⟩ | ⟨b', ko1, c1, cc, e0, k1, k2, k3, k4, k5, k6, k7, k8, k9⟩
   ·subst he0; exact absurd hn h2
   rw [hG] at k1
   cases k1
   have hend : ko + (off * ti.size + m * ti.size) ≤ cc.size := by
    rw [k5, ← Nat.add_mul]; exact Nat.add_le_add_left (Nat.mul_le_mul_right _ (by omega)) _
   have hst := run_storeCells' (P := P) (w := w) b (ko + off * ti.size) cz 0 k3 (by omega) hone
   rw [Nat.add_zero] at hst
   have hrun : (Builtin.copy_ #[t, t'] ty #[.slice (some ⟨b, ko + off * ti.size, none⟩) len c', u]).run P w = .ok (goInt m) (setCells w b (ko + off * ti.size) cz) := by
    have hue := telem_inv ht
    simp only [Builtin.copy_, List.getElem?_toArray, List.getElem?_cons_zero, List.getElem?_cons_succ, Sem.run_bind, run_under hue, Result.andThen_ok, run_sizeOf' hti, Sem.run_pure, hlen]
    rw [show Nat.min ys.length len = m from hmd.symm, hcy']
    simp only [Result.andThen_ok, hst, Sem.run_bind, Sem.run_pure]
   have hget := putCells_get cz cc (ko + off * ti.size)
   have hb' := setCells_block cz (off := ko + off * ti.size) k3
   have hnoF : ∀ o, ¬ F b o := fun o hF => by cases (k8 o hF).1
   have hF2 : ∀ b' o, F b' o → (setCells w b (ko + off * ti.size) cz).cell? ⟨b', o, none⟩ = w.cell? ⟨b', o, none⟩ := fun b' o hF => by
    by_cases e : b' = b
    ·subst e; exact absurd hF (hnoF o)
    ·exact cell?_same (setCells_other _ e) o
   obtain ⟨es', hes'⟩ : ∃ es', es' = es.take off ++ (ys.take m ++ es.drop (off + m)) := ⟨_, rfl⟩
   rw [← hes']
   have hl' : es'.length = es.length := by rw [hes']; simp; omega
   have hcase : ∀ j (hj : j < es'.length), (∃ (h : j < es.length), es'[j] = es[j] ∧ (j < off ∨ off + m ≤ j)) ∨ (∃ (h : j - off < ys.length), es'[j] = ys[j - off] ∧ off ≤ j ∧ j < off + m) := fun j hj => by
    have hj' : j < es.length := by omega
    have e : es'[j]? = (es.take off ++ (ys.take m ++ es.drop (off + m)))[j]? := by rw [hes']
    rw [List.getElem?_eq_getElem hj] at e
    by_cases j1 : j < off
    ·left
     refine ⟨hj', ?_, .inl j1⟩
     rw [List.getElem?_append_left (by simp; omega), List.getElem?_take_of_lt j1, List.getElem?_eq_getElem hj'] at e
     exact Option.some.inj e
    ·rw [List.getElem?_append_right (by simp; omega), List.length_take, Nat.min_eq_left (by omega)] at e
     by_cases j2 : j < off + m
     ·right
      refine ⟨by omega, ?_, by omega, j2⟩
      rw [List.getElem?_append_left (by simp; omega), List.getElem?_take_of_lt (by omega), List.getElem?_eq_getElem (by omega)] at e
      exact Option.some.inj e
     ·left
      refine ⟨hj', ?_, .inr (by omega)⟩
      rw [List.getElem?_append_right (by simp; omega), List.length_take, Nat.min_eq_left (by omega), List.getElem?_drop, show off + m + (j - off - m) = j by omega, List.getElem?_eq_getElem hj'] at e
      exact Option.some.inj e
   refine OpOk.upd (F' := F) (h' := .slice (some ⟨b, ko, none⟩) es.length c) hm (.inl (run_v hrun)) ho hG ⟨rfl, .inl ⟨hl', rfl⟩⟩ (kept_setCells _) (by rw [setCells_size]; exact Nat.le_refl _)
    (fun k hk hne => setCells_other _ (fun e => hne (by rw [e]; simp [blkOf, hc0]))) (fun _ _ h => h) hF2 (fun _ _ h => .inl h) (fun _ h => .inl h) (fun S => ?_) (.imm (.sc _))
   have T : ∀ {v x}, RV G F st.mem w v x → RV _ _ _ _ v x := fun h => h.step S (fun _ _ => trivial)
   refine .inr ⟨b, ko, c, putCells cc (ko + off * ti.size) cz, e0, by rw [upG_self, hl'], hc0, hb', by rw [hl']; exact k4, by rw [putCells_size]; exact k5, fun j hj => ?_, fun j l hj hl => ?_, fun o h => absurd h (hnoF o), fun hz => by cases hz⟩
   ·rcases hcase j hj with ⟨h, e, _⟩ | ⟨h, e, _⟩
    ·rw [e]; exact k6 _ _
    ·rw [e]; exact h3' _ _
   ·rcases hcase j hj with ⟨h, e, hjo⟩ | ⟨h, e, j1, j2⟩
    ·have hl2 : l < es[j].length := by rw [← e]; exact hl
     have hls : l < ti.size := by rw [k6 _ h] at hl2; exact hl2
     obtain ⟨q, hq, h1c, hr⟩ := k7 j l h hl2
     refine ⟨q, ?_, h1c, by simp only [e]; exact T hr⟩
     have hlt := row_lt h hls
     have hout : ¬ (ko + off * ti.size ≤ ko + (j * ti.size + l) ∧ ko + (j * ti.size + l) < ko + off * ti.size + cz.length) := by
      rintro ⟨a1, a2⟩
      rcases hjo with j1 | j2
      ·have := row_end (size := ti.size) j1; omega
      ·have := Nat.mul_le_mul_right ti.size j2
       rw [Nat.add_mul] at this; omega
     rw [hget _ (by omega)]
     split
     ·exact absurd ‹_› hout
     ·exact hq
    ·have hl2 : l < ys[j - off].length := by rw [← e]; exact hl
     have hls : l < ti.size := by rw [h3' _ h] at hl2; exact hl2
     obtain ⟨q, hq, h1c, hr⟩ := hry.2.2 (j - off) l h hl2
     refine ⟨q, ?_, h1c, by simp only [e]; exact T hr⟩
     have e2 : ko + (j * ti.size + l) - (ko + off * ti.size) = (j - off) * ti.size + l := by rw [Nat.sub_mul]; have := Nat.mul_le_mul_right ti.size j1; omega
     have hge := Nat.mul_le_mul_right ti.size j1
     have hlt2 : (j - off) * ti.size + l < m * ti.size := row_lt (by omega) hls
     rw [hget _ (by omega), if_pos (by omega), e2, hcz, List.getElem?_take_of_lt hlt2]; exact hq
  ·trivial
 ·trivial
theorem x_call (hm : SimM P G F st.mem nx w) (hρ : ∀ x, RV G F st.mem w (ρ x) (opnd fr st x)) (hid : G id = none) (hn : id < nx) {c : Call} {dst ty pos after guard} :
  EfOk P G F st.mem nx w id ((execOp ρ ⟨dst, .call c, ty, pos, after, guard⟩).run P w) (xop P fr st true id ⟨dst, .call c, ty, pos, after, guard⟩) := by
 obtain ⟨callee, args, tys⟩ := c
 obtain ⟨args⟩ := args
 obtain ⟨tys⟩ := tys
 simp only [xop]
 split
 ·rename_i x t
  rw [exec_builtin]
  simp only [List.map_toArray, List.map_cons, List.map_nil]
  exact x_len (x := x) (t := t) hm hρ rfl
 ·rename_i x t
  rw [exec_builtin]
  simp only [List.map_toArray, List.map_cons, List.map_nil]
  exact x_cap (x := x) (t := t) hm hρ rfl
 ·rename_i x y t t'
  rw [exec_builtin]
  simp only [List.map_toArray, List.map_cons, List.map_nil]
  exact x_append (x := x) (y := y) (t := t) (t' := t') hm hρ hid hn rfl
 ·rename_i x y t t'
  rw [exec_builtin]
  simp only [List.map_toArray, List.map_cons, List.map_nil]
  exact x_copy hm (od_rv hρ x) (od_rv hρ y)
 ·rename_i x y t t'
  rw [exec_builtin]
  have hx := od_rv hρ x
  have hy := od_rv hρ y
  generalize od fr st true x = X at hx ⊢
  generalize od fr st true y = Y at hy ⊢
  split
  ·rename_i k a k' b
   intro h
   have hk := of_decide_eq_true h
   subst hk
   refine .val hm (u := .int k (if b < a then b else a)) ?_ ?_
   ·simp only [builtin, Builtin.min_, Sem.run_bind]
    simp only [List.map_toArray, List.map_cons, List.map_nil, hx.inv_sc, hy.inv_sc, List.foldlM_cons, List.foldlM_nil, Builtin.min2, Sem.run_bind, Sem.run_pure, Result.andThen_ok]
   ·have : (if b < a then b else a) = (if a ≤ b then a else b) := by split <;> split <;> omega
    rw [this]; exact .imm (.sc _)
  ·trivial
 ·rename_i x y t t'
  rw [exec_builtin]
  have hx := od_rv hρ x
  have hy := od_rv hρ y
  generalize od fr st true x = X at hx ⊢
  generalize od fr st true y = Y at hy ⊢
  split
  ·rename_i k a k' b
   intro h
   have hk := of_decide_eq_true h
   subst hk
   refine .val hm (u := .int k (if b > a then b else a)) ?_ ?_
   ·simp only [builtin, Builtin.max_, Sem.run_bind]
    simp only [List.map_toArray, List.map_cons, List.map_nil, hx.inv_sc, hy.inv_sc, List.foldlM_cons, List.foldlM_nil, Builtin.max2, Sem.run_bind, Sem.run_pure, Result.andThen_ok]
   ·have : (if b > a then b else a) = (if a ≤ b then b else a) := by split <;> split <;> omega
    rw [this]; exact .imm (.sc _)
  ·trivial
 ·trivial
theorem xop_ok (hm : SimM P G F st.mem nx w) (hρ : ∀ x, RV G F st.mem w (ρ x) (opnd fr st x)) (hc : ∀ v, ρ (.const v) = v) (hid : G id = none) (hn : id < nx) (o : Oper) :
  EfOk P G F st.mem nx w id ((execOp ρ o).run P w) (xop P fr st true id o) := by
 obtain ⟨dst, op, ty, pos, after, guard⟩ := o
 cases op with
 | move x => exact x_move hm hρ
 | assign x => exact x_assign hm hρ hid hn hc
 | pick c a b => exact x_pick hm hρ
 | alloc t => exact x_alloc hm hid hn
 | box t x => exact x_box hm hρ hid hn
 | build t p => exact x_build hm hρ
 | buildSlice t n p => exact x_buildSlice hm hρ hid hn
 | load t x => exact x_load hm hρ
 | store t a x => exact x_store hm hρ
 | fieldAddr t x f => exact x_fieldAddr hm hρ
 | field t x f => exact x_field hm hρ
 | indexAddr t x i => exact x_indexAddr hm hρ
 | index t x i => exact x_index hm hρ
 | binOp op t x y yt => exact x_binOp hm hρ
 | unOp op t x => exact x_unOp hm hρ
 | convert s d x => exact x_convert hm hρ
 | makeInterface t x => exact x_makeInterface hm hρ
 | makeFunc f a b => exact x_makeFunc hm hρ
 | makeMap t r => exact x_makeMap hm hρ hid hn
 | makeSlice t l c => exact x_makeSlice hm hρ hid hn
 | slice t x a b c => exact x_slice hm hρ
 | nilCheck x => exact x_nilCheck hm hρ
 | lookup t m k ok => exact x_lookup hm hρ
 | mapUpdate t m k x => exact x_mapUpdate hm hρ
 | insert t m k x => exact x_insert hm hρ
 | typeAssert x xt t ok => exact x_typeAssert hm hρ
 | extract x i => exact x_extract hm hρ
 | call c => exact x_call hm hρ hid hn
 | _ => trivial
end
def fc (ro : Option Nat) : Fence := { Fence.wide with round := ro }
abbrev NM := Option (List Deferred)
instance : Coe Bool NM := ⟨fun b => if b then some [] else none⟩
structure H0 where
 n : Nat
 fin : Option (Fn × Array Value)
instance : Coe Nat H0 := ⟨fun n => ⟨n, none⟩⟩
instance {n : Nat} : OfNat H0 n := ⟨⟨n, none⟩⟩
structure DS where
 h0 : H0
 ro : Option Nat
 nm : NM
def dmark (D : Nat) : Deferred := { target := .collected D, args := #[] }
def DS.app (ds : DS) (Ds : List Nat) : List Deferred := match ds.h0.fin with
 | none => Ds.map dmark
 | some (f, cs) => Ds.map dmark ++ [{ target := .fn f cs, args := #[] }]
theorem DS.app_cons (ds : DS) (D : Nat) (Ds : List Nat) : ds.app (D :: Ds) = dmark D :: ds.app Ds := by
 unfold DS.app
 split <;> rfl
theorem DS.mem_app (ds : DS) (D : Nat) (Ds : List Nat) : dmark D ∈ ds.app Ds ↔ D ∈ Ds := by
 have key : dmark D ∈ Ds.map dmark ↔ D ∈ Ds := ⟨fun h => by
  obtain ⟨D', hD, e⟩ := List.mem_map.1 h
  simp only [dmark, Deferred.mk.injEq, Target.collected.injEq, and_true] at e
  exact e ▸ hD, fun h => List.mem_map.2 ⟨D, h, rfl⟩⟩
 unfold DS.app
 split
 ·exact key
 ·rw [List.mem_append, key]
  exact ⟨fun h => h.resolve_right (by simp [dmark]), .inl⟩
def Marks (ds : DS) (l : List Deferred) (w : World) : Prop :=
 (∃ Ds : List Nat, l = ds.app Ds ∧ Ds.Nodup ∧ ∀ D ∈ Ds, ds.h0.n ≤ D ∧ w.heap[D]? = some (.deferred (some []))) ∧ (∀ l0, ds.ro = some l0 → ∃ r, w.heap[l0]? = some (.loop r)) ∧ (∀ L, ds.nm = some L → l = L) ∧ ds.h0.n ≤ w.heap.size
def isData : Obj → Bool
 | .cells _ _ _ => true
 | .map _ _ => true
 | _ => false
theorem ObjOk.data {P : Program} {G : Nat → Option Value} {F : Nat → Nat → Prop} {M : Mem} {w : World} {id b : Nat} {o : RObj} {v : Value} (h : ObjOk P G F M w id o) (hG : G id = some v) (hb : blkOf v = some b) : ∃ ob, w.heap[b]? = some ob ∧ isData ob = true := by
 cases o with
 | cells cs =>
   obtain ⟨b', c, e, h1, h2, _⟩ := h
   rw [hG] at h1; cases h1; simp only [blkOf, Option.some.injEq] at hb; subst hb
   exact ⟨_, h2, rfl⟩
 | arr esz es fz =>
   rcases h with ⟨_, base, h1, _⟩ | ⟨b', ko, c, cc, e, h1, h2, h3, _⟩
   ·rw [hG] at h1; cases h1; cases base <;> simp [blkOf] at hb
   ·rw [hG] at h1; cases h1; simp only [blkOf, if_neg h2, Option.some.injEq] at hb; subst hb
    exact ⟨_, h3, rfl⟩
 | map kt es =>
   obtain ⟨b', ents, clock, h1, h2, _⟩ := h
   rw [hG] at h1; cases h1; simp only [blkOf, Option.some.injEq] at hb; subst hb
   exact ⟨_, h2, rfl⟩
theorem Step.keepObj {P : Program} {B : Nat → Prop} {G G' : Nat → Option Value} {F F' : Nat → Nat → Prop} {M M' : Mem} {w w' : World} {nx b : Nat} {o : Obj} (hm : SimM P G F M nx w) (S : Step B G F M w G' F' M' w') (h : w.heap[b]? = some o) (ho : isData o = false) : w'.heap[b]? = some o := by
 rw [S.out b (Array.getElem?_eq_some_iff.1 h).1, h]
 rintro ⟨id, ob, v, h1, h2, h3⟩
 obtain ⟨ob', h4, h5⟩ := (hm.obj id ob h1).2.data h2 h3
 rw [h] at h4; cases h4; rw [ho] at h5; cases h5
theorem Marks.keep {ds : DS} {l : List Deferred} {w w' : World} (h : Marks ds l w) (k : ∀ (b : Nat) (o : Obj), w.heap[b]? = some o → isData o = false → w'.heap[b]? = some o) (hs : w.heap.size ≤ w'.heap.size) : Marks ds l w' := by
 obtain ⟨⟨Ds, h1, h2, h3⟩, h4, h5, h6⟩ := h
 exact ⟨⟨Ds, h1, h2, fun D hD => ⟨(h3 D hD).1, k _ _ (h3 D hD).2 rfl⟩⟩, fun l0 hl => let ⟨r, hr⟩ := h4 l0 hl; ⟨r, k _ _ hr rfl⟩, h5, Nat.le_trans h6 hs⟩
theorem Marks.none (h0 : Nat) (nm : Bool) (w : World) (hs : h0 ≤ w.heap.size) : Marks ⟨h0, Option.none, nm⟩ [] w := ⟨⟨[], rfl, .nil, fun _ h => by cases h⟩, fun _ h => (by cases h), fun L h => by cases nm <;> simp at h; exact h.symm ▸ rfl, hs⟩
theorem Marks.step {P : Program} {B : Nat → Prop} {G G' : Nat → Option Value} {F F' : Nat → Nat → Prop} {M M' : Mem} {w w' : World} {nx : Nat} {ds : DS} {l : List Deferred} (h : Marks ds l w) (hm : SimM P G F M nx w) (S : Step B G F M w G' F' M' w') : Marks ds l w' :=
 h.keep (fun _ _ h1 h2 => S.keepObj hm h1 h2) S.size
structure SimA (P : Program) (fr : Fr) (ds : DS) (G : Nat → Option Value) (F : Nat → Nat → Prop) (st : St) (a : Act) (w : World) : Prop where
 sim : Sim P fr G F st a w
 fresh : ∀ j, st.nx ≤ j → G j = none
 defers : Marks ds a.defers w
def Post (P : Program) (fr : Fr) (ds : DS) (G : Nat → Option Value) (F : Nat → Nat → Prop) (M : Mem) (w : World) (Q : Exit → St → Prop) (e : Exit) (a' : Act) (w' : World) : Prop :=
 ∃ G' F' st', SimA P fr ds G' F' st' a' w' ∧ Step (· < fr.base) G F M w G' F' st'.mem w' ∧ Q e st'
def EvC (P : Program) (fr : Fr) (ro : Option Nat) (ds : DS) (c : Code) (st : St) (Q : Exit → St → Prop) : Prop :=
 ∀ G0 F0 M0 w0 G F a w, Step (· < fr.base) G0 F0 M0 w0 G F st.mem w → SimA P fr ds G F st a w → c.wpIn (fc ro) 0 P (Post P fr ds G0 F0 M0 w0 Q) a w
def XR (P : Program) (fr : Fr) (ro : Option Nat) (ds : DS) (ops : Array Oper) (l : List Oper) (st : St) (Q : Exit → St → Prop) : Prop :=
 ∀ G0 F0 M0 w0 G F a w, Step (· < fr.base) G0 F0 M0 w0 G F st.mem w → SimA P fr ds G F st a w → wpListIn (fc ro) 0 P ops (Post P fr ds G0 F0 M0 w0 Q) l a w
section
variable {P : Program} {fr : Fr} {ro : Option Nat} {ds : DS} {st st' : St} {Q Q' : Exit → St → Prop} {G G' : Nat → Option Value} {F F' : Nat → Nat → Prop} {a : Act} {w w' : World} {x y c : Code}
 {M : Mem} {ops : Array Oper} {l rest : List Oper} {o : Oper}
theorem EvC.mono (h : EvC P fr ro ds c st Q) (hq : ∀ e st, Q e st → Q' e st) : EvC P fr ro ds c st Q' :=
 fun _ _ _ _ _ _ _ _ S s => wpIn_mono (h _ _ _ _ _ _ _ _ S s) fun _ _ _ ⟨G', F', st', h1, h2, h3⟩ => ⟨G', F', st', h1, h2, hq _ _ h3⟩
def thenE (K : St → Prop) (Q : Exit → St → Prop) : Exit → St → Prop
 | .normal, st => K st
 | e, st => Q e st
theorem EvC.seq (h : EvC P fr ro ds x st (thenE (fun st' => EvC P fr ro ds y st' Q) Q)) : EvC P fr ro ds (.seq x y) st Q :=
 fun _ _ _ _ _ _ _ _ S s => wpIn_seq (wpIn_mono (h _ _ _ _ _ _ _ _ S s) fun e a' w' ⟨G', F', st', h1, h2, h3⟩ => by
  cases e with
  | normal => exact h3 _ _ _ _ _ _ _ _ h2 h1
  | _ => exact ⟨G', F', st', h1, h2, h3⟩)
theorem EvC.skip (h : Q .normal st) : EvC P fr ro ds .skip st Q := fun _ _ _ _ G F _ _ S s => wpIn_skip ⟨G, F, st, s, S, h⟩
theorem EvC.ret (h : Q .ret st) : EvC P fr ro ds .ret st Q := fun _ _ _ _ G F _ _ S s => wpIn_ret ⟨G, F, st, s, S, h⟩
theorem EvC.exit {id : Nat} (h : Q (.exit id) st) : EvC P fr ro ds (.exit id) st Q := fun _ _ _ _ G F _ _ S s => wpIn_exit ⟨G, F, st, s, S, h⟩
def inBlockE (id : Nat) (Q : Exit → St → Prop) : Exit → St → Prop
 | .exit id', st => if id' = id then Q .normal st else Q (.exit id') st
 | e, st => Q e st
theorem EvC.block {id : Nat} (h : EvC P fr ro ds c st (inBlockE id Q)) : EvC P fr ro ds (.block id c) st Q :=
 fun _ _ _ _ _ _ _ _ S s => wpIn_block (wpIn_mono (h _ _ _ _ _ _ _ _ S s) fun e a' w' ⟨G', F', st', h1, h2, h3⟩ => by
  cases e with
  | exit id' =>
    simp only [Exit.inBlock]
    simp only [inBlockE] at h3
    split
    ·rename_i hi; rw [if_pos hi] at h3; exact ⟨G', F', st', h1, h2, h3⟩
    ·rename_i hi; rw [if_neg hi] at h3; exact ⟨G', F', st', h1, h2, h3⟩
  | _ => exact ⟨G', F', st', h1, h2, h3⟩)
theorem SimA.eval (s : SimA P fr ds G F st a w) (x : Operand) : RV G F st.mem w (a.eval x) (opnd fr st x) := by
 cases x with
 | tmp t => exact s.sim.slots t
 | const v => exact .imm (Imm.ofVal v)
 | global g =>
   cases hg : laidAt g with
   | none =>
     have e : opnd fr st (.global g) = .sc (.pointer (some ⟨g, 0, none⟩)) := by simp only [opnd, hg]
     rw [e]; exact .imm (.sc _)
   | some vs =>
     have e : opnd fr st (.global g) = .ia (vs.map AV.sc) := by simp only [opnd, hg]
     rw [e]; exact .imm (s.sim.mem.gl.imm hg)
 | func f => exact .fn f [] [] rfl (fun _ h => absurd h (Nat.not_lt_zero _))
theorem EvC.cond {o : Operand} {b : Bool} (ho : opnd fr st o = .sc (.bool b)) (ht : b = true → EvC P fr ro ds x st Q) (hf : b = false → EvC P fr ro ds y st Q) : EvC P fr ro ds (.cond o x y) st Q :=
 fun _ _ _ _ _ _ _ _ S s => wpIn_cond_split (by have := s.eval o; rw [ho] at this; exact this.inv_sc) (fun h => ht h _ _ _ _ _ _ _ _ S s) (fun h => hf h _ _ _ _ _ _ _ _ S s)
theorem EvC.cond_true {o : Operand} (ho : opnd fr st o = .sc (.bool true)) (ht : EvC P fr ro ds x st Q) : EvC P fr ro ds (.cond o x y) st Q := .cond ho (fun _ => ht) (fun h => by cases h)
theorem EvC.cond_false {o : Operand} (ho : opnd fr st o = .sc (.bool false)) (ht : EvC P fr ro ds y st Q) : EvC P fr ro ds (.cond o x y) st Q := .cond ho (fun h => by cases h) (fun _ => ht)
theorem EvC.conv (hv : ∀ G F a w, SimA P fr ds G F st a w → ∃ G' F', SimA P fr ds G' F' st' a w ∧ Step (· < fr.base) G F st.mem w G' F' st'.mem w) (h : EvC P fr ro ds c st' Q) : EvC P fr ro ds c st Q :=
 fun _ _ _ _ _ _ _ _ S s => by
  obtain ⟨G', F', s', S'⟩ := hv _ _ _ _ s
  exact h _ _ _ _ _ _ _ _ (S.trans S') s'
theorem least {p : Nat → Prop} (h : ∃ n, p n) : ∃ n, p n ∧ ∀ m, p m → n ≤ m := by
 obtain ⟨n, hn⟩ := h
 induction n using Nat.strongRecOn with
 | _ n ih =>
   by_cases hx : ∃ m, m < n ∧ p m
   ·obtain ⟨m, hm, hp⟩ := hx; exact ih m hm hp
   ·exact ⟨n, hn, fun m hm => Nat.le_of_not_lt fun hlt => hx ⟨m, hlt, hm⟩⟩
open Classical in
noncomputable def leastOf (p : Nat → Prop) : Nat := if h : ∃ n, p n then (least h).choose else 0
theorem leastOf_spec {p : Nat → Prop} (h : ∃ n, p n) : p (leastOf p) := by
 unfold leastOf; rw [dif_pos h]; exact (least h).choose_spec.1
theorem leastOf_le {p : Nat → Prop} {m : Nat} (h : p m) : leastOf p ≤ m := by
 unfold leastOf; rw [dif_pos ⟨m, h⟩]; exact (least ⟨m, h⟩).choose_spec.2 m h
theorem EvC.loop (I : St → Prop) (μ : St → Nat) (h0 : I st) (round : ∀ st, I st → EvC P fr ro ds c st (thenE (fun st' => I st' ∧ μ st' < μ st) Q)) : EvC P fr ro ds (.loop c) st Q := by
 intro G0 F0 M0 w0 G F a w S s
 let J : Act → World → St → Prop := fun a w st => ∃ G F, Step (· < fr.base) G0 F0 M0 w0 G F st.mem w ∧ SimA P fr ds G F st a w ∧ I st
 refine wpIn_loop (fun a w => ∃ st, J a w st) (fun a w => leastOf fun n => ∃ st, J a w st ∧ μ st = n) ⟨st, G, F, S, s, h0⟩ ?_
 rintro a w ⟨st1, h1⟩
 obtain ⟨st, ⟨G, F, S, s, hI⟩, hn⟩ := leastOf_spec (p := fun n => ∃ st, J a w st ∧ μ st = n) ⟨_, st1, h1, rfl⟩
 refine wpIn_mono (round st hI _ _ _ _ _ _ _ _ S s) fun e a' w' ⟨G', F', st', h1, h2, h3⟩ => ?_
 cases e with
 | normal =>
   refine ⟨⟨st', G', F', h2, h1, h3.1⟩, ?_⟩
   have := leastOf_le (p := fun n => ∃ st, J a' w' st ∧ μ st = n) ⟨st', ⟨G', F', h2, h1, h3.1⟩, rfl⟩
   have h4 := h3.2
   rw [hn] at h4
   exact Nat.lt_of_le_of_lt this h4
 | _ => exact ⟨G', F', st', h1, h2, h3⟩
def St.clr (st : St) : St := ⟨st.vars, [], st.mem, st.nx⟩
theorem St.get_clr (k : Nat) : st.clr.get fr k = st.get fr k ∨ st.clr.get fr k = .junk := by
 unfold St.get St.clr
 split
 ·exact .inl rfl
 ·exact .inr rfl
theorem SimA.clr (s : SimA P fr ds G F st a w) : SimA P fr ds G F st.clr a w :=
 ⟨⟨s.sim.mem, fun k => by
   rcases St.get_clr (fr := fr) (st := st) k with h | h
   ·rw [h]; exact s.sim.slots k
   ·rw [h]; exact .imm (.junk _), s.sim.size⟩, s.fresh, s.defers⟩
theorem EvC.region {id : Nat} {l : List Oper} (h : XR P fr ro ds l.toArray l st.clr Q) : EvC P fr ro ds (.region id l.toArray false) st Q :=
 fun _ _ _ _ _ _ _ _ S s => wpIn_region_lit (h _ _ _ _ _ _ _ _ S s.clr)
theorem XR.nil (h : Q .normal st) : XR P fr ro ds ops [] st Q := fun _ _ _ _ G F _ _ S s => ⟨G, F, st, s, S, h⟩
def St.eff (fr : Fr) (st : St) (d : Option Nat) : Ef → Option (Bool × St)
 | .bad => none
 | .val ok v => some (ok, (⟨st.vars, st.tmps, st.mem, st.nx + 1⟩ : St).put fr d v)
 | .new ok v ob => some (ok, (⟨st.vars, st.tmps, (st.nx, ob) :: st.mem, st.nx + 1⟩ : St).put fr d v)
 | .upd ok v i ob => some (ok, (⟨st.vars, st.tmps, mset st.mem i ob, st.nx + 1⟩ : St).put fr d v)
 | .key ok v old ob => some (ok, (⟨st.vars, st.tmps, (st.nx, ob) :: mdel st.mem old, st.nx + 1⟩ : St).put fr d v)
theorem getD_put {a : Act} {d k : Nat} {v : Value} : (a.put (some d) v).tmps.getD k undef = if k = d ∧ d < a.tmps.size then v else a.tmps.getD k undef := by
 simp only [Act.put, Array.getD_eq_getD_getElem?, Array.getElem?_setIfInBounds]
 by_cases h : d = k
 ·subst h
  by_cases hs : d < a.tmps.size
  ·simp [hs]
  ·simp [hs]
 ·simp [h, Ne.symm h]
theorem SimA.step_put {st1 : St} {u : Value} {v : AV} {d : Option Nat} (s : SimA P fr ds G F st a w) (S : Step All G F st.mem w G' F' st1.mem w') (hm : SimM P G' F' st1.mem st1.nx w')
  (hv : st1.vars = st.vars) (ht : st1.tmps = st.tmps) (hfr : ∀ j, st1.nx ≤ j → G' j = none) (hd : ∀ k, d = some k → k < fr.sz) (hr : RV G' F' st1.mem w' u v) :
  SimA P fr ds G' F' (st1.put fr d v) (a.put d u) w' := by
 have hg : ∀ k, st1.get fr k = st.get fr k := fun k => by unfold St.get; rw [hv, ht]
 have hold : ∀ k, RV G' F' st1.mem w' (a.tmps.getD k undef) (st1.get fr k) := fun k => by rw [hg]; exact (s.sim.slots k).step S (fun _ _ => trivial)
 refine ⟨⟨by rw [St.put_mem, St.put_nx]; exact hm, fun k => ?_, ?_⟩, by rw [St.put_nx]; exact hfr, ?_⟩
 ·rw [St.put_mem]
  cases d with
  | none => exact hold k
  | some d =>
    rw [St.get_put, getD_put]
    by_cases hk : k = d
    ·subst hk
     rw [if_pos rfl, if_pos ⟨rfl, by rw [s.sim.size]; exact hd k rfl⟩]; exact hr
    ·rw [if_neg hk, if_neg (fun h => hk h.1)]; exact hold k
 ·cases d with
  | none => exact s.sim.size
  | some d => simp only [Act.put, Array.size_setIfInBounds]; exact s.sim.size
 ·cases d with
  | none => exact s.defers.step s.sim.mem S
  | some d => exact s.defers.step s.sim.mem S
theorem SimM.more {nx nx' : Nat} (h : SimM P G F M nx w) (hn : nx ≤ nx') : SimM P G F M nx' w :=
 ⟨fun id o ho => ⟨Nat.lt_of_lt_of_le (h.obj id o ho).1 hn, (h.obj id o ho).2⟩, h.inj, h.inF, h.gl⟩
theorem SimA.oper {st1 : St} {ok : Bool} (s : SimA P fr ds G F st a w) (he : st.eff fr o.dst (xop P fr st true st.nx o) = some (ok, st1)) (hok : ok = true) (hd : ∀ k, o.dst = some k → k < fr.sz) :
  ∃ u w' G' F', ((execOp a.eval o).run P w = .ok (.value u) w' ∨ ((execOp a.eval o).run P w = .ok .skip w' ∧ u = undef)) ∧ SimA P fr ds G' F' st1 (a.put o.dst u) w' ∧ Step All G F st.mem w G' F' st1.mem w' := by
 have hk := xop_ok (id := st.nx) (s.sim.mem.more (Nat.le_succ _)) s.eval (fun _ => rfl) (s.fresh _ (Nat.le_refl _)) (Nat.lt_succ_self _) o
 have fin : ∀ {x : AV} {M' : Mem}, OpOk P G F st.mem (st.nx + 1) w st.nx ((execOp a.eval o).run P w) x M' →
   ∃ u w' G' F', ((execOp a.eval o).run P w = .ok (.value u) w' ∨ ((execOp a.eval o).run P w = .ok .skip w' ∧ u = undef)) ∧ SimA P fr ds G' F' ((⟨st.vars, st.tmps, M', st.nx + 1⟩ : St).put fr o.dst x) (a.put o.dst u) w' ∧ Step All G F st.mem w G' F' ((⟨st.vars, st.tmps, M', st.nx + 1⟩ : St).put fr o.dst x).mem w' := by
  intro x M' ⟨u, w', G', F', hrun, hm', S', hr, hfr⟩
  exact ⟨u, w', G', F', hrun, s.step_put (st1 := ⟨st.vars, st.tmps, M', st.nx + 1⟩) S' hm' rfl rfl (fun j hj => hfr j (by show j ≠ st.nx; have : st.nx + 1 ≤ j := hj; omega) (s.fresh j (by have : st.nx + 1 ≤ j := hj; omega))) hd hr, by rw [St.put_mem]; exact S'⟩
 generalize xop P fr st true st.nx o = ef at he hk
 cases ef with
 | bad => cases he
 | val b v => simp only [St.eff, Option.some.injEq, Prod.mk.injEq] at he; obtain ⟨rfl, rfl⟩ := he; exact fin (hk hok)
 | new b v ob => simp only [St.eff, Option.some.injEq, Prod.mk.injEq] at he; obtain ⟨rfl, rfl⟩ := he; exact fin (hk hok)
 | upd b v i ob => simp only [St.eff, Option.some.injEq, Prod.mk.injEq] at he; obtain ⟨rfl, rfl⟩ := he; exact fin (hk hok)
 | key b v old ob => simp only [St.eff, Option.some.injEq, Prod.mk.injEq] at he; obtain ⟨rfl, rfl⟩ := he; exact fin (hk hok)
theorem xop_defer {id : Nat} {g : Bool} {b : Bool} {st1 : St} (he : st.eff fr o.dst (xop P fr st g id o) = some (b, st1)) : ∀ c, o.op ≠ .defer c := by
 intro c hc
 obtain ⟨d, op, ty, pos, after, gu⟩ := o
 simp only at hc
 subst hc
 simp [xop, St.eff] at he
theorem SimA.wp {st1 : St} {ok : Bool} {K : Act → World → Prop} {Q1 : Exit → Act → World → Prop} (s : SimA P fr ds G F st a w) (he : st.eff fr o.dst (xop P fr st true st.nx o) = some (ok, st1)) (hok : ok = true) (hd : ∀ k, o.dst = some k → k < fr.sz)
  (h : ∀ G' F' a' w', SimA P fr ds G' F' st1 a' w' → Step All G F st.mem w G' F' st1.mem w' → K a' w') : o.wpIn (fc ro) 0 P a w K Q1 := by
 obtain ⟨u, w', G', F', hrun, s', S'⟩ := s.oper he hok hd
 refine ⟨fun _ _ => trivial, ?_⟩
 rw [Oper.semAt_eq _ _ _ (xop_defer he)]
 rcases hrun with hrun | ⟨hrun, rfl⟩ <;> rw [hrun]
 ·exact h _ _ _ _ s' S'
 ·exact h _ _ _ _ s' S'
def dok (fr : Fr) (d : Option Nat) : Bool := match d with
 | none => true
 | some k => decide (k < fr.sz)
theorem dok_spec {d : Option Nat} (h : dok fr d = true) : ∀ k, d = some k → k < fr.sz := fun k hk => by
 subst hk; simpa [dok] using h
theorem XR.op {st1 : St} {ok : Bool} (hg : o.guard = none) (hd : dok fr o.dst = true) (he : st.eff fr o.dst (xop P fr st true st.nx o) = some (ok, st1)) (hok : ok = true)
  (h : XR P fr ro ds ops rest st1 Q) : XR P fr ro ds ops (o :: rest) st Q :=
 fun _ _ _ _ _ _ _ _ S s => wpListIn_plain hg fun K hK => s.wp he hok (dok_spec hd) fun _ _ _ _ s' S' => hK _ _ (h _ _ _ _ _ _ _ _ (S.trans (S'.mono fun _ _ => trivial)) s')
inductive Res where
 | done (ok : Bool) (st : St)
 | stop (ok : Bool) (st : St) (rest : List Oper)
noncomputable def xrun (P : Program) (fr : Fr) : List Oper → St → Bool → Res
 | [], st, ok => .done ok st
 | o :: rest, st, ok => match o.guard with
   | some _ => .stop ok st (o :: rest)
   | none => match dok fr o.dst with
     | false => .stop ok st (o :: rest)
     | true => match st.eff fr o.dst (xop P fr st true st.nx o) with
       | none => .stop ok st (o :: rest)
       | some (b, st') => xrun P fr rest st' (ok && b)
theorem XR.run' : ∀ {l : List Oper} {st : St} {ok ok' : Bool} {st' : St} {rest : List Oper}, (xrun P fr l st ok = .done ok' st' ∧ rest = [] ∨ xrun P fr l st ok = .stop ok' st' rest) → ok' = true → XR P fr ro ds ops rest st' Q → XR P fr ro ds ops l st Q ∧ ok = true
 | [], st, ok, ok', st', rest, h, hok, hq => by
   rcases h with ⟨h, rfl⟩ | h
   ·cases h; exact ⟨hq, hok⟩
   ·cases h
 | o :: l, st, ok, ok', st', rest, h, hok, hq => by
   unfold xrun at h
   split at h
   ·rcases h with ⟨h, _⟩ | h
    ·cases h
    ·cases h; exact ⟨hq, hok⟩
   ·rename_i hg
    split at h
    ·rcases h with ⟨h, _⟩ | h
     ·cases h
     ·cases h; exact ⟨hq, hok⟩
    ·rename_i hd
     split at h
     ·rcases h with ⟨h, _⟩ | h
      ·cases h
      ·cases h; exact ⟨hq, hok⟩
     ·rename_i b st1 he
      have := XR.run' h hok hq
      have h2 := this.2
      simp only [Bool.and_eq_true] at h2
      exact ⟨.op hg hd he h2.2 this.1, h2.1⟩
theorem XR.run {ok : Bool} (h : xrun P fr l st true = .stop ok st' rest) (hok : ok = true) (hq : XR P fr ro ds ops rest st' Q) : XR P fr ro ds ops l st Q := (XR.run' (.inr h) hok hq).1
theorem XR.done {ok : Bool} (h : xrun P fr l st true = .done ok st') (hok : ok = true) (hq : Q .normal st') : XR P fr ro ds ops l st Q := (XR.run' (.inl ⟨h, rfl⟩) hok (.nil hq)).1
def gb : Bool → Bool → Bool
 | true, g => g
 | false, g => !g
def gval (want : Bool) : AV → Option Bool
 | .sc (.bool g) => some (gb want g)
 | .opt b (.sc (.bool g)) => some (b && gb want g)
 | .sc (.int _ _) => some false
 | _ => none
def bov : Value → Option Bool
 | .bool b => some b
 | _ => none
theorem gval_ok {want g : Bool} {v : Value} {x : AV} (h : RV G F M w v x) (hg : gval want x = some g) : (bov v == some want) = g := by
 unfold gval at hg
 split at hg
 ·cases hg; have h := h.inv_sc; subst h; rename_i b; cases b <;> cases want <;> rfl
 ·cases hg
  rename_i b c
  cases b with
  | true => have h := h.inv_opt.inv_sc; subst h; cases c <;> cases want <;> rfl
  | false => have h := h.inv_optf; subst h; cases want <;> rfl
 ·cases hg; have h := h.inv_sc; subst h; cases want <;> rfl
 ·cases hg
def gslot (ops : Array Oper) (j : Nat) : Option Nat := (ops[j]?).bind (·.dst)
theorem wanted_ok {j k : Nat} {want g : Bool} (s : SimA P fr ds G F st a w) (hg : o.guard = some (j, want)) (hj : gslot ops j = some k) (hk : gval want (st.get fr k) = some g) : Region.wanted o (yielded ops a.tmps) = g := by
 have := gval_ok (s.sim.slots k) hk
 simp only [Region.wanted, hg, yielded]
 unfold gslot at hj
 rw [hj, ← this]
 simp only [Option.bind_some, Array.getD_eq_getD_getElem?]
 cases h : a.tmps[k]? with
 | none => simp [undef, bov]
 | some v => cases v <;> simp [bov]
theorem XR.skip {j k : Nat} {want : Bool} (hg : o.guard = some (j, want)) (hj : gslot ops j = some k) (hk : gval want (st.get fr k) = some false) (hd : dok fr o.dst = true)
  (h : XR P fr ro ds ops rest (st.put fr o.dst (.sc undef)) Q) : XR P fr ro ds ops (o :: rest) st Q :=
 fun _ _ _ _ _ _ a w S s => by
  have hw := wanted_ok s hg hj hk
  simp only [wpListIn, hw, Bool.false_eq_true, if_false]
  exact ⟨fun _ _ => trivial, h _ _ _ _ _ _ _ _ (by rw [St.put_mem]; exact S) (s.step_put .refl s.sim.mem rfl rfl s.fresh (dok_spec hd) (.imm (.sc _)))⟩
def effG (fr : Fr) (st : St) (d : Option Nat) (g : Bool) : Ef → Option (Bool × St)
 | .val ok v => some (!g || ok, (⟨st.vars, st.tmps, st.mem, st.nx + 1⟩ : St).put fr d (.opt g v))
 | _ => none
theorem XR.guard {j k : Nat} {want g : Bool} {st1 : St} {ok : Bool} (hg : o.guard = some (j, want)) (hj : gslot ops j = some k) (hk : gval want (st.get fr k) = some g) (hd : dok fr o.dst = true)
  (he : effG fr st o.dst g (xop P fr st g st.nx o) = some (ok, st1)) (hok : ok = true) (h : XR P fr ro ds ops rest st1 Q) : XR P fr ro ds ops (o :: rest) st Q := by
 intro G0 F0 M0 w0 G F a w S s
 have hw := wanted_ok s hg hj hk
 cases hx : xop P fr st g st.nx o with
 | val b v =>
   rw [hx] at he
   simp only [effG, Option.some.injEq, Prod.mk.injEq] at he
   obtain ⟨he1, rfl⟩ := he
   cases g with
   | false =>
     simp only [wpListIn, hw, Bool.false_eq_true, if_false]
     refine ⟨fun _ _ => trivial, h _ _ _ _ G F _ _ (by rw [St.put_mem]; exact S) ?_⟩
     exact s.step_put (st1 := ⟨st.vars, st.tmps, st.mem, st.nx + 1⟩) .refl (s.sim.mem.more (Nat.le_succ _)) rfl rfl (fun j hj => s.fresh j (Nat.le_of_succ_le hj)) (dok_spec hd) (.imm (.opt false _ _ (fun h => by cases h) (fun _ => rfl)))
   | true =>
     simp only [wpListIn, hw, if_true]
     have hb : b = true := by rw [← he1] at hok; simpa using hok
     have he' : st.eff fr o.dst (xop P fr st true st.nx o) = some (b, (⟨st.vars, st.tmps, st.mem, st.nx + 1⟩ : St).put fr o.dst v) := by rw [hx]; rfl
     refine s.wp he' hb (dok_spec hd) fun G' F' a' w' s' S' => h _ _ _ _ G' F' _ _ (by rw [St.put_mem] at S' ⊢; exact S.trans (S'.mono fun _ _ => trivial)) ?_
     refine ⟨⟨by have := s'.sim.mem; rw [St.put_mem, St.put_nx] at this ⊢; exact this, fun k => ?_, s'.sim.size⟩, by have := s'.fresh; rw [St.put_nx] at this ⊢; exact this, s'.defers⟩
     have hk := s'.sim.slots k
     rw [St.put_mem] at hk ⊢
     cases hdst : o.dst with
     | none => rw [hdst] at hk; exact hk
     | some d =>
       rw [hdst, St.get_put] at hk
       rw [St.get_put]
       by_cases hkd : k = d
       ·rw [if_pos hkd] at hk ⊢; exact .opt true _ _ (fun _ => hk) (fun h => by cases h)
       ·rw [if_neg hkd] at hk ⊢; exact hk
 | _ => rw [hx] at he; cases he
end
def callable (P : Program) (f : FuncId) : Prop := f < 1000000 ∧ ∀ args w, (callFunc f args).run P w = .ok (.enter f args) w
theorem callable_of {P : Program} {f : FuncId} {fn : Func} (hf : P.funcs[f]? = some fn) (hn : (fn.name == "runtime.NumGoroutine") = false) (hb : fn.body.isNone = false) (hlt : f < 1000000 := by first | assumption | decide) : callable P f := ⟨hlt, fun args w => by
 have h1 : fn.name ≠ "runtime.NumGoroutine" := by simpa using hn
 have h2 : fn.body ≠ none := fun h => by rw [h] at hb; cases hb
 simp [callFunc, hf, h1, h2]⟩
def Imms (F : Nat → Nat → Prop) (w : World) (vs : List Value) (xs : List AV) : Prop := vs.length = xs.length ∧ ∀ i (h1 : i < vs.length) (h2 : i < xs.length), Imm F w vs[i] xs[i]
structure Grown (F : Nat → Nat → Prop) (w : World) (F' : Nat → Nat → Prop) (w' : World) : Prop where
 size : w.heap.size ≤ w'.heap.size
 old : ∀ b, b < w.heap.size → w'.heap[b]? = w.heap[b]?
 F1 : ∀ b o, F b o → F' b o
 F3 : ∀ b o, F' b o → F b o ∨ w.heap.size ≤ b
 inF : ∀ b o, F' b o → b < w'.heap.size
 kept : Kept w w'
def PureIs (P : Program) (f : FuncId) (args : List AV) (r : AV) : Prop :=
 callable P f ∧ ∀ F w vals, FOk F w → Imms F w vals args →
  CallsIn Fence.wide 0 P f vals.toArray w fun e w' => ∃ v F', e = .returned v ∧ Imm F' w' v r ∧ Grown F w F' w'
section
variable {P : Program} {fr : Fr} {ro : Option Nat} {ds : DS} {st st' : St} {Q Q' : Exit → St → Prop} {G G' : Nat → Option Value} {F F' : Nat → Nat → Prop} {a : Act} {w w' : World} {x y c : Code}
 {M : Mem} {ops : Array Oper} {l rest : List Oper} {o : Oper}
theorem simM_grown {nx : Nat} (hm : SimM P G F M nx w) (g : Grown F w F' w') : SimM P G F' M nx w' ∧ Step All G F M w G F' M w' := by
 have S : Step All G F M w G F' M w' :=
  { kept := g.kept
    size := g.size
    out := fun b hb _ => g.old b hb
    F1 := g.F1
    F2 := fun b o hF => cell?_same (g.old b (hm.inF b o hF)) o
    F3 := fun b o h => by rcases g.F3 b o h with h | h; exact .inl h; exact .inr (.inl h)
    own := fun b h => .inr h
    some' := fun _ _ h => h
    same := fun _ _ _ h _ => h
    keep := fun id o' _ hG ho => by
     cases hg : G id with
     | none => exact absurd hg hG
     | some v => exact ⟨o', v, v, ho, rfl, rfl, objKeep.refl v o'⟩ }
 refine ⟨simM_gen hm S (fun id o' ho => ⟨(hm.obj id o' ho).1, .inr ⟨ho, rfl, fun b v hG hb => ?_⟩⟩) hm.inj g.inF, S⟩
 have hlt : b < w.heap.size := hm.lt ⟨id, o', v, ho, hG, hb⟩
 exact ⟨g.old b hlt, fun o h => by rcases g.F3 b o h with h | h; exact h; omega⟩
theorem callsIn_fc {n : Nat} {f : FuncId} {args : Array Value} {R : Ending → World → Prop} (h : CallsIn Fence.wide n P f args w R) : CallsIn (fc ro) (0 - 1) P f args w R :=
 ⟨trivial, fun cs _ => h.2 cs (room_wide _)⟩
theorem Imms.of_rv {vs : List Value} {xs : List AV} (hl : vs.length = xs.length) (h : ∀ i (h1 : i < vs.length) (h2 : i < xs.length), RV G F M w vs[i] xs[i]) (hn : AV.norefs xs = true) : Imms F w vs xs :=
 ⟨hl, fun i h1 h2 => (h i h1 h2).imm_of (norefs_get xs hn i h2)⟩
def callArgs (fr : Fr) (st : St) (args : Array Operand) : List AV := args.toList.map fun x => snap st.mem (od fr st true x)
theorem SimA.call {f : FuncId} {cs : List AV} {callee : Operand} {args : Array Operand} {tys : Array TypeId} {xs : List AV} {r : AV} {K : Act → World → Prop} {Q1 : Exit → Act → World → Prop}
  (s : SimA P fr ds G F st a w) (hop : o.op = .call ⟨.value callee, args, tys⟩) (hd : ∀ k, o.dst = some k → k < fr.sz) (hcal : od fr st true callee = .fn f cs)
  (hxs : callArgs fr st args ++ cs = xs) (hn : AV.norefs xs = true) (hc : PureIs P f xs r)
  (h : ∀ G' F' a' w', SimA P fr ds G' F' ((⟨st.vars, st.tmps, st.mem, st.nx + 1⟩ : St).put fr o.dst r) a' w' → Step All G F st.mem w G' F' st.mem w' → K a' w') : o.wpIn (fc ro) 0 P a w K Q1 := by
 refine ⟨fun _ _ => trivial, ?_⟩
 rw [Oper.semAt_eq _ _ _ (by rw [hop]; intro c h; cases h)]
 have hv := (s.eval callee).unopt
 have hv : RV G F st.mem w (a.eval callee) (.fn f cs) := by unfold od at hcal; rwa [hcal] at hv
 obtain ⟨vs, hev, hl, hcs⟩ := hv.inv_fn0 hc.1.1
 have hrun : (execOp a.eval o).run P w = .ok (.enter f ((args.toList.map a.eval ++ vs).toArray)) w := by
  obtain ⟨dst, op, ty, pos, after, guard⟩ := o
  simp only at hop
  subst hop
  simp only [execOp, resolve, hev, Deferred.ofValue, Sem.run_bind, Sem.run_pure, Result.andThen_ok, invoke]
  rw [hc.1.2]
  congr 2
  apply Array.ext'
  simp
 rw [hrun]
 have hi : Imms F w (args.toList.map a.eval ++ vs) xs := by
  subst hxs
  refine .of_rv (G := G) (M := st.mem) (by simp [callArgs, hl]) (fun i h1 h2 => ?_) hn
  by_cases hlt : i < args.toList.length
  ·rw [List.getElem_append_left (by simpa using hlt), List.getElem_append_left (by simpa [callArgs] using hlt)]
   simp only [callArgs, List.getElem_map]
   exact ((s.eval _).unopt).snap s.sim.mem
  ·rw [List.getElem_append_right (by simpa using hlt), List.getElem_append_right (by simpa [callArgs] using hlt)]
   simp only [List.length_map, callArgs]
   exact hcs _ _ _
 refine ⟨fun h => by simp [fc, Fence.wide] at h, callsIn_fc ((hc.2 F w _ s.sim.mem.fok hi).mono ?_)⟩
 rintro e w' ⟨v, F', rfl, hv, g⟩
 obtain ⟨hm', S'⟩ := simM_grown s.sim.mem g
 exact h G F' _ w' (s.step_put (st1 := ⟨st.vars, st.tmps, st.mem, st.nx + 1⟩) S' (hm'.more (Nat.le_succ _)) rfl rfl (fun j hj => s.fresh j (Nat.le_of_succ_le hj)) hd (.imm hv)) S'
theorem XR.call {f : FuncId} {cs : List AV} {callee : Operand} {args : Array Operand} {tys : Array TypeId} {xs : List AV} {r : AV} (hg : o.guard = none) (hop : o.op = .call ⟨.value callee, args, tys⟩) (hd : dok fr o.dst = true)
  (hcal : od fr st true callee = .fn f cs) (hxs : callArgs fr st args ++ cs = xs) (hn : AV.norefs xs = true) (hc : PureIs P f xs r)
  (h : XR P fr ro ds ops rest ((⟨st.vars, st.tmps, st.mem, st.nx + 1⟩ : St).put fr o.dst r) Q) : XR P fr ro ds ops (o :: rest) st Q :=
 fun _ _ _ _ _ _ _ _ S s => wpListIn_plain hg fun K hK => s.call hop (dok_spec hd) hcal hxs hn hc fun _ _ _ _ s' S' => hK _ _ (h _ _ _ _ _ _ _ _ (S.trans (by rw [St.put_mem]; exact S'.mono fun _ _ => trivial)) s')
theorem XR.callG {j k : Nat} {want : Bool} {f : FuncId} {cs : List AV} {callee : Operand} {args : Array Operand} {tys : Array TypeId} {xs : List AV} {r : AV} (hg : o.guard = some (j, want)) (hj : gslot ops j = some k) (hk : gval want (st.get fr k) = some true)
  (hop : o.op = .call ⟨.value callee, args, tys⟩) (hd : dok fr o.dst = true)
  (hcal : od fr st true callee = .fn f cs) (hxs : callArgs fr st args ++ cs = xs) (hn : AV.norefs xs = true) (hc : PureIs P f xs r)
  (h : XR P fr ro ds ops rest ((⟨st.vars, st.tmps, st.mem, st.nx + 1⟩ : St).put fr o.dst r) Q) : XR P fr ro ds ops (o :: rest) st Q :=
 fun _ _ _ _ _ _ a w S s => by
  have hw := wanted_ok s hg hj hk
  simp only [wpListIn, hw, if_true]
  exact s.call hop (dok_spec hd) hcal hxs hn hc fun _ _ _ _ s' S' => h _ _ _ _ _ _ _ _ (S.trans (by rw [St.put_mem]; exact S'.mono fun _ _ => trivial)) s'
def vars0 : Nat → List AV → List (Nat × AV)
 | _, [] => []
 | i, x :: xs => (i, x) :: vars0 (i + 1) xs
def st0 (args : List AV) : St := ⟨vars0 0 args, [], [], 0⟩
theorem alook_vars0 : ∀ (xs : List AV) (i k : Nat), alook (vars0 i xs) k = .junk ∨ ∃ h : k - i < xs.length, i ≤ k ∧ alook (vars0 i xs) k = xs[k - i]
 | [], _, _ => .inl rfl
 | x :: xs, i, k => by
   simp only [vars0, alook]
   by_cases h : k = i
   ·subst h
    exact .inr ⟨by simp, Nat.le_refl _, by simp⟩
   ·rw [if_neg h]
    rcases alook_vars0 xs (i + 1) k with h' | ⟨h1, h2, h3⟩
    ·exact .inl h'
    ·refine .inr ⟨by simp; omega, by omega, ?_⟩
     rw [h3]
     have : k - i = (k - (i + 1)) + 1 := by omega
     simp [this]
def resOne (P : Program) (fr : Fr) (st : St) : ResultVar → Option AV
 | .tmp t => some (snap st.mem (st.get fr t))
 | .cell a t => match st.get fr a, tinfo P t with
   | .rf i off, some ti => match mlook st.mem i with
     | some (.cells cs) => if off + ti.size ≤ cs.length ∧ (ti.agg = true ∨ ti.size = 1) then some (mkv ti.agg ((cs.drop off).take ti.size)) else none
     | _ => none
   | _, _ => none
def resAll (P : Program) (fr : Fr) (st : St) : List ResultVar → Option (List AV)
 | [] => some []
 | x :: xs => match resOne P fr st x, resAll P fr st xs with
   | some v, some vs => some (v :: vs)
   | _, _ => none
def mkRes : List AV → AV
 | [x] => x
 | xs => .tu xs
def resVar (tmps : Array Value) : ResultVar → Sem Value
 | .tmp t => pure (tmps.getD t undef)
 | .cell a t => do loadVar t (← asAddr (tmps.getD a undef))
theorem results_eq (fn : Func) (tmps : Array Value) : results fn tmps = (do
  let vs ← fn.results.mapM (resVar tmps)
  pure (if h : vs.size = 1 then vs[0] else .tuple vs)) := by
 unfold results
 have : (fun x : ResultVar => match x with
  | .tmp t => (pure (tmps.getD t undef) : Sem Value)
  | .cell a t => do loadVar t (← asAddr (tmps.getD a undef))) = resVar tmps := by
  funext x; cases x <;> rfl
 rw [← this]
 rfl
theorem resOne_ok (s : SimA P fr ds G F st a w) {x : ResultVar} {v : AV} (h : resOne P fr st x = some v) :
  ∃ u, (resVar a.tmps x).run P w = .ok u w ∧ RV G F st.mem w u v := by
 cases x with
 | tmp t =>
   simp only [resOne, Option.some.injEq] at h
   subst h
   exact ⟨_, rfl, (s.sim.slots t).snap s.sim.mem⟩
 | cell p t =>
   simp only [resOne] at h
   split at h
   ·rename_i i off ti hp ht
    split at h
    ·rename_i cs ho
     split at h
     ·rename_i hb
      cases h
      have hv := s.sim.slots p
      rw [hp] at hv
      obtain ⟨u, h1, h2⟩ := ok_load_rf s.sim.mem ht hv ho hb.1 hb.2
      refine ⟨u, ?_, h2⟩
      obtain ⟨b, _, hpv⟩ := hv.inv_rf
      rw [hpv] at h1
      simp only [resVar, hpv]
      simpa [Instr.loadAt, Instr.sureAddr, asAddr] using h1
     ·cases h
    ·cases h
   ·cases h
theorem resAll_ok (s : SimA P fr ds G F st a w) : ∀ {xs : List ResultVar} {rs : List AV}, resAll P fr st xs = some rs →
  ∃ us : List Value, (xs.mapM (resVar a.tmps)).run P w = .ok us w ∧ us.length = rs.length ∧ ∀ i (h1 : i < us.length) (h2 : i < rs.length), RV G F st.mem w us[i] rs[i]
 | [], rs, h => by
   cases h
   exact ⟨[], by simp, rfl, fun _ h => absurd h (Nat.not_lt_zero _)⟩
 | x :: xs, rs, h => by
   simp only [resAll] at h
   split at h
   ·rename_i v vs hv hvs
    cases h
    obtain ⟨u, h1, h2⟩ := resOne_ok s hv
    obtain ⟨us, h3, h4, h5⟩ := resAll_ok s hvs
    refine ⟨u :: us, by simp [List.mapM_cons, h1, h3], by simp [h4], fun i hi hj => ?_⟩
    cases i with
    | zero => exact h2
    | succ i => exact h5 i (by simpa using hi) (by simpa using hj)
   ·cases h
theorem results_ok (s : SimA P fr ds G F st a w) {fn : Func} {rs : List AV} (h : resAll P fr st fn.results.toList = some rs) : ∃ u, (results fn a.tmps).run P w = .ok u w ∧ RV G F st.mem w u (mkRes rs) := by
 obtain ⟨us, h1, h2, h3⟩ := resAll_ok s h
 refine ⟨if h : us.toArray.size = 1 then us.toArray[0] else .tuple us.toArray, ?_, ?_⟩
 ·rw [results_eq, Array.mapM_eq_mapM_toList]
  simp [h1]
 ·match us, rs, h2 with
  | [], [], _ => exact .tu [] [] rfl (fun _ h => absurd h (Nat.not_lt_zero _))
  | [u], [r], _ => exact h3 0 (by simp) (by simp)
  | u :: u' :: us, r :: r' :: rs, h2 =>
    simp only [List.size_toArray, List.length_cons, mkRes]
    rw [dif_neg (by omega)]
    exact .tu _ _ h2 h3
def retP (P : Program) (fr : Fr) (results : List ResultVar) (r : AV) (e : Exit) (st : St) : Prop :=
 (e = .ret ∨ e = .normal) ∧ ∃ rs, resAll P fr st results = some rs ∧ mkRes rs = r ∧ r.noref = true
theorem cell?_data {b o : Nat} {v : Value} (h : w.cell? ⟨b, o, none⟩ = some v) : ∃ ob, w.heap[b]? = some ob ∧ isData ob = true := by
 unfold World.cell? at h
 cases hb : w.heap[b]? with
 | none => simp [hb] at h
 | some ob =>
   refine ⟨ob, rfl, ?_⟩
   simp only [hb] at h
   cases ob <;> simp_all [isData]
theorem Imm.keepData {v : Value} {x : AV} (h : Imm F w v x) (hk : ∀ (b : Nat) (o : Obj), w.heap[b]? = some o → isData o = true → w'.heap[b]? = some o) : Imm F w' v x := by
 have hc : ∀ (b o : Nat) (v : Value), w.cell? ⟨b, o, none⟩ = some v → w'.cell? ⟨b, o, none⟩ = some v := fun b o v h => by
  obtain ⟨ob, h1, h2⟩ := cell?_data h
  rw [cell?_same ((hk b ob h1 h2).trans h1.symm) o]; exact h
 induction h with
 | sc v => exact .sc v
 | ag vs cs hl _ ih => exact .ag vs cs hl ih
 | tu vs cs hl _ ih => exact .tu vs cs hl ih
 | nil cap hc => exact .nil cap hc
 | sz a cap hc => exact .sz a cap hc
 | sl b off c esz es cap vs hc' hcap hes hF _ ih => exact .sl b off c esz es cap vs hc' hcap hes (fun i j h1 h2 => let ⟨a, b, c⟩ := hF i j h1 h2; ⟨a, hc _ _ _ b, c⟩) ih
 | ia b off cs vs hF _ ih => exact .ia b off cs vs (fun j h => let ⟨a, b⟩ := hF j h; ⟨a, hc _ _ _ b⟩) ih
 | ifc t v x _ ih => exact .ifc t v x ih
 | fn f vs cs hl _ ih => exact .fn f vs cs hl ih
 | opt b v x _ h' ih => exact .opt b v x ih h'
 | junk v => exact .junk v
theorem RV.keepData {v : Value} {x : AV} (h : RV G F M w v x) (hk : ∀ (b : Nat) (o : Obj), w.heap[b]? = some o → isData o = true → w'.heap[b]? = some o) : RV G F M w' v x := by
 induction h with
 | imm h => exact .imm (h.keepData hk)
 | ag vs cs hl _ ih => exact .ag vs cs hl ih
 | tu vs cs hl _ ih => exact .tu vs cs hl ih
 | ifc t v x _ ih => exact .ifc t v x ih
 | fn f vs cs hl _ ih => exact .fn f vs cs hl ih
 | opt b v x _ h' ih => exact .opt b v x ih h'
 | rf id off b h => exact .rf id off b h
 | tl id len nl v hG h => exact .tl id len nl v hG h
 | tv id n off len cap v hG h => exact .tv id n off len cap v hG h
 | ea id n i off v hG h => exact .ea id n i off v hG h
 | mp id b h => exact .mp id b h
theorem ObjOk.keepData {id : Nat} {o : RObj} (h : ObjOk P G F M w id o) (hk : ∀ (b : Nat) (o : Obj), w.heap[b]? = some o → isData o = true → w'.heap[b]? = some o) : ObjOk P G F M w' id o := by
 cases o with
 | cells cs => obtain ⟨b, c, e, h1, h2, h3, h4, h5⟩ := h; exact ⟨b, c, e, h1, hk _ _ h2 rfl, h3, fun i a b => (h4 i a b).keepData hk, h5⟩
 | arr esz es fz =>
   rcases h with h | ⟨b, ko, c, cc, e, h1, h2, h3, h4, h5, h6, h7, h8⟩
   ·exact .inl h
   ·exact .inr ⟨b, ko, c, cc, e, h1, h2, hk _ _ h3 rfl, h4, h5, h6, fun i j a b => let ⟨v, x, y, z⟩ := h7 i j a b; ⟨v, x, y, z.keepData hk⟩, h8⟩
 | map kt es => obtain ⟨b, ents, clock, h1, h2, h3, h4, h5⟩ := h; exact ⟨b, ents, clock, h1, hk _ _ h2 rfl, h3, fun i a b => let ⟨x, y, z⟩ := h4 i a b; ⟨x, y.keepData hk, z⟩, h5⟩
theorem SimM.keepData {nx : Nat} (h : SimM P G F M nx w) (hk : ∀ (b : Nat) (o : Obj), w.heap[b]? = some o → isData o = true → w'.heap[b]? = some o) (hs : w.heap.size ≤ w'.heap.size) : SimM P G F M nx w' :=
 ⟨fun id o ho => ⟨(h.obj id o ho).1, (h.obj id o ho).2.keepData hk⟩, h.inj, fun b o hb => Nat.lt_of_lt_of_le (h.inF b o hb) hs, fun g vs hg j hj => by
  obtain ⟨h1, h2⟩ := h.gl g vs hg j hj
  refine ⟨h1, ?_⟩
  obtain ⟨ob, h3, h4⟩ := cell?_data h2
  rw [cell?_same ((hk g ob h3 h4).trans h3.symm) j]; exact h2⟩
theorem PureIs.of {f : FuncId} {fn : Func} {args : List AV} {r : AV} {nv : Nat} {hid : List Nat} (hf : P.funcs[f]? = some fn) (hb : fn.body = some c) (hnm : (fn.name == "runtime.NumGoroutine") = false) (hsz : args.length ≤ fn.ntmps)
  (h : ∀ h0 : Nat, EvC P ⟨0, nv, hid, fn.ntmps⟩ none ⟨h0, none, false⟩ c (st0 args) (retP P ⟨0, nv, hid, fn.ntmps⟩ fn.results.toList r)) (hlt : f < 1000000 := by first | assumption | decide) : PureIs P f args r := by
 refine ⟨callable_of hf hnm (by rw [hb]; rfl), fun F w vals hF hi => ?_⟩
 obtain ⟨hl, hi⟩ := hi
 have s0 : SimA P ⟨0, nv, hid, fn.ntmps⟩ ⟨w.heap.size, none, false⟩ (fun _ => none) F (st0 args) { tmps := vals.toArray ++ Array.replicate (fn.ntmps - vals.toArray.size) undef, defers := [] } w := by
  refine ⟨⟨⟨fun id o h => (by cases h), fun id id' v v' b h => absurd rfl h, hF.1, hF.2⟩, fun k => ?_, by simp; omega⟩, fun _ _ => rfl, Marks.none _ _ _ (Nat.le_refl _)⟩
  have key : ∀ x, (x = .junk ∨ ∃ h : k < args.length, x = args[k]) → RV (fun _ => none) F (st0 args).mem w ((vals.toArray ++ Array.replicate (fn.ntmps - vals.toArray.size) undef).getD k undef) x := by
   rintro x (rfl | ⟨hk, rfl⟩)
   ·exact .imm (.junk _)
   ·have : (vals.toArray ++ Array.replicate (fn.ntmps - vals.toArray.size) undef).getD k undef = vals[k] := by
      rw [Array.getD_eq_getD_getElem?, Array.getElem?_append_left (by simp; omega)]
      simp [List.getElem?_eq_getElem (show k < vals.length by omega)]
    rw [this]
    exact .imm (hi k (by omega) hk)
  refine key _ ?_
  unfold St.get
  split
  ·rcases alook_vars0 args 0 k with h | ⟨h1, h2, h3⟩
   ·exact .inl h
   ·exact .inr ⟨by simpa using h1, by simpa [st0] using h3⟩
  ·exact .inl rfl
 refine callsIn_of_wp_marks (F := Fence.wide) hf hb trivial (wpIn_mono (h _ _ _ _ _ _ _ _ _ .refl s0) ?_)
 rintro e a' w' ⟨G', F', st', s', S', he, rs, hrs, rfl, hn⟩
 have g : Grown F w F' w' := ⟨S'.size, fun b hb => S'.out b hb (fun ⟨_, _, _, h, _⟩ => by cases h), S'.F1, (fun b o h => by
  rcases S'.F3 b o h with h | h | ⟨_, _, _, h, _⟩
  ·exact .inl h
  ·exact .inr h
  ·cases h), s'.sim.mem.inF, S'.kept⟩
 have hfin : ∀ (Ds : List Nat) (w2 : World), Ds.Nodup → (∀ D ∈ Ds, w.heap.size ≤ D ∧ w2.heap[D]? = some (.deferred (some []))) → Grown F w F' w2 → SimA P ⟨0, nv, hid, fn.ntmps⟩ ⟨w.heap.size, none, false⟩ G' F' st' { a' with defers := [] } w2 →
   LeavesInM Fence.wide 0 P fn a'.tmps (fun e w' => ∃ v F', e = .returned v ∧ Imm F' w' v (mkRes rs) ∧ Grown F w F' w') (Ds.map dmark) .returning w2 := by
  intro Ds
  induction Ds with
  | nil =>
    intro w2 _ _ g s2
    obtain ⟨u, h1, h2⟩ := results_ok s2 hrs
    exact ⟨u, h1, u, F', rfl, h2.imm_of hn, g⟩
  | cons D Ds ih =>
    intro w2 hnd hD g s2
    obtain ⟨h1, h2⟩ := hD D List.mem_cons_self
    have hnd := List.nodup_cons.1 hnd
    have hk : ∀ (b : Nat) (o : Obj), w2.heap[b]? = some o → isData o = true → (w2.putObj D (.deferred none)).heap[b]? = some o := fun b o hb ho => by
     rw [World.putObj_heap_other (by rintro rfl; rw [h2] at hb; cases hb; cases ho)]; exact hb
    refine ⟨(by intro h; cases h), .inl ⟨D, _, rfl, run_takeDeferred h2, ih _ hnd.2 (fun D' hD' => ?_) ⟨by rw [World.putObj_size]; exact g.size, fun b hb => ?_, g.F1, g.F3, fun b o h => by rw [World.putObj_size]; exact g.inF b o h, g.kept.trans (.set h2 rfl rfl)⟩ ?_⟩⟩
    ·refine ⟨(hD D' (List.mem_cons_of_mem _ hD')).1, ?_⟩
     rw [World.putObj_heap_other (by rintro rfl; exact hnd.1 hD')]; exact (hD D' (List.mem_cons_of_mem _ hD')).2
    ·rw [World.putObj_heap_other (by omega)]; exact g.old b hb
    ·exact ⟨⟨s2.sim.mem.keepData hk (by rw [World.putObj_size]; exact Nat.le_refl _), fun k => (s2.sim.slots k).keepData hk, s2.sim.size⟩, s2.fresh, Marks.none _ _ _ (by rw [World.putObj_size]; exact g.size)⟩
 obtain ⟨⟨Ds, hDs, hnd, hD⟩, _⟩ := s'.defers
 have hDs : a'.defers = Ds.map dmark := hDs
 have := hfin Ds w' hnd hD g ⟨⟨s'.sim.mem, s'.sim.slots, s'.sim.size⟩, s'.fresh, Marks.none _ _ _ g.size⟩
 rw [← hDs] at this
 rcases he with rfl | rfl
 ·exact this
 ·exact this
def frzF (F : Nat → Nat → Prop) (b n : Nat) : Nat → Nat → Prop := fun b' o => F b' o ∨ (b' = b ∧ o < n)
def frzK (F : Nat → Nat → Prop) (b ko n : Nat) : Nat → Nat → Prop := fun b' o => F b' o ∨ (b' = b ∧ ko ≤ o ∧ o < ko + n)
theorem simM_frz {nx i esz : Nat} {es : List (List AV)} {fz : Bool} (hm : SimM P G F M nx w) (ho : mlook M i = some (.arr esz es fz)) (hn : es.all AV.norefs = true) :
  ∃ F', SimM P G F' (mset M i (.arr esz es true)) nx w ∧ Step All G F M w G F' (mset M i (.arr esz es true)) w := by
 have hold := (hm.obj i _ ho).2
 have hstep : ∀ F' : Nat → Nat → Prop, (∀ b o, F b o → F' b o) → (∀ b o, F' b o → F b o ∨ Owned G M b) → Step All G F M w G F' (mset M i (.arr esz es true)) w := fun F' h1 h2 =>
  { kept := .refl
    size := Nat.le_refl _
    out := fun _ _ _ => rfl
    F1 := h1
    F2 := fun _ _ _ => rfl
    F3 := fun b o h => by rcases h2 b o h with h | h; exact .inl h; exact .inr (.inr h)
    own := fun b ⟨id, o, v, h3, h4, h5⟩ => by
     rw [mlook_mset] at h3
     by_cases hi : id = i
     ·subst hi; exact .inr ⟨id, _, v, ho, h4, h5⟩
     ·rw [if_neg hi] at h3; exact .inr ⟨id, o, v, h3, h4, h5⟩
    some' := fun _ _ h => h
    same := fun _ _ _ h _ => h
    keep := fun id o' _ hG h3 => by
     obtain ⟨v, hv⟩ := Option.ne_none_iff_exists'.1 hG
     rw [mlook_mset] at h3
     by_cases hi : id = i
     ·subst hi
      rw [if_pos rfl] at h3; cases h3
      exact ⟨_, v, v, ho, hv, hv, ⟨rfl, .inl ⟨rfl, rfl⟩⟩⟩
     ·rw [if_neg hi] at h3
      exact ⟨o', v, v, h3, hv, hv, objKeep.refl v o'⟩ }
 have hinj : ∀ id id' v v' b, mlook (mset M i (.arr esz es true)) id ≠ none → mlook (mset M i (.arr esz es true)) id' ≠ none → G id = some v → G id' = some v' → blkOf v = some b → blkOf v' = some b → id = id' := by
  intro id id' v v' b h1 h2
  refine hm.inj id id' v v' b ?_ ?_
  ·rw [mlook_mset] at h1; by_cases hi : id = i
   ·subst hi; rw [ho]; simp
   ·rwa [if_neg hi] at h1
  ·rw [mlook_mset] at h2; by_cases hi : id' = i
   ·subst hi; rw [ho]; simp
   ·rwa [if_neg hi] at h2
 rcases hold with ⟨h0, base, h1, hsp⟩ | ⟨b, ko, c, cc, e, h1, h2, h3, h4, h5, h6, h7, h8, h9⟩
 ·have S := hstep F (fun _ _ h => h) (fun _ _ h => .inl h)
  refine ⟨F, simM_gen hm S (fun id o' h => ?_) hinj hm.inF, S⟩
  rw [mlook_mset] at h
  by_cases hi : id = i
  ·subst hi; rw [if_pos rfl] at h; cases h
   exact ⟨(hm.obj id _ ho).1, .inl (.inl ⟨h0, base, h1, hsp⟩)⟩
  ·rw [if_neg hi] at h
   exact ⟨(hm.obj id _ h).1, .inr ⟨h, rfl, fun b v hG hb => ⟨rfl, fun _ h => h⟩⟩⟩
 ·have hbk : blkOf (.slice (some ⟨b, ko, none⟩) es.length c) = some b := by simp [blkOf, h2]
  have S := hstep (frzK F b ko (es.length * esz)) (fun _ _ h => .inl h) (fun b' o h => by
   rcases h with h | ⟨rfl, _⟩
   ·exact .inl h
   ·exact .inr ⟨i, _, _, ho, h1, hbk⟩)
  refine ⟨_, simM_gen hm S (fun id o' h => ?_) hinj (fun b' o h => by
   rcases h with h | ⟨rfl, _⟩
   ·exact hm.inF _ _ h
   ·exact (Array.getElem?_eq_some_iff.1 h3).1), S⟩
  rw [mlook_mset] at h
  by_cases hi : id = i
  ·subst hi; rw [if_pos rfl] at h; cases h
   refine ⟨(hm.obj id _ ho).1, .inl (.inr ⟨b, ko, c, cc, e, h1, h2, h3, h4, h5, h6, fun k j hk hj => ?_, fun o h => ?_, fun _ => ⟨all_norefs hn, fun o h => .inr ⟨rfl, Nat.le_add_right _ _, Nat.add_lt_add_left h _⟩⟩⟩)⟩
   ·obtain ⟨v, hv, h1c, hr⟩ := h7 k j hk hj
    exact ⟨v, hv, h1c, hr.step S (fun _ _ => trivial)⟩
   ·rcases h with h | ⟨_, h⟩
    ·exact ⟨rfl, (h8 o h).2⟩
    ·exact ⟨rfl, h⟩
  ·rw [if_neg hi] at h
   refine ⟨(hm.obj id _ h).1, .inr ⟨h, rfl, fun b' v hG hb => ⟨rfl, fun o h' => ?_⟩⟩⟩
   rcases h' with h' | ⟨rfl, _⟩
   ·exact h'
   ·exact absurd (hm.inj id i _ _ _ (by rw [h]; simp) (by rw [ho]; simp) hG h1 hb hbk) hi
mutual
def AV.deep (σ : AV → AV) : AV → AV
 | .ag cs => .ag (AV.deeps σ cs)
 | .tu cs => .tu (AV.deeps σ cs)
 | .ifc t v => .ifc t (v.deep σ)
 | .fn f cs => .fn f (AV.deeps σ cs)
 | .opt b v => .opt b (v.deep σ)
 | v => σ v
def AV.deeps (σ : AV → AV) : List AV → List AV
 | [] => []
 | c :: cs => c.deep σ :: AV.deeps σ cs
end
theorem deeps_eq (σ : AV → AV) : ∀ cs : List AV, AV.deeps σ cs = cs.map (AV.deep σ)
 | [] => rfl
 | c :: cs => by rw [AV.deeps, deeps_eq σ cs]; rfl
def mapSlots (f : AV → AV) (l : List (Nat × AV)) : List (Nat × AV) := l.map fun p => (p.1, f p.2)
theorem alook_map {f : AV → AV} (hj : f .junk = .junk) : ∀ (l : List (Nat × AV)) (k : Nat), alook (mapSlots f l) k = f (alook l k)
 | [], _ => hj.symm
 | (i, v) :: l, k => by
   simp only [mapSlots, List.map_cons, alook]
   split
   ·rfl
   ·exact alook_map hj l k
def St.map (f : AV → AV) (st : St) : St := ⟨mapSlots f st.vars, mapSlots f st.tmps, st.mem, st.nx⟩
theorem St.get_map {f : AV → AV} (hj : f .junk = .junk) (k : Nat) : (st.map f).get fr k = f (st.get fr k) := by
 unfold St.get St.map
 split
 ·exact alook_map hj _ k
 ·exact alook_map hj _ k
theorem Imm.deep {σ : AV → AV} {v : Value} {y : AV} (h : Imm F w v y) (hσ : ∀ v y, Imm F w v y → RV G F M w v (σ y)) : RV G F M w v (y.deep σ) := by
 induction h with
 | ag vs cs hl _ ih => exact .ag vs _ (by rw [deeps_eq]; simpa using hl) fun i h1 h2 => by simp only [deeps_eq, List.getElem_map]; exact ih i h1 _
 | tu vs cs hl _ ih => exact .tu vs _ (by rw [deeps_eq]; simpa using hl) fun i h1 h2 => by simp only [deeps_eq, List.getElem_map]; exact ih i h1 _
 | ifc t v x _ ih => exact .ifc t v _ ih
 | fn f vs cs hl _ ih => exact .fn f vs _ (by rw [deeps_eq]; simpa using hl) fun i h1 h2 => by simp only [deeps_eq, List.getElem_map]; exact ih i h1 _
 | opt b v x _ h' ih => exact .opt b v _ ih h'
 | sc v => exact hσ _ _ (.sc v)
 | nil cap hc => exact hσ _ _ (.nil cap hc)
 | sz a cap hc => exact hσ _ _ (.sz a cap hc)
 | sl b off c esz es cap vs hc hcap hes hF hi _ => exact hσ _ _ (.sl b off c esz es cap vs hc hcap hes hF hi)
 | ia b off cs vs hF hi _ => exact hσ _ _ (.ia b off cs vs hF hi)
 | junk v => exact hσ _ _ (.junk v)
theorem RV.deep {σ : AV → AV} {v : Value} {y : AV} (h : RV G F M w v y) (hσ : ∀ v y, RV G F M w v y → RV G F M w v (σ y)) : RV G F M w v (y.deep σ) := by
 induction h with
 | imm h => exact h.deep fun v y h => hσ v y (.imm h)
 | ag vs cs hl _ ih => exact .ag vs _ (by rw [deeps_eq]; simpa using hl) fun i h1 h2 => by simp only [deeps_eq, List.getElem_map]; exact ih i h1 _
 | tu vs cs hl _ ih => exact .tu vs _ (by rw [deeps_eq]; simpa using hl) fun i h1 h2 => by simp only [deeps_eq, List.getElem_map]; exact ih i h1 _
 | ifc t v x _ ih => exact .ifc t v _ ih
 | fn f vs cs hl _ ih => exact .fn f vs _ (by rw [deeps_eq]; simpa using hl) fun i h1 h2 => by simp only [deeps_eq, List.getElem_map]; exact ih i h1 _
 | opt b v x _ h' ih => exact .opt b v _ ih h'
 | rf id off b h => exact hσ _ _ (.rf id off b h)
 | tl id len nl v hG h => exact hσ _ _ (.tl id len nl v hG h)
 | tv id n off len cap v hG h => exact hσ _ _ (.tv id n off len cap v hG h)
 | ea id n i off v hG h => exact hσ _ _ (.ea id n i off v hG h)
 | mp id b h => exact hσ _ _ (.mp id b h)
theorem SimA.map {f : AV → AV} (hj : f .junk = .junk) (hf : ∀ v y, RV G F st.mem w v y → RV G F st.mem w v (f y)) (s : SimA P fr ds G F st a w) : SimA P fr ds G F (st.map f) a w :=
 ⟨⟨s.sim.mem, fun k => by rw [St.get_map hj]; exact hf _ _ (s.sim.slots k), s.sim.size⟩, s.fresh, s.defers⟩
def St.frz (i : Nat) (st : St) : Option St :=
 match mlook st.mem i with
 | some (.arr esz es _) => if es.all AV.norefs = true then some ((⟨st.vars, st.tmps, mset st.mem i (.arr esz es true), st.nx⟩ : St).map (AV.deep (snap (mset st.mem i (.arr esz es true))))) else none
 | _ => none
theorem SimA.frz {i : Nat} {st' : St} (s : SimA P fr ds G F st a w) (h : st.frz i = some st') : ∃ F', SimA P fr ds G F' st' a w ∧ Step (· < fr.base) G F st.mem w G F' st'.mem w := by
 unfold St.frz at h
 split at h
 ·rename_i esz es fz ho
  split at h
  ·rename_i hn
   cases h
   obtain ⟨F', hm', S'⟩ := simM_frz s.sim.mem ho hn
   refine ⟨F', ?_, S'.mono fun _ _ => trivial⟩
   have s1 : SimA P fr ds G F' ⟨st.vars, st.tmps, mset st.mem i (.arr esz es true), st.nx⟩ a w := ⟨⟨hm', fun k => (s.sim.slots k).step S' (fun _ _ => trivial), s.sim.size⟩, s.fresh, s.defers⟩
   exact s1.map rfl fun v y h => h.deep fun v y h => h.snap s1.sim.mem
  ·cases h
 ·cases h
theorem EvC.frz (i : Nat) {st' : St} (h : st.frz i = some st') (hc : EvC P fr ro ds c st' Q) : EvC P fr ro ds c st Q :=
 EvC.conv (fun _ _ _ _ s => let ⟨F', s', S'⟩ := s.frz h; ⟨_, F', s', S'⟩) hc
def St.fz (i : Nat) (st : St) : Option St :=
 match mlook st.mem i with
 | some (.arr esz es _) => if es.all AV.norefs = true then some ⟨st.vars, st.tmps, mset st.mem i (.arr esz es true), st.nx⟩ else none
 | _ => none
theorem SimA.fz {i : Nat} {st' : St} (s : SimA P fr ds G F st a w) (h : st.fz i = some st') : ∃ F', SimA P fr ds G F' st' a w ∧ Step (· < fr.base) G F st.mem w G F' st'.mem w := by
 unfold St.fz at h
 split at h
 ·rename_i esz es fz ho
  split at h
  ·rename_i hn
   cases h
   obtain ⟨F', hm', S'⟩ := simM_frz s.sim.mem ho hn
   exact ⟨F', ⟨⟨hm', fun k => (s.sim.slots k).step S' (fun _ _ => trivial), s.sim.size⟩, s.fresh, s.defers⟩, S'.mono fun _ _ => trivial⟩
  ·cases h
 ·cases h
theorem EvC.fz (i : Nat) {st' : St} (h : st.fz i = some st') (hc : EvC P fr ro ds c st' Q) : EvC P fr ro ds c st Q :=
 EvC.conv (fun _ _ _ _ s => let ⟨F', s', S'⟩ := s.fz h; ⟨_, F', s', S'⟩) hc
theorem XR.frz (i : Nat) {st' : St} (h : st.frz i = some st') (hc : XR P fr ro ds ops l st' Q) : XR P fr ro ds ops l st Q :=
 fun _ _ _ _ _ _ _ _ S s => let ⟨_, s', S'⟩ := s.frz h; hc _ _ _ _ _ _ _ _ (S.trans S') s'
end
def rlook : List (Nat × Nat) → Nat → Option Nat
 | [], _ => none
 | (i, j) :: K, k => if k = i then some j else rlook K k
def blook : List (Nat × Nat) → Nat → Option Nat
 | [], _ => none
 | (i, j) :: K, k => if k = j then some i else blook K k
def renLeaf (K : List (Nat × Nat)) : AV → AV
 | .rf i o => match rlook K i with
   | some j => .rf j o
   | none => .junk
 | .tl i n b => match rlook K i with
   | some j => .tl j n b
   | none => .junk
 | .tv i n off len cap => match rlook K i with
   | some j => .tv j n off len cap
   | none => .junk
 | .ea i n k off => match rlook K i with
   | some j => .ea j n k off
   | none => .junk
 | .mp i => match rlook K i with
   | some j => .mp j
   | none => .junk
 | v => v
def AV.ren (K : List (Nat × Nat)) (x : AV) : AV := if x.noref = true then x else x.deep (renLeaf K)
def renCells (K : List (Nat × Nat)) (cs : List AV) : List AV := if AV.norefs cs = true then cs else cs.map (AV.ren K)
def RObj.ren (K : List (Nat × Nat)) : RObj → RObj
 | .cells cs => .cells (renCells K cs)
 | .arr esz es fz => if es.all AV.norefs = true then .arr esz es fz else .arr esz (es.map fun c => c.map (AV.ren K)) fz
 | .map kt es => if es.all (fun p => p.2.noref) = true then .map kt es else .map kt (es.map fun p => (p.1, p.2.ren K))
def renMem (M : Mem) (K : List (Nat × Nat)) : List (Nat × Nat) → Mem
 | [] => []
 | (i, j) :: K' => match mlook M i with
   | some o => (j, o.ren K) :: renMem M K K'
   | none => renMem M K K'
def gcVars (K : List (Nat × Nat)) (vars : List (Nat × AV)) : List Nat → List (Nat × AV)
 | [] => []
 | k :: L => (k, (alook vars k).ren K) :: gcVars K vars L
def St.gc (L : List Nat) (K : List (Nat × Nat)) (nx : Nat) (st : St) : St := ⟨gcVars K st.vars L, [], renMem st.mem K K, nx⟩
def gcOk (base nx : Nat) : List (Nat × Nat) → Bool
 | [] => decide (base ≤ nx)
 | (i, j) :: K => decide (j < nx) && (decide (i = j) || (decide (base ≤ i) && decide (base ≤ j))) && (blook K j == none) && (rlook K i == none) && gcOk base nx K
section
variable {P : Program} {fr : Fr} {ro : Option Nat} {ds : DS} {st st' : St} {Q Q' : Exit → St → Prop} {G G' : Nat → Option Value} {F F' : Nat → Nat → Prop} {a : Act} {w w' : World} {x y c : Code}
 {M : Mem} {ops : Array Oper} {l rest : List Oper} {o : Oper} {K : List (Nat × Nat)} {base nx : Nat}
theorem gcOk_base : ∀ {K : List (Nat × Nat)}, gcOk base nx K = true → base ≤ nx
 | [], h => by simpa [gcOk] using h
 | (i, j) :: K, h => by simp only [gcOk, Bool.and_eq_true] at h; exact gcOk_base h.2
theorem blook_mem : ∀ {K : List (Nat × Nat)} {i j : Nat}, (i, j) ∈ K → blook K j ≠ none
 | (i', j') :: K, i, j, h => by
   simp only [blook]
   split
   ·simp
   ·rename_i hj
    rcases List.mem_cons.1 h with h | h
    ·cases h; exact absurd rfl hj
    ·exact blook_mem h
theorem rlook_ne : ∀ {K : List (Nat × Nat)} {i j : Nat}, (i, j) ∈ K → rlook K i ≠ none
 | (i', j') :: K, i, j, h => by
   simp only [rlook]
   split
   ·simp
   ·rename_i hj
    rcases List.mem_cons.1 h with h | h
    ·cases h; exact absurd rfl hj
    ·exact rlook_ne h
theorem gcOk_mem : ∀ {K : List (Nat × Nat)}, gcOk base nx K = true → ∀ i j, (i, j) ∈ K → j < nx ∧ (i = j ∨ (base ≤ i ∧ base ≤ j)) ∧ blook K j = some i ∧ rlook K i = some j
 | (i', j') :: K, h, i, j, hm => by
   simp only [gcOk, Bool.and_eq_true, decide_eq_true_eq, Bool.or_eq_true, beq_iff_eq] at h
   obtain ⟨⟨⟨⟨h1, h2⟩, h3⟩, h3'⟩, h4⟩ := h
   rcases List.mem_cons.1 hm with hm' | hm'
   ·cases hm'
    exact ⟨h1, h2, by simp [blook], by simp [rlook]⟩
   ·obtain ⟨h5, h6, h7, h8⟩ := gcOk_mem h4 i j hm'
    refine ⟨h5, h6, ?_, ?_⟩
    ·simp only [blook]
     rw [if_neg (fun hj => blook_mem hm' (by rw [hj]; exact h3))]
     exact h7
    ·simp only [rlook]
     rw [if_neg (fun hj => rlook_ne hm' (by rw [hj]; exact h3'))]
     exact h8
theorem rlook_mem : ∀ {K : List (Nat × Nat)} {i j : Nat}, rlook K i = some j → (i, j) ∈ K
 | (i', j') :: K, i, j, h => by
   simp only [rlook] at h
   split at h
   ·rename_i hi; cases h; subst hi; exact List.mem_cons_self
   ·exact List.mem_cons_of_mem _ (rlook_mem h)
theorem blook_mem' : ∀ {K : List (Nat × Nat)} {i j : Nat}, blook K j = some i → (i, j) ∈ K
 | (i', j') :: K, i, j, h => by
   simp only [blook] at h
   split at h
   ·rename_i hi; cases h; subst hi; exact List.mem_cons_self
   ·exact List.mem_cons_of_mem _ (blook_mem' h)
def gcG (base : Nat) (K : List (Nat × Nat)) (G : Nat → Option Value) (j : Nat) : Option Value :=
 if j < base then G j else match blook K j with
  | some i => G i
  | none => none
theorem gcG_ren (hk : gcOk base nx K = true) {i j : Nat} (h : (i, j) ∈ K) : gcG base K G j = G i := by
 obtain ⟨_, h2, h3, _⟩ := gcOk_mem hk i j h
 unfold gcG
 split
 ·rcases h2 with h2 | ⟨_, h2⟩
  ·rw [h2]
  ·omega
 ·rw [h3]
theorem renMem_look (hk : gcOk base nx K = true) : ∀ {K' : List (Nat × Nat)}, (∀ p ∈ K', p ∈ K) → ∀ {j : Nat} {o' : RObj}, mlook (renMem M K K') j = some o' → ∃ i o, (i, j) ∈ K ∧ mlook M i = some o ∧ o' = o.ren K
 | [], _, j, o', h => by cases h
 | (i, j') :: K', hs, j, o', h => by
   simp only [renMem] at h
   split at h
   ·rename_i o ho
    simp only [mlook] at h
    split at h
    ·rename_i hj; cases h; subst hj
     exact ⟨i, o, hs _ List.mem_cons_self, ho, rfl⟩
    ·exact renMem_look hk (fun p hp => hs p (List.mem_cons_of_mem _ hp)) h
   ·exact renMem_look hk (fun p hp => hs p (List.mem_cons_of_mem _ hp)) h
theorem arr_ren {esz : Nat} {es' : List (List AV)} {fz : Bool} {o : RObj} (h : RObj.arr esz es' fz = o.ren K) : ∃ es, o = .arr esz es fz ∧ es'.length = es.length := by
 cases o with
 | cells cs => cases h
 | arr e es f =>
   simp only [RObj.ren] at h
   split at h
   ·cases h; exact ⟨_, rfl, rfl⟩
   ·cases h; exact ⟨_, rfl, by simp⟩
 | map kt es =>
   simp only [RObj.ren] at h
   split at h <;> cases h
theorem leaf_rv (hk : gcOk base nx K = true) {v : Value} {y : AV} (hl : (∃ i o, y = .rf i o) ∨ (∃ i n b, y = .tl i n b) ∨ (∃ i n off len cap, y = .tv i n off len cap) ∨ (∃ i n k off, y = .ea i n k off) ∨ ∃ i, y = .mp i) (h : RV G F M w v y) :
  RV (gcG base K G) F (renMem M K K) w v (Avl.renLeaf K y) := by
 have arr : ∀ {i j esz es fz}, (i, j) ∈ K → mlook (renMem M K K) j = some (.arr esz es fz) → ∃ es', mlook M i = some (.arr esz es' fz) ∧ es.length = es'.length := by
  intro i j esz es fz hij ho
  obtain ⟨i', o, h1, h2, h3⟩ := renMem_look hk (fun _ h => h) ho
  have e1 := (gcOk_mem hk i j hij).2.2.1
  have e2 := (gcOk_mem hk i' j h1).2.2.1
  rw [e1] at e2; cases e2
  obtain ⟨es', rfl, h4⟩ := arr_ren h3
  exact ⟨es', h2, h4⟩
 rcases hl with ⟨i, o, rfl⟩ | ⟨i, n, b, rfl⟩ | ⟨i, n, off, len, cap, rfl⟩ | ⟨i, n, k, off, rfl⟩ | ⟨i, rfl⟩
 ·simp only [Avl.renLeaf]
  split
  ·rename_i j hj
   obtain ⟨b, hG, rfl⟩ := h.inv_rf
   exact .rf j o b (by rw [gcG_ren hk (rlook_mem hj)]; exact hG)
  ·exact .imm (.junk _)
 ·simp only [Avl.renLeaf]
  split
  ·rename_i j hj
   have hij := rlook_mem hj
   obtain ⟨hG, hh⟩ := h.inv_tl
   refine .tl j n b v (by rw [gcG_ren hk hij]; exact hG) fun esz es fz ho => ?_
   obtain ⟨es', h1, h2⟩ := arr hij ho
   rw [gcG_ren hk hij, h2]
   exact hh _ _ _ h1
  ·exact .imm (.junk _)
 ·simp only [Avl.renLeaf]
  split
  ·rename_i j hj
   have hij := rlook_mem hj
   obtain ⟨hG, hh⟩ := h.inv_tv
   refine .tv j n off len cap v (by rw [gcG_ren hk hij]; exact hG) fun esz es fz ho => ?_
   obtain ⟨es', h1, h2⟩ := arr hij ho
   rw [gcG_ren hk hij, h2]
   exact hh _ _ _ h1
  ·exact .imm (.junk _)
 ·simp only [Avl.renLeaf]
  split
  ·rename_i j hj
   have hij := rlook_mem hj
   obtain ⟨hG, hh⟩ := h.inv_ea
   refine .ea j n k off v (by rw [gcG_ren hk hij]; exact hG) fun esz es fz ho => ?_
   obtain ⟨es', h1, h2⟩ := arr hij ho
   rw [gcG_ren hk hij, h2]
   exact hh _ _ _ h1
  ·exact .imm (.junk _)
 ·simp only [Avl.renLeaf]
  split
  ·rename_i j hj
   obtain ⟨b, hG, rfl⟩ := h.inv_mp
   exact .mp j b (by rw [gcG_ren hk (rlook_mem hj)]; exact hG)
  ·exact .imm (.junk _)
theorem RV.deepRen (hk : gcOk base nx K = true) {v : Value} {y : AV} (h : RV G F M w v y) : RV (gcG base K G) F (renMem M K K) w v (y.deep (Avl.renLeaf K)) := by
 induction h with
 | imm h =>
  refine h.deep ?_
  intro v y h
  cases h with
  | sc v => exact .imm (.sc v)
  | nil cap hc => exact .imm (.nil cap hc)
  | sz a cap hc => exact .imm (.sz a cap hc)
  | sl b off c esz es cap vs hc hcap hes hF hi => exact .imm (.sl b off c esz es cap vs hc hcap hes hF hi)
  | ia b off cs vs hF hi => exact .imm (.ia b off cs vs hF hi)
  | junk v => exact .imm (.junk v)
  | ag vs cs hl h => exact .imm (.ag vs cs hl h)
  | tu vs cs hl h => exact .imm (.tu vs cs hl h)
  | ifc t v x h => exact .imm (.ifc t v x h)
  | fn f vs cs hl h => exact .imm (.fn f vs cs hl h)
  | opt b v x h h' => exact .imm (.opt b v x h h')
 | ag vs cs hl _ ih => exact .ag vs _ (by rw [deeps_eq]; simpa using hl) fun i h1 h2 => by simp only [deeps_eq, List.getElem_map]; exact ih i h1 _
 | tu vs cs hl _ ih => exact .tu vs _ (by rw [deeps_eq]; simpa using hl) fun i h1 h2 => by simp only [deeps_eq, List.getElem_map]; exact ih i h1 _
 | ifc t v x _ ih => exact .ifc t v _ ih
 | fn f vs cs hl _ ih => exact .fn f vs _ (by rw [deeps_eq]; simpa using hl) fun i h1 h2 => by simp only [deeps_eq, List.getElem_map]; exact ih i h1 _
 | opt b v x _ h' ih => exact .opt b v _ ih h'
 | rf id off b h => exact leaf_rv hk (.inl ⟨_, _, rfl⟩) (.rf id off b h)
 | tl id len nl v hG h => exact leaf_rv hk (.inr (.inl ⟨_, _, _, rfl⟩)) (.tl id len nl v hG h)
 | tv id n off len cap v hG h => exact leaf_rv hk (.inr (.inr (.inl ⟨_, _, _, _, _, rfl⟩))) (.tv id n off len cap v hG h)
 | ea id n i off v hG h => exact leaf_rv hk (.inr (.inr (.inr (.inl ⟨_, _, _, _, rfl⟩)))) (.ea id n i off v hG h)
 | mp id b h => exact leaf_rv hk (.inr (.inr (.inr (.inr ⟨_, rfl⟩)))) (.mp id b h)
theorem RV.ren (hk : gcOk base nx K = true) {v : Value} {y : AV} (h : RV G F M w v y) : RV (gcG base K G) F (renMem M K K) w v (y.ren K) := by
 unfold AV.ren
 split
 ·rename_i hn; exact .imm (h.imm_of hn)
 ·exact h.deepRen hk
theorem noref_keep {M' : Mem} {v : Value} {y : AV} (h : RV G F M w v y) (hn : y.noref = true) : RV G' F M' w v y := .imm (h.imm_of hn)
theorem ren_norefs_len (cs : List AV) : (renCells K cs).length = cs.length := by unfold renCells; split <;> simp
theorem ObjOk.ren {i j : Nat} {o : RObj} (hk : gcOk base nx K = true) (hij : (i, j) ∈ K) (h : ObjOk P G F M w i o) : ObjOk P (gcG base K G) F (renMem M K K) w j (o.ren K) := by
 have hg := gcG_ren (G := G) hk hij
 cases o with
 | cells cs =>
   obtain ⟨b, c, e, h1, h2, h3, h4, h5⟩ := h
   refine ⟨b, c, e, by rw [hg]; exact h1, h2, by rw [ren_norefs_len]; exact h3, fun k hk1 hk2 => ?_, h5⟩
   unfold renCells at hk2 ⊢
   split
   ·rename_i hn
    have := h4 k hk1 (by rw [if_pos hn] at hk2; exact hk2)
    exact noref_keep this (norefs_get _ hn k _)
   ·simp only [List.getElem_map]
    exact (h4 k hk1 _).ren hk
 | arr esz es fz =>
   by_cases hn : es.all AV.norefs = true
   ·have e : (RObj.arr esz es fz).ren K = .arr esz es fz := by simp only [RObj.ren, hn, if_true]
    rw [e]
    rcases h with ⟨h0, base', h1, hsp⟩ | ⟨b, ko, c, cc, e, h1, h2, h3, h4, h5, h6, h7, h8, h9⟩
    ·exact .inl ⟨h0, base', by rw [hg]; exact h1, hsp⟩
    ·refine .inr ⟨b, ko, c, cc, e, by rw [hg]; exact h1, h2, h3, h4, h5, h6, fun k j hk hj => ?_, h8, h9⟩
     obtain ⟨v, h10, h11, h12⟩ := h7 k j hk hj
     exact ⟨v, h10, h11, noref_keep h12 (all_norefs hn k j hk hj)⟩
   ·have e : (RObj.arr esz es fz).ren K = .arr esz (es.map fun c => c.map (AV.ren K)) fz := by simp only [RObj.ren, hn]; rfl
    rw [e]
    rcases h with ⟨h0, base', h1, hsp⟩ | ⟨b, ko, c, cc, e, h1, h2, h3, h4, h5, h6, h7, h8, h9⟩
    ·exact .inl ⟨by rw [h0]; rfl, base', by rw [hg]; exact h1, hsp⟩
    ·refine .inr ⟨b, ko, c, cc, e, by rw [hg]; simpa using h1, h2, h3, by simpa using h4, h5, fun k hk => by simpa using h6 k (by simpa using hk), fun k j hk hj => ?_, by simpa using h8, fun hz => ?_⟩
     ·simp only [List.getElem_map, List.length_map] at hj hk ⊢
      obtain ⟨v, h10, h11, h12⟩ := h7 k j hk hj
      exact ⟨v, h10, h11, h12.ren ‹_›⟩
     ·obtain ⟨k1, k2⟩ := h9 hz
      exfalso
      refine hn ?_
      rw [List.all_eq_true]
      intro c hc
      obtain ⟨n, hn1, rfl⟩ := List.getElem_of_mem hc
      have : ∀ (l : List AV), (∀ i (h : i < l.length), l[i].noref = true) → AV.norefs l = true := by
       intro l
       induction l with
       | nil => intro _; rfl
       | cons y ys ih => intro hh; simp only [AV.norefs, Bool.and_eq_true]; exact ⟨hh 0 (by simp), ih fun i hi => hh (i + 1) (by simpa using hi)⟩
      exact this _ fun i hi => k1 n i hn1 hi
 | map kt es =>
   obtain ⟨b, ents, clock, h1, h2, h3, h4, h5⟩ := h
   by_cases hn : es.all (fun p => p.2.noref) = true
   ·have e : (RObj.map kt es).ren K = .map kt es := by simp only [RObj.ren, hn, if_true]
    rw [e]
    refine ⟨b, ents, clock, by rw [hg]; exact h1, h2, h3, fun k hk1 hk2 => ?_, h5⟩
    obtain ⟨h6, h7, h8⟩ := h4 k hk1 hk2
    refine ⟨h6, noref_keep h7 ?_, h8⟩
    rw [List.all_eq_true] at hn
    exact hn _ (List.getElem_mem hk2)
   ·have e : (RObj.map kt es).ren K = .map kt (es.map fun p => (p.1, p.2.ren K)) := by simp only [RObj.ren, hn]; rfl
    rw [e]
    refine ⟨b, ents, clock, by rw [hg]; exact h1, h2, ⟨by simpa using h3.1, h3.2⟩, fun k hk1 hk2 => ?_, h5⟩
    simp only [List.getElem_map]
    simp only [List.length_map] at hk2
    obtain ⟨h6, h7, h8⟩ := h4 k hk1 hk2
    exact ⟨h6, h7.ren hk, h8⟩
theorem objKeep.ren (v : Value) (o : RObj) : objKeep v v o (o.ren K) := by
 cases o with
 | cells cs => exact rfl
 | arr esz es fz =>
   by_cases hn : es.all AV.norefs = true
   ·have e : (RObj.arr esz es fz).ren K = .arr esz es fz := by simp only [RObj.ren, hn, if_true]
    rw [e]; exact objKeep.refl _ _
   ·have e : (RObj.arr esz es fz).ren K = .arr esz (es.map fun c => c.map (AV.ren K)) fz := by simp only [RObj.ren, hn]; rfl
    rw [e]; exact ⟨rfl, .inl ⟨by simp, rfl⟩⟩
 | map kt es =>
   by_cases hn : es.all (fun p => p.2.noref) = true
   ·have e : (RObj.map kt es).ren K = .map kt es := by simp only [RObj.ren, hn, if_true]
    rw [e]; exact objKeep.refl _ _
   ·have e : (RObj.map kt es).ren K = .map kt (es.map fun p => (p.1, p.2.ren K)) := by simp only [RObj.ren, hn]; rfl
    rw [e]; exact ⟨rfl, rfl⟩
theorem alook_gc (vars : List (Nat × AV)) : ∀ (L : List Nat) (k : Nat), alook (gcVars K vars L) k = .junk ∨ alook (gcVars K vars L) k = (alook vars k).ren K
 | [], _ => .inl rfl
 | j :: L, k => by
   simp only [gcVars, alook]
   split
   ·rename_i h; subst h; exact .inr rfl
   ·exact alook_gc vars L k
theorem SimA.gc {L : List Nat} (hk : gcOk fr.base nx K = true) (s : SimA P fr ds G F st a w) :
  SimA P fr ds (gcG fr.base K G) F (st.gc L K nx) a w ∧ Step (· < fr.base) G F st.mem w (gcG fr.base K G) F (st.gc L K nx).mem w := by
 refine ⟨⟨⟨⟨fun id o h => ?_, fun id id' v v' b h1 h2 h3 h4 h5 h6 => ?_, s.sim.mem.inF, s.sim.mem.gl⟩, fun k => ?_, s.sim.size⟩, fun j hj => ?_, s.defers⟩, ?_⟩
 ·obtain ⟨i, o', h1, h2, rfl⟩ := renMem_look hk (fun _ h => h) h
  exact ⟨(gcOk_mem hk _ _ h1).1, (s.sim.mem.obj i o' h2).2.ren hk h1⟩
 ·obtain ⟨o, h1⟩ := Option.ne_none_iff_exists'.1 h1
  obtain ⟨o', h2⟩ := Option.ne_none_iff_exists'.1 h2
  obtain ⟨i, p, k1, k2, _⟩ := renMem_look hk (fun _ h => h) h1
  obtain ⟨i', p', l1, l2, _⟩ := renMem_look hk (fun _ h => h) h2
  rw [gcG_ren hk k1] at h3
  rw [gcG_ren hk l1] at h4
  have e := s.sim.mem.inj i i' v v' b (by rw [k2]; simp) (by rw [l2]; simp) h3 h4 h5 h6
  subst e
  have e1 := (gcOk_mem hk _ _ k1).2.2.2
  rw [(gcOk_mem hk _ _ l1).2.2.2] at e1
  cases e1; rfl
 ·unfold St.get St.gc
  split
  ·rename_i hg
   have := s.sim.slots k
   unfold St.get at this
   rw [if_pos hg] at this
   rcases alook_gc (K := K) st.vars L k with h | h
   ·simp only [h]; exact .imm (.junk _)
   ·simp only [h]; exact this.ren hk
  ·exact .imm (.junk _)
 ·unfold gcG
  have hj : nx ≤ j := hj
  have hb := gcOk_base hk
  rw [if_neg (by omega)]
  split
  ·rename_i i hi
   have := (gcOk_mem hk _ _ (blook_mem' hi)).1
   omega
  ·rfl
 ·exact
  { kept := .refl
    size := Nat.le_refl _
    out := fun _ _ _ => rfl
    F1 := fun _ _ h => h
    F2 := fun _ _ _ => rfl
    F3 := fun _ _ h => .inl h
    own := fun b ⟨id, o, v, h1, h2, h3⟩ => by
     obtain ⟨i, p, k1, k2, _⟩ := renMem_look hk (fun _ h => h) h1
     rw [gcG_ren hk k1] at h2
     exact .inr ⟨i, p, v, k2, h2, h3⟩
    some' := fun id hb h => by unfold gcG; rw [if_pos hb]; exact h
    same := fun id v hb h _ => by unfold gcG; rw [if_pos hb]; exact h
    keep := fun id o' hb hG h => by
     obtain ⟨i, p, k1, k2, rfl⟩ := renMem_look hk (fun _ h => h) h
     obtain ⟨v, hv⟩ := Option.ne_none_iff_exists'.1 hG
     have hi : i = id := by
      rcases (gcOk_mem hk _ _ k1).2.1 with h | ⟨_, h⟩
      ·exact h
      ·have hb : id < fr.base := hb
       omega
     subst hi
     exact ⟨p, v, v, k2, hv, by unfold gcG; rw [if_pos hb]; exact hv, objKeep.ren v p⟩ }
theorem EvC.gc (L : List Nat) (K : List (Nat × Nat)) (nx : Nat) (hk : gcOk fr.base nx K = true) (h : EvC P fr ro ds c (st.gc L K nx) Q) : EvC P fr ro ds c st Q :=
 EvC.conv (fun _ _ _ _ s => ⟨_, _, (s.gc hk).1, (s.gc hk).2⟩) h
theorem EvC.loopS {σ : Type} (sh : σ → St) (μ : σ → Nat) (inv : σ → Prop) (L : List Nat) (nx : Nat)
  (h0 : ∃ K s, gcOk fr.base nx K = true ∧ st.gc L K nx = sh s ∧ inv s)
  (round : ∀ s, inv s → EvC P fr ro ds c (sh s) (thenE (fun st' => ∃ K s', gcOk fr.base nx K = true ∧ st'.gc L K nx = sh s' ∧ inv s' ∧ μ s' < μ s) Q)) : EvC P fr ro ds (.loop c) st Q := by
 have h0' : ∃ K s, gcOk fr.base nx K = true ∧ st.gc L K nx = sh s ∧ inv s := h0
 refine EvC.loop (fun st => ∃ K s, gcOk fr.base nx K = true ∧ st.gc L K nx = sh s ∧ inv s) (fun st => leastOf fun n => ∃ K s, gcOk fr.base nx K = true ∧ st.gc L K nx = sh s ∧ inv s ∧ μ s = n) h0' ?_
 rintro st ⟨K, s, h1, h2, h3⟩
 obtain ⟨K, s, h1, h2, h3, hn⟩ := leastOf_spec (p := fun n => ∃ K s, gcOk fr.base nx K = true ∧ st.gc L K nx = sh s ∧ inv s ∧ μ s = n) ⟨_, K, s, h1, h2, h3, rfl⟩
 refine EvC.gc L K nx h1 ?_
 rw [h2]
 refine (round s h3).mono fun e st' hq => ?_
 cases e with
 | normal =>
   obtain ⟨K', s', k1, k2, k3, k4⟩ := hq
   refine ⟨⟨K', s', k1, k2, k3⟩, ?_⟩
   have := leastOf_le (p := fun n => ∃ K s, gcOk fr.base nx K = true ∧ st'.gc L K nx = sh s ∧ inv s ∧ μ s = n) ⟨K', s', k1, k2, k3, rfl⟩
   rw [hn] at k4
   exact Nat.lt_of_le_of_lt this k4
 | _ => exact hq
end
section
variable {P : Program} {fr : Fr} {ro : Option Nat} {ds : DS} {st st' : St} {Q Q' : Exit → St → Prop} {x y c : Code} {l rest : List Oper} {o : Oper} {ok : Bool} {id : Nat} {ops : Array Oper}
theorem EvC.clrQ (h : EvC P fr ro ds c st fun e s => Q e s.clr) : EvC P fr ro ds c st Q :=
 fun _ _ _ _ _ _ _ _ S s => wpIn_mono (h _ _ _ _ _ _ _ _ S s) fun _ _ _ ⟨G', F', st', h1, h2, h3⟩ => ⟨G', F', st'.clr, h1.clr, h2, h3⟩
theorem EvC.rg (h : xrun P fr l st.clr true = .done ok st') (hok : ok = true) (hq : Q .normal st'.clr) : EvC P fr ro ds (.region id l.toArray false) st Q := .clrQ (.region (.done h hok hq))
end
theorem band_t (b : Bool) : (true && b) = b := by cases b <;> decide
theorem band_t' (b : Bool) : (b && true) = b := by cases b <;> decide
theorem band_f (b : Bool) : (false && b) = false := by cases b <;> decide
theorem band_f' (b : Bool) : (b && false) = false := by cases b <;> decide
theorem bor_t (b : Bool) : (true || b) = true := by cases b <;> decide
theorem bor_t' (b : Bool) : (b || true) = true := by cases b <;> decide
theorem bor_f (b : Bool) : (false || b) = b := by cases b <;> decide
theorem bor_f' (b : Bool) : (b || false) = b := by cases b <;> decide
def keyTest (ag : Bool) (ks : List Kd) : Value → Bool
 | .agg cs => ag && matchKinds ks cs.toList
 | v => !ag && matchKinds ks [v]
theorem isKey_of {P : Program} {t : TypeId} {ks : List Kd} {ag : Bool} (h1 : kindsOf P 8 t = some ks) (h2 : (P.underlying t).map descAgg = some ag) : isKey P t = keyTest ag ks := by
 obtain ⟨d, h3, h4⟩ := Option.map_eq_some_iff.1 h2
 funext v
 unfold isKey keyTest
 rw [h1, h3, ← h4]
 cases v <;> rfl
theorem isEmpty_app {α : Type} (a b : List α) : (a ++ b).isEmpty = (a.isEmpty && b.isEmpty) := by cases a <;> simp
attribute [go_sem] xrun St.eff xop St.put St.get Fr.isG alook aset mlook mset mdel od unopt opnd ofVal ofCell mkv acells awrite AV.noref AV.norefs AV.cell1 acell cellVal cellVals toVal eqCell eqCells eqVal elook eset
 intBin nilOf nilEf binEf zeroOf fillAV fillEs elemsOf snap tvCap tvEs viewOf cutV vEf sliceV appendN appendEf copyEf isShift ownSlot bound sliceEf dok gval gslot effG St.clr callArgs vars0 st0 resOne resAll mkRes retP AV.deep AV.deeps mapSlots St.map St.frz St.fz
 rlook blook renLeaf AV.ren renCells RObj.ren renMem gcVars St.gc gcOk matchKind matchKinds keyTest
attribute [go_sem] List.drop_zero List.drop_succ_cons List.take_succ_cons List.take_zero List.length_cons List.length_nil List.nil_append List.cons_append List.append_nil List.map_cons List.map_nil List.set_cons_zero List.set_cons_succ List.map_append List.all_append isEmpty_app List.isEmpty_cons List.isEmpty_nil List.length_append List.all_cons List.all_nil
 List.getElem?_cons_zero List.getElem?_cons_succ List.getElem?_nil List.replicate_succ List.replicate_zero Array.toList_map List.contains_cons List.contains_nil
 Nat.zero_add Nat.add_zero band_t band_t' band_f band_f' bor_t bor_t' bor_f bor_f' Bool.not_true Bool.not_false decide_true decide_false if_true if_false Bool.false_eq_true
 Option.map_some Option.map_none Option.isSome_some Option.bind_some Option.bind_none and_self and_true true_and or_true true_or or_false false_or not_true not_false_iff eq_self reduceIte
mutual
def AV.ids : AV → List Nat
 | .ag cs => AV.idss cs
 | .tu cs => AV.idss cs
 | .ifc _ v => v.ids
 | .fn _ cs => AV.idss cs
 | .opt _ v => v.ids
 | .rf i _ => [i]
 | .tl i _ _ => [i]
 | .tv i _ _ _ _ => [i]
 | .ea i _ _ _ => [i]
 | .mp i => [i]
 | _ => []
def AV.idss : List AV → List Nat
 | [] => []
 | c :: cs => c.ids ++ AV.idss cs
end
section
variable {P : Program} {fr : Fr} {st st' : St} {M M' : Mem} {x y : AV}
def Same (M' M : Mem) (l : List Nat) : Prop := ∀ i ∈ l, mlook M' i = mlook M i
theorem idss_mem : ∀ {cs : List AV} {c : AV} {i : Nat}, c ∈ cs → i ∈ c.ids → i ∈ AV.idss cs
 | c' :: cs, c, i, h, hi => by
   simp only [AV.idss, List.mem_append]
   rcases List.mem_cons.1 h with h | h
   ·subst h; exact .inl hi
   ·exact .inr (idss_mem h hi)
theorem Same.of_mem {cs : List AV} (h : Same M' M (AV.idss cs)) {c : AV} (hc : c ∈ cs) : Same M' M c.ids := fun i hi => h i (idss_mem hc hi)
theorem acell_congr (h : Same M' M x.ids) : acell M' x = acell M x := by
 cases x <;> try rfl
 ·rename_i i n b
  simp only [acell]
  rw [h i (by simp [AV.ids])]
 ·rename_i i n off len cap
  simp only [acell]
  rw [h i (by simp [AV.ids])]
theorem viewOf_congr (h : Same M' M x.ids) : viewOf M' x = viewOf M x := by
 cases x <;> try rfl
 ·rename_i i n b
  simp only [viewOf]
  rw [h i (by simp [AV.ids])]
 ·rename_i i n off len cap
  simp only [viewOf]
  rw [h i (by simp [AV.ids])]
theorem snap_congr (h : Same M' M x.ids) : snap M' x = snap M x := by
 cases x <;> try rfl
 ·rename_i i n b
  simp only [snap]
  rw [h i (by simp [AV.ids])]
 ·rename_i i n off len cap
  simp only [snap]
  rw [h i (by simp [AV.ids])]
theorem elemsOf_congr (h : Same M' M x.ids) : elemsOf M' x = elemsOf M x := by
 cases x <;> try rfl
 ·rename_i i n b
  simp only [elemsOf]
  rw [h i (by simp [AV.ids])]
 ·rename_i i n off len cap
  simp only [elemsOf]
  rw [h i (by simp [AV.ids])]
theorem nilOf_congr (h : Same M' M x.ids) : nilOf M' x = nilOf M x := by
 cases x with
 | sc v =>
   cases v <;> try rfl
   rename_i p; cases p <;> rfl
 | tl i n b =>
   simp only [nilOf]
   rw [h i (by simp [AV.ids])]
 | tv i n off len cap =>
   simp only [nilOf]
   rw [h i (by simp [AV.ids])]
 | _ => rfl
theorem ids_acells : AV.idss (acells x) = x.ids := by
 cases x <;> simp [acells, AV.ids, AV.idss]
theorem acells_congr (h : Same M' M x.ids) : (acells x).all (acell M') = (acells x).all (acell M) := by
 have h : Same M' M (AV.idss (acells x)) := by rw [ids_acells]; exact h
 generalize acells x = l at h
 induction l with
 | nil => rfl
 | cons c cs ih =>
   simp only [List.all_cons]
   rw [acell_congr (h.of_mem List.mem_cons_self), ih fun i hi => h i (by simp [AV.idss, hi])]
theorem ids_unopt {g : Bool} {i : Nat} (h : i ∈ (unopt g x).ids) : i ∈ x.ids := by
 unfold unopt at h
 split at h
 ·split at h
  ·simpa [AV.ids] using h
  ·simp [AV.ids] at h
 ·exact h
theorem ids_snap {i : Nat} (h : i ∈ (snap M x).ids) : i ∈ x.ids := by
 unfold snap at h
 split at h
 ·split at h
  ·split at h
   ·simp [AV.ids] at h
   ·exact h
  ·exact h
 ·split at h
  ·split at h
   ·simp [AV.ids] at h
   ·exact h
  ·exact h
 ·exact h
theorem fillAV_congr {place : Nat → Option (Nat × Nat)} : ∀ {ps : List (Nat × AV)} {cells : List AV}, (∀ p ∈ ps, Same M' M p.2.ids) → fillAV M' place cells ps = fillAV M place cells ps
 | [], _, _ => rfl
 | (i, v) :: ps, cells, h => by
   simp only [fillAV]
   rw [acells_congr (h _ List.mem_cons_self)]
   split
   ·rfl
   ·split
    ·exact fillAV_congr fun p hp => h p (List.mem_cons_of_mem _ hp)
    ·rfl
theorem fillEs_congr {size : Nat} : ∀ {ps : List (Nat × AV)} {es : List (List AV)}, (∀ p ∈ ps, Same M' M p.2.ids) → fillEs M' size es ps = fillEs M size es ps
 | [], _, _ => rfl
 | (i, v) :: ps, es, h => by
   simp only [fillEs]
   rw [acells_congr (h _ List.mem_cons_self)]
   split
   ·exact fillEs_congr fun p hp => h p (List.mem_cons_of_mem _ hp)
   ·rfl
theorem appendEf_congr {id : Nat} {own : Bool} {t : TypeId} {ys : List (List AV)} (h : Same M' M x.ids) : appendEf P M' id own t x ys = appendEf P M id own t x ys := by
 unfold appendEf
 split
 ·rfl
 ·split
  ·rfl
  ·cases x with
   | sl nl es cap => cases cap <;> rfl
   | tl i n b =>
     simp only
     rw [h i (by simp [AV.ids])]
   | tv i n off len cap =>
     cases off with
     | succ k => cases cap <;> rfl
     | zero =>
       cases cap <;> try rfl
       all_goals (simp only; rw [h i (by simp [AV.ids])])
   | _ => rfl
theorem viewOf_id {i esz n off len : Nat} {cap : Cp} (h : viewOf M x = some (i, esz, n, off, len, cap)) : i ∈ x.ids := by
 unfold viewOf at h
 split at h
 ·split at h
  ·split at h
   ·cases h; simp [AV.ids]
   ·cases h
  ·cases h
 ·split at h
  ·split at h
   ·cases h; simp [AV.ids]
   ·cases h
  ·cases h
 ·cases h
theorem copyEf_congr {t : TypeId} {y : AV} (h : Same M' M x.ids) (h' : Same M' M y.ids) : copyEf P M' t x y = copyEf P M t x y := by
 unfold copyEf
 rw [viewOf_congr h, elemsOf_congr h']
 split
 ·rfl
 ·split
  ·rename_i hv _
   rw [h _ (viewOf_id hv)]
  ·rfl
def OpSame (fr : Fr) (st' st : St) (xs : List Operand) : Prop := ∀ x ∈ xs, opnd fr st' x = opnd fr st x ∧ Same st'.mem st.mem (opnd fr st x).ids
theorem OpSame.od {xs : List Operand} (h : OpSame fr st' st xs) {x : Operand} (hx : x ∈ xs) (g : Bool) : Avl.od fr st' g x = Avl.od fr st g x ∧ Same st'.mem st.mem (Avl.od fr st g x).ids := by
 unfold Avl.od
 exact ⟨by rw [(h x hx).1], fun i hi => (h x hx).2 i (ids_unopt hi)⟩
theorem xop_congr {g : Bool} {id : Nat} {o : Oper} (h : OpSame fr st' st o.op.operands.toList) : xop P fr st' g id o = xop P fr st g id o := by
 obtain ⟨dst, op, ty, pos, after, guard⟩ := o
 cases op with
 | move x => simp only [xop]; rw [(h.od (by simp [Op.operands]) g).1]
 | assign x =>
   have h1 := (h.od (x := x) (by simp [Op.operands]) g).1
   simp only [xop]
   split
   ·rfl
   ·rw [h1]
 | pick c a b =>
   have h1 := (h c (by simp [Op.operands])).1
   have h2 := (h a (by simp [Op.operands])).1
   have h3 := (h b (by simp [Op.operands])).1
   simp only [xop]; rw [h1, h2, h3]
 | alloc t => rfl
 | box t x =>
   obtain ⟨h1, h2⟩ := h.od (x := x) (by simp [Op.operands]) g
   simp only [xop]; rw [h1, acells_congr h2]
 | build t parts =>
   have e : (parts.toList.map fun p => (p.1, od fr st' g p.2)) = parts.toList.map fun p => (p.1, od fr st g p.2) :=
    List.map_congr_left fun p hp => by rw [(h.od (x := p.2) (by simp only [Op.operands, List.mem_map]; exact ⟨p, hp, rfl⟩) g).1]
   simp only [xop]; rw [e]
   split
   ·rw [fillAV_congr]
    intro p hp
    obtain ⟨q, hq, rfl⟩ := List.mem_map.1 hp
    exact (h.od (x := q.2) (by simp only [Op.operands, List.mem_map]; exact ⟨q, hq, rfl⟩) g).2
   ·rfl
 | buildSlice t n parts =>
   have e : (parts.toList.map fun p => (p.1, snap st'.mem (od fr st' g p.2))) = parts.toList.map fun p => (p.1, snap st.mem (od fr st g p.2)) :=
    List.map_congr_left fun p hp => by
     obtain ⟨h1, h2⟩ := h.od (x := p.2) (by simp only [Op.operands, List.mem_map]; exact ⟨p, hp, rfl⟩) g
     rw [h1, snap_congr h2]
   simp only [xop]; rw [e]
   split
   ·split
    ·rw [fillEs_congr]
     intro p hp
     obtain ⟨q, hq, rfl⟩ := List.mem_map.1 hp
     exact fun i hi => (h.od (x := q.2) (by simp only [Op.operands, List.mem_map]; exact ⟨q, hq, rfl⟩) g).2 i (ids_snap hi)
    ·rfl
   ·rfl
 | load t x =>
   obtain ⟨h1, h2⟩ := h.od (x := x) (by simp [Op.operands]) g
   simp only [xop]; rw [h1]
   generalize od fr st g x = X at h2
   split
   ·cases X <;> try rfl
    ·(try simp only); rw [h2 _ (by simp [AV.ids])]
    ·(try simp only); rw [h2 _ (by simp [AV.ids])]
   ·rfl
 | store t a x =>
   obtain ⟨h1, h2⟩ := h.od (x := a) (by simp [Op.operands]) g
   obtain ⟨h3, h4⟩ := h.od (x := x) (by simp [Op.operands]) g
   have h5 : Same st'.mem st.mem (snap st.mem (od fr st g x)).ids := fun i hi => h4 i (ids_snap hi)
   simp only [xop]; rw [h1, h3]
   rw [snap_congr h4, acells_congr h4, acells_congr h5]
   generalize od fr st g a = X at h2
   split
   ·cases X <;> try rfl
    ·(try simp only); rw [h2 _ (by simp [AV.ids])]
    ·(try simp only); rw [h2 _ (by simp [AV.ids])]
   ·rfl
 | fieldAddr t x f =>
   obtain ⟨h1, h2⟩ := h.od (x := x) (by simp [Op.operands]) g
   simp only [xop]; rw [h1]
   generalize od fr st g x = X at h2
   split
   ·cases X <;> try rfl
    (try simp only); rw [h2 _ (by simp [AV.ids])]
   ·rfl
 | nilCheck x =>
   obtain ⟨h1, h2⟩ := h.od (x := x) (by simp [Op.operands]) g
   simp only [xop]; rw [h1]
   generalize od fr st g x = X at h2
   cases X <;> try rfl
   (try simp only); rw [h2 _ (by simp [AV.ids])]
 | field t x f => simp only [xop]; rw [(h.od (x := x) (by simp [Op.operands]) g).1]
 | indexAddr t x ix =>
   obtain ⟨h1, h2⟩ := h.od (x := x) (by simp [Op.operands]) g
   simp only [xop]; rw [h1, (h.od (x := ix) (by simp [Op.operands]) g).1]
   generalize od fr st g x = X at h2
   split
   ·split
    ·split
     ·rfl
     ·cases X <;> try rfl
      all_goals ((try simp only); rw [h2 _ (by simp [AV.ids])])
    ·split
     ·split
      ·rfl
      ·cases X <;> try rfl
       (try simp only); rw [h2 _ (by simp [AV.ids])]
     ·rfl
   ·rfl
 | index t x ix => simp only [xop]; rw [(h.od (x := x) (by simp [Op.operands]) g).1, (h.od (x := ix) (by simp [Op.operands]) g).1]
 | binOp op t x y yt =>
   obtain ⟨h1, h2⟩ := h.od (x := x) (by simp [Op.operands]) g
   obtain ⟨h3, h4⟩ := h.od (x := y) (by simp [Op.operands]) g
   simp only [xop]; rw [h1, h3, nilOf_congr h2, nilOf_congr h4]
 | unOp op t x => simp only [xop]; rw [(h.od (x := x) (by simp [Op.operands]) g).1]
 | convert s d x => simp only [xop]; rw [(h.od (x := x) (by simp [Op.operands]) g).1]
 | makeInterface t x => simp only [xop]; rw [(h.od (x := x) (by simp [Op.operands]) g).1]
 | makeFunc fn first caps =>
   have e : caps.toList.map (od fr st' g) = caps.toList.map (od fr st g) :=
    List.map_congr_left fun p hp => (h.od (x := p) (by simp [Op.operands]; exact .inr (by simpa using hp)) g).1
   have e2 : first.toList.map (od fr st' g) = first.toList.map (od fr st g) :=
    List.map_congr_left fun p hp => (h.od (x := p) (by simp [Op.operands]; exact .inl (by simpa using hp)) g).1
   simp only [xop]; rw [e, e2]
 | makeMap t r =>
   simp only [xop]
   cases r with
   | none => cases tmap P t <;> rfl
   | some x =>
     have h1 := (h.od (x := x) (by simp [Op.operands]) g).1
     cases tmap P t with
     | none => rfl
     | some k => simp only; rw [h1]
 | makeSlice t l c => simp only [xop]; rw [(h.od (x := l) (by simp [Op.operands]) g).1, (h.od (x := c) (by simp [Op.operands]) g).1]
 | slice t x a b c =>
   obtain ⟨h1, h2⟩ := h.od (x := x) (by simp [Op.operands]) g
   have eo : ∀ (y : Option Operand), (∀ z, y = some z → z ∈ (Op.slice t x a b c).operands.toList) → y.map (od fr st' g) = y.map (od fr st g) := by
    intro y hy
    cases y with
    | none => rfl
    | some z => simp only [Option.map_some]; rw [(h.od (hy z rfl) g).1]
   simp only [xop]; rw [h1, snap_congr h2, viewOf_congr fun i hi => h2 i (ids_snap hi), eo a (fun z hz => by simp [Op.operands, hz]), eo b (fun z hz => by simp [Op.operands, hz]), eo c (fun z hz => by simp [Op.operands, hz])]
 | lookup t m k ok =>
   obtain ⟨h1, h2⟩ := h.od (x := m) (by simp [Op.operands]) g
   simp only [xop]; rw [h1, (h.od (x := k) (by simp [Op.operands]) g).1]
   generalize od fr st g m = X at h2
   rcases tmap P t with _ | ⟨kt, et⟩ <;> try rfl
   rcases toVal (od fr st g k) with _ | kv <;> try rfl
   cases X <;> try rfl
   simp only; rw [h2 _ (by simp [AV.ids])]
 | mapUpdate t m k x =>
   obtain ⟨h1, h2⟩ := h.od (x := m) (by simp [Op.operands]) g
   simp only [xop]; rw [h1, (h.od (x := k) (by simp [Op.operands]) g).1, (h.od (x := x) (by simp [Op.operands]) g).1]
   generalize od fr st g m = X at h2
   rcases tmap P t with _ | ⟨kt, et⟩ <;> try rfl
   rcases toVal (od fr st g k) with _ | kv <;> try rfl
   cases X <;> try rfl
   simp only; rw [h2 _ (by simp [AV.ids])]
 | insert t m k x =>
   obtain ⟨h1, h2⟩ := h.od (x := m) (by simp [Op.operands]) g
   simp only [xop]; rw [h1, (h.od (x := k) (by simp [Op.operands]) g).1, (h.od (x := x) (by simp [Op.operands]) g).1]
   generalize od fr st g m = X at h2
   rcases tmap P t with _ | ⟨kt, et⟩ <;> try rfl
   rcases toVal (od fr st g k) with _ | kv <;> try rfl
   cases X <;> try rfl
   simp only; rw [h2 _ (by simp [AV.ids])]
 | typeAssert x xt t ok => simp only [xop]; rw [(h.od (x := x) (by simp [Op.operands]) g).1]
 | extract x i => simp only [xop]; rw [(h.od (x := x) (by simp [Op.operands]) g).1]
 | call c =>
   obtain ⟨callee, args, tys⟩ := c
   obtain ⟨args⟩ := args
   obtain ⟨tys⟩ := tys
   have ha : ∀ x ∈ args, od fr st' g x = od fr st g x ∧ Same st'.mem st.mem (od fr st g x).ids := fun x hx => h.od (x := x) (by simp [Op.operands, Call.operands, hx]) g
   simp only [xop]
   split
   ·rename_i x t
    obtain ⟨h1, h2⟩ := ha x (by simp)
    rw [h1, elemsOf_congr h2]
    split
    ·rfl
    ·generalize od fr st g x = X at h2
     cases X with
     | sc v => cases v <;> rfl
     | mp i => simp only; rw [h2 _ (by simp [AV.ids])]
     | _ => rfl
   ·rename_i x t
    obtain ⟨h1, h2⟩ := ha x (by simp)
    rw [h1]
    generalize od fr st g x = X at h2
    cases telem P t with
    | none => rfl
    | some e =>
      cases X with
      | sl nl es cp => cases cp <;> rfl
      | tv i n off len cp =>
        cases cp <;> try rfl
        simp only; rw [h2 _ (by simp [AV.ids])]
      | _ => rfl
   ·rename_i x y t t'
    obtain ⟨h1, h2⟩ := ha x (by simp)
    obtain ⟨h3, h4⟩ := ha y (by simp)
    rw [h1, h3, elemsOf_congr h4]
    split
    ·exact appendEf_congr h2
    ·rfl
    ·rfl
   ·rename_i x y t t'
    obtain ⟨h1, h2⟩ := ha x (by simp)
    obtain ⟨h3, h4⟩ := ha y (by simp)
    rw [h1, h3, copyEf_congr h2 h4]
   ·rename_i x y t t'
    rw [(ha x (by simp)).1, (ha y (by simp)).1]
   ·rename_i x y t t'
    rw [(ha x (by simp)).1, (ha y (by simp)).1]
   ·rfl
 | _ => rfl
end
structure Rc where
 val : AV
 fx : Option (Nat × RObj)
def Rc.mem (r : Rc) (M : Mem) : Mem := match r.fx with
 | none => M
 | some (i, o) => mset M i o
def run1 (fr : Fr) (d : Option Nat) (r : Rc) (st : St) : St := (⟨st.vars, st.tmps, r.mem st.mem, st.nx⟩ : St).put fr d r.val
def look (fr : Fr) (st : St) (x : Nat) : AV ⊕ Option RObj := if x % 2 = 0 then .inl (st.get fr (x / 2)) else .inr (mlook st.mem (x / 2))
def wrt (d : Option Nat) (r : Rc) (x : Nat) : Option (AV ⊕ Option RObj) :=
 if x % 2 = 0 then (if d = some (x / 2) then some (.inl r.val) else none)
 else match r.fx with
  | some (j, o) => if x / 2 = j then some (.inr (some o)) else none
  | none => none
def wl (d : Option Nat) (r : Rc) : List Nat :=
 (match d with | some k => [2 * k] | none => []) ++ match r.fx with
  | some (j, _) => [2 * j + 1]
  | none => []
structure It where
 o : Oper
 r : Rc
 rd : List Nat
def foldS (fr : Fr) (S : Nat → Bool) : Nat → List It → St → St
 | _, [], st => st
 | i, t :: l, st => foldS fr S (i + 1) l (if S i = true then run1 fr t.o.dst t.r st else st)
def lastW (S : Nat → Bool) : Nat → List It → Nat → AV ⊕ Option RObj → AV ⊕ Option RObj
 | _, [], _, c => c
 | i, t :: l, x, c => lastW S (i + 1) l x (if S i = true then (wrt t.o.dst t.r x).getD c else c)
section
variable {P : Program} {fr : Fr} {ro : Option Nat} {ds : DS} {st st' : St} {Q : Exit → St → Prop} {G G' : Nat → Option Value} {F F' : Nat → Nat → Prop} {a : Act} {w w' : World}
 {M M' : Mem} {ops : Array Oper} {o : Oper} {id N : Nat} {S S' : Nat → Bool} {d : Option Nat} {r : Rc} {x y : Nat} {l : List It}
theorem mlook_rc (r : Rc) (M : Mem) (i : Nat) : mlook (r.mem M) i = match r.fx with
  | some (j, o) => if i = j then some o else mlook M i
  | none => mlook M i := by
 unfold Rc.mem
 split
 ·rename_i h; rw [h]
 ·rename_i j o h; rw [h]; simp only [mlook_mset]
theorem look_run1 (x : Nat) : look fr (run1 fr d r st) x = (wrt d r x).getD (look fr st x) := by
 unfold look wrt run1
 split
 ·cases d with
  | none => simp [St.put, St.get]
  | some k =>
    rw [St.get_put]
    by_cases h : x / 2 = k
    ·rw [if_pos h, if_pos (by rw [h])]; rfl
    ·rw [if_neg h, if_neg (by simpa using fun e => h e.symm)]; rfl
 ·rw [St.put_mem, mlook_rc]
  cases hf : r.fx with
  | none => rfl
  | some p =>
    obtain ⟨j, o⟩ := p
    simp only
    by_cases h : x / 2 = j
    ·rw [if_pos h, if_pos h]; rfl
    ·rw [if_neg h, if_neg h]; rfl
theorem wrt_wl : (wrt d r x).isSome = true → x ∈ wl d r := by
 unfold wrt wl
 split
 ·rename_i h
  split
  ·rename_i hd; subst hd; intro _; simp; omega
  ·simp
 ·rename_i h
  cases hf : r.fx with
  | none => simp
  | some p =>
    obtain ⟨j, o⟩ := p
    simp only
    split
    ·rename_i hj; subst hj; intro _; simp; omega
    ·simp
theorem look_foldS (x : Nat) : ∀ (l : List It) (i : Nat) (st : St), look fr (foldS fr S i l st) x = lastW S i l x (look fr st x)
 | [], _, _ => rfl
 | t :: l, i, st => by
   simp only [foldS, lastW]
   rw [look_foldS x l]
   split
   ·rw [look_run1]
   ·rfl
theorem lastW_agree : ∀ (l : List It) (i : Nat) (c : AV ⊕ Option RObj), (∀ m t, l[m]? = some t → (wrt t.o.dst t.r x).isSome = true → S (i + m) = S' (i + m)) → lastW S i l x c = lastW S' i l x c
 | [], _, _, _ => rfl
 | t :: l, i, c, h => by
   simp only [lastW]
   have e : (if S i = true then (wrt t.o.dst t.r x).getD c else c) = if S' i = true then (wrt t.o.dst t.r x).getD c else c := by
    cases hw : wrt t.o.dst t.r x with
    | none => simp
    | some v =>
      have h0 := h 0 t rfl (by rw [hw]; rfl)
      rw [Nat.add_zero] at h0
      rw [h0]
   rw [e]
   exact lastW_agree l (i + 1) _ fun m t' hm hw => by
    have := h (m + 1) t' hm hw
    rwa [show i + 1 + m = i + (m + 1) by omega]
theorem lastW_keep (v : AV ⊕ Option RObj) : ∀ (l : List It) (i : Nat), (∀ m t, l[m]? = some t → S (i + m) = true → wrt t.o.dst t.r x = none) → lastW S i l x v = v
 | [], _, _ => rfl
 | t :: l, i, h => by
   simp only [lastW]
   have e : (if S i = true then (wrt t.o.dst t.r x).getD v else v) = v := by
    split
    ·rename_i hs; rw [h 0 t rfl hs]; rfl
    ·rfl
   rw [e]
   exact lastW_keep v l (i + 1) fun m t' hm hw => h (m + 1) t' hm (by rwa [show i + (m + 1) = i + 1 + m by omega])
theorem lastW_is (v : AV ⊕ Option RObj) (t0 : It) (hv : wrt t0.o.dst t0.r x = some v) : ∀ (l : List It) (i m0 : Nat) (c : AV ⊕ Option RObj), l[m0]? = some t0 → S (i + m0) = true →
  (∀ m t, m0 < m → l[m]? = some t → S (i + m) = true → wrt t.o.dst t.r x = none) → lastW S i l x c = v := by
 intro l
 induction l with
 | nil => intro i m0 c ht; simp at ht
 | cons t l ih =>
   intro i m0 c ht hs h
   simp only [lastW]
   cases m0 with
   | zero =>
     have e : t = t0 := by simpa using ht
     subst e
     rw [Nat.add_zero] at hs
     rw [if_pos hs, hv]
     refine lastW_keep v l (i + 1) fun m t' hm hw => h (m + 1) t' (by omega) (by simpa using hm) ?_
     rw [show i + (m + 1) = i + 1 + m by omega]; exact hw
   | succ m0 =>
     refine ih (i + 1) m0 _ (by simpa using ht) (by rw [show i + 1 + m0 = i + (m0 + 1) by omega]; exact hs) fun m t' hlt hm hw => h (m + 1) t' (by omega) (by simpa using hm) ?_
     rw [show i + (m + 1) = i + 1 + m by omega]; exact hw
def addS (S : Nat → Bool) (i : Nat) : Nat → Bool := fun j => S j || decide (j = i)
theorem foldS_add {i : Nat} {t : It} (hi : l[i]? = some t) (hS : S i = false) (hc : ∀ m u, l[m]? = some u → i < m → S m = true → ∀ x, (wrt t.o.dst t.r x).isSome = true → wrt u.o.dst u.r x = none) (x : Nat) :
  look fr (foldS fr (addS S i) 0 l st) x = look fr (run1 fr t.o.dst t.r (foldS fr S 0 l st)) x := by
 rw [look_foldS, look_run1, look_foldS]
 cases hw : wrt t.o.dst t.r x with
 | none =>
   exact lastW_agree l 0 _ fun m u hm hu => by
    simp only [Nat.zero_add, addS]
    by_cases h : m = i
    ·subst h
     rw [hi] at hm; cases hm
     rw [hw] at hu; cases hu
    ·simp [h]
 | some v =>
   refine lastW_is v t hw l 0 i _ hi (by simp [addS]) fun m u hlt hm hs => ?_
   refine hc m u hm hlt ?_ x (by rw [hw]; rfl)
   simp only [addS, Nat.zero_add, Bool.or_eq_true, decide_eq_true_eq] at hs
   rcases hs with hs | hs
   ·exact hs
   ·omega
theorem look_get {st st' : St} (h : ∀ x, look fr st x = look fr st' x) (k : Nat) : st.get fr k = st'.get fr k := by
 have := h (2 * k)
 unfold look at this
 rw [if_pos (by omega), if_pos (by omega)] at this
 simpa [show 2 * k / 2 = k by omega] using this
theorem look_mem {st st' : St} (h : ∀ x, look fr st x = look fr st' x) (i : Nat) : mlook st.mem i = mlook st'.mem i := by
 have := h (2 * i + 1)
 unfold look at this
 rw [if_neg (by omega), if_neg (by omega)] at this
 simpa [show (2 * i + 1) / 2 = i by omega] using this
theorem RV.ext {v : Value} {y : AV} (h : RV G F M w v y) (e : ∀ i, mlook M' i = mlook M i) : RV G F M' w v y := by
 induction h with
 | imm h => exact .imm h
 | ag vs cs hl _ ih => exact .ag vs cs hl ih
 | tu vs cs hl _ ih => exact .tu vs cs hl ih
 | ifc t v x _ ih => exact .ifc t v x ih
 | fn f vs cs hl _ ih => exact .fn f vs cs hl ih
 | opt b v x _ h' ih => exact .opt b v x ih h'
 | rf id off b h => exact .rf id off b h
 | tl id len nl v hG h => exact .tl id len nl v hG fun esz es fz ho => h esz es fz (by rw [← e]; exact ho)
 | tv id n off len cap v hG h => exact .tv id n off len cap v hG fun esz es fz ho => h esz es fz (by rw [← e]; exact ho)
 | ea id n i off v hG h => exact .ea id n i off v hG fun esz es fz ho => h esz es fz (by rw [← e]; exact ho)
 | mp id b h => exact .mp id b h
theorem ObjOk.ext {ob : RObj} (h : ObjOk P G F M w id ob) (e : ∀ i, mlook M' i = mlook M i) : ObjOk P G F M' w id ob := by
 cases ob with
 | cells cs =>
   obtain ⟨b, c, el, h1, h2, h3, h4, h5⟩ := h
   exact ⟨b, c, el, h1, h2, h3, fun i hi hj => (h4 i hi hj).ext e, h5⟩
 | arr esz es fz =>
   rcases h with h | ⟨b, ko, c, cc, el, h1, h2, h3, h4, h5, h6, h7, h8, h9⟩
   ·exact .inl h
   ·exact .inr ⟨b, ko, c, cc, el, h1, h2, h3, h4, h5, h6, fun i j hi hj => let ⟨v, k1, k2, k3⟩ := h7 i j hi hj; ⟨v, k1, k2, k3.ext e⟩, h8, h9⟩
 | map kt es =>
   obtain ⟨b, ents, clock, h1, h2, h3, h4, h5⟩ := h
   exact ⟨b, ents, clock, h1, h2, h3, fun i hi hj => ⟨(h4 i hi hj).1, (h4 i hi hj).2.1.ext e, (h4 i hi hj).2.2⟩, h5⟩
theorem SimM.ext (h : SimM P G F M N w) (e : ∀ i, mlook M' i = mlook M i) : SimM P G F M' N w :=
 ⟨fun id o ho => ⟨(h.obj id o (by rw [← e]; exact ho)).1, (h.obj id o (by rw [← e]; exact ho)).2.ext e⟩, fun id id' v v' b h1 h2 => h.inj id id' v v' b (by rw [← e]; exact h1) (by rw [← e]; exact h2), h.inF, h.gl⟩
theorem Owned.ext {b : Nat} (h : Owned G M b) (e : ∀ i, mlook M' i = mlook M i) : Owned G M' b := let ⟨id, o, v, h1, h2, h3⟩ := h; ⟨id, o, v, by rw [e]; exact h1, h2, h3⟩
theorem Step.ext {B : Nat → Prop} (h : Step B G F M w G' F' M' w') {M'' : Mem} (e : ∀ i, mlook M'' i = mlook M' i) : Step B G F M w G' F' M'' w' :=
 { kept := h.kept, size := h.size, out := h.out, F1 := h.F1, F2 := h.F2, F3 := h.F3
   own := fun b hb => h.own b (hb.ext fun i => (e i).symm)
   some' := h.some', same := h.same
   keep := fun id o' hb hG ho => h.keep id o' hb hG (by rw [← e]; exact ho) }
structure SimD (P : Program) (fr : Fr) (ds : DS) (G : Nat → Option Value) (F : Nat → Nat → Prop) (st : St) (N : Nat) (a : Act) (w : World) : Prop where
 mem : SimM P G F st.mem N w
 slots : ∀ k, RV G F st.mem w (a.tmps.getD k undef) (st.get fr k)
 size : a.tmps.size = fr.sz
 defers : Marks ds a.defers w
theorem SimD.ext (h : SimD P fr ds G F st N a w) (e : ∀ x, look fr st' x = look fr st x) : SimD P fr ds G F st' N a w :=
 ⟨h.mem.ext (look_mem e), fun k => by rw [look_get e]; exact (h.slots k).ext (look_mem e), h.size, h.defers⟩
def OpIs (P : Program) (fr : Fr) (ro : Option Nat) (ds : DS) (ops : Array Oper) (id : Nat) (st : St) (t : It) : Prop :=
 ∀ (st' : St) G F a w N (K : Act → World → Prop) (Q1 : Exit → Act → World → Prop), SimD P fr ds G F st' N a w → id < N → G id = none → (∀ x ∈ t.rd, look fr st' x = look fr st x) →
   (∀ G' F' a' w', SimD P fr ds G' F' (run1 fr t.o.dst t.r st') N a' w' → Step All G F st'.mem w G' F' (run1 fr t.o.dst t.r st').mem w' → (∀ j, j ≠ id → G j = none → G' j = none) → K a' w') →
   if Region.wanted t.o (yielded ops a.tmps) = true then t.o.wpIn (fc ro) 0 P a w K Q1 else (∀ f, t.o.about P w a.eval = some f → (fc ro).fn f) ∧ K (a.put t.o.dst undef) w
inductive Tr (P : Program) (fr : Fr) (ro : Option Nat) (ds : DS) (ops : Array Oper) : Nat → List Oper → St → List It → St → Prop
 | nil (id : Nat) (st : St) : Tr P fr ro ds ops id [] st [] st
 | cons {id : Nat} {o : Oper} {rest : List Oper} {st st' : St} {r : Rc} {rd : List Nat} {l : List It} (h : OpIs P fr ro ds ops id st ⟨o, r, rd⟩) (t : Tr P fr ro ds ops (id + 1) rest (run1 fr o.dst r st) l st') :
  Tr P fr ro ds ops id (o :: rest) st (⟨o, r, rd⟩ :: l) st'
theorem Tr.spec : ∀ {rest : List Oper} {id : Nat} {st st' : St} {l : List It}, Tr P fr ro ds ops id rest st l st' →
  l.map (·.o) = rest ∧ (∀ i t, l[i]? = some t → OpIs P fr ro ds ops (id + i) (foldS fr (fun j => decide (j < i)) 0 l st) t) ∧ st' = foldS fr (fun _ => true) 0 l st := by
 intro rest id st st' l h
 have key : ∀ {rest : List Oper} {id : Nat} {st st' : St} {l : List It}, Tr P fr ro ds ops id rest st l st' → ∀ n,
   l.map (·.o) = rest ∧ (∀ i t, l[i]? = some t → OpIs P fr ro ds ops (id + i) (foldS fr (fun j => decide (j < n + i)) n l st) t) ∧ st' = foldS fr (fun _ => true) n l st := by
  intro rest id st st' l h
  induction h with
  | nil id st => intro n; exact ⟨rfl, fun i t h => by simp at h, rfl⟩
  | cons h t ih =>
    rename_i id o rest st st' r rd l
    intro n
    obtain ⟨h1, h2, h3⟩ := ih (n + 1)
    refine ⟨by simp [h1], fun i t' ht => ?_, by simp only [foldS, if_true]; exact h3⟩
    cases i with
    | zero =>
      cases ht
      have e : foldS fr (fun j => decide (j < n + 0)) n (⟨o, r, rd⟩ :: l) st = st := by
       have : ∀ (l : List It) (m : Nat) (st : St), n ≤ m → foldS fr (fun j => decide (j < n + 0)) m l st = st := by
        intro l
        induction l with
        | nil => intro m st _; rfl
        | cons u l ih => intro m st hm; simp only [foldS]; rw [if_neg (by simp; omega)]; exact ih _ _ (by omega)
       exact this _ _ _ (Nat.le_refl _)
      rw [e]; exact h
    | succ i =>
      have := h2 i t' (by simpa using ht)
      simp only [foldS]
      rw [if_pos (by simp)]
      rw [show id + (i + 1) = id + 1 + i by omega, show n + (i + 1) = n + 1 + i by omega]
      exact this
 have := key h 0
 simpa using this
end
def depsOf (o : Oper) : List Nat := (o.after.toList.filter fun e => Region.binds .any e).map (·.on)
structure Conf (l : List It) : Prop where
 back : ∀ i t, l[i]? = some t → ∀ e ∈ depsOf t.o, e < i
 edge : ∀ i m t u, l[i]? = some t → l[m]? = some u → i ≠ m → ∀ x, (x ∈ t.rd ∨ x ∈ wl t.o.dst t.r) → x ∈ wl u.o.dst u.r → m ∈ depsOf t.o ∨ i ∈ depsOf u.o
def confOne (i : Nat) (t : It) : Nat → List It → Bool
 | _, [] => true
 | m, u :: l => (i == m || !((t.rd ++ wl t.o.dst t.r).any fun x => (wl u.o.dst u.r).contains x) || (depsOf t.o).contains m || (depsOf u.o).contains i) && confOne i t (m + 1) l
def confAll (all : List It) : Nat → List It → Bool
 | _, [] => true
 | i, t :: l => (depsOf t.o).all (fun e => decide (e < i)) && confOne i t 0 all && confAll all (i + 1) l
section
variable {P : Program} {fr : Fr} {ro : Option Nat} {ds : DS} {st st' : St} {Q : Exit → St → Prop} {G G' : Nat → Option Value} {F F' : Nat → Nat → Prop} {a : Act} {w w' : World}
 {M M' : Mem} {ops : Array Oper} {o : Oper} {id N : Nat} {S S' : Nat → Bool} {d : Option Nat} {r : Rc} {x y : Nat} {l : List It}
theorem confOne_spec {i : Nat} {t : It} : ∀ (l : List It) (m0 : Nat), confOne i t m0 l = true → ∀ m u, l[m]? = some u → i ≠ m0 + m → ∀ x, (x ∈ t.rd ∨ x ∈ wl t.o.dst t.r) → x ∈ wl u.o.dst u.r → m0 + m ∈ depsOf t.o ∨ i ∈ depsOf u.o := by
 intro l
 induction l with
 | nil => intro m0 _ m u hm; simp at hm
 | cons u0 l ih =>
   intro m0 h m u hm hne x hx hu
   simp only [confOne, Bool.and_eq_true] at h
   cases m with
   | zero =>
     have e : u0 = u := by simpa using hm
     subst e
     have h1 := h.1
     simp only [Bool.or_eq_true, beq_iff_eq, Bool.not_eq_true', List.contains_iff_mem] at h1
     rcases h1 with ((h1 | h1) | h1) | h1
     ·exact absurd h1 (by simpa using hne)
     ·rw [List.any_eq_false] at h1
      exact absurd (by simpa using hu) (h1 x (List.mem_append.2 hx))
     ·exact .inl h1
     ·exact .inr h1
   | succ m =>
     have := ih (m0 + 1) h.2 m u (by simpa using hm) (by omega) x hx hu
     rwa [show m0 + 1 + m = m0 + (m + 1) by omega] at this
theorem confAll_spec {all : List It} : ∀ (l : List It) (i0 : Nat), confAll all i0 l = true → ∀ i t, l[i]? = some t → (∀ e ∈ depsOf t.o, e < i0 + i) ∧ confOne (i0 + i) t 0 all = true := by
 intro l
 induction l with
 | nil => intro i0 _ i t ht; simp at ht
 | cons t0 l ih =>
   intro i0 h i t ht
   simp only [confAll, Bool.and_eq_true, List.all_eq_true, decide_eq_true_eq] at h
   cases i with
   | zero =>
     have e : t0 = t := by simpa using ht
     subst e
     exact ⟨h.1.1, h.1.2⟩
   | succ i =>
     have := ih (i0 + 1) h.2 i t (by simpa using ht)
     rwa [show i0 + 1 + i = i0 + (i + 1) by omega] at this
theorem Conf.of (h : confAll l 0 l = true) : Conf l where
 back := fun i t ht => by simpa using (confAll_spec l 0 h i t ht).1
 edge := fun i m t u ht hu hne x hx hxu => by
  have := confOne_spec l 0 (by simpa using (confAll_spec l 0 h i t ht).2) m u hu (by simpa using hne) x hx hxu
  simpa using this
theorem foldS_congr : ∀ {l : List It} {i : Nat} {st : St}, (∀ m, m < l.length → S (i + m) = S' (i + m)) → foldS fr S i l st = foldS fr S' i l st
 | [], _, _, _ => rfl
 | t :: l, i, st, h => by
   have h0 := h 0 (by simp)
   rw [Nat.add_zero] at h0
   simp only [foldS]
   rw [h0]
   exact foldS_congr fun m hm => by
    have := h (m + 1) (by simp; omega)
    rwa [show i + 1 + m = i + (m + 1) by omega]
def inS (listed : Array Bool) (i : Nat) : Bool := listed.getD i false
theorem countP_less {p q : Nat → Bool} {n i : Nat} (hi : i < n) (hp : p i = true) (hq : q i = false) (h : ∀ j, q j = true → p j = true) : (List.range n).countP q < (List.range n).countP p := by
 induction n with
 | zero => omega
 | succ n ih =>
   rw [List.range_succ, List.countP_append, List.countP_append]
   have mono : ∀ n, (List.range n).countP q ≤ (List.range n).countP p := fun n => List.countP_mono_left fun j _ hj => h j hj
   by_cases he : i = n
   ·subst he
    have := mono i
    simp only [List.countP_cons, List.countP_nil, hp, hq]
    simp; omega
   ·have := ih (by omega)
    have hn : (if q n = true then 1 else 0) ≤ (if p n = true then 1 else 0) := by
     by_cases hqn : q n = true
     ·simp [hqn, h n hqn]
     ·simp [hqn]
    simp only [List.countP_cons, List.countP_nil, Nat.zero_add]
    omega
theorem drawAny {nx : Nat} {l : List It} {st : St} {G0 : Nat → Option Value} {F0 : Nat → Nat → Prop} {M0 : Mem} {w0 : World} (hops : ∀ i : Nat, (ops[i]? : Option Oper) = (l[i]?).map fun t => t.o) (hn : ops.size = l.length) (hc : Conf l)
  (his : ∀ i t, l[i]? = some t → OpIs P fr ro ds ops (nx + i) (foldS fr (fun j => decide (j < i)) 0 l st) t)
  (hQ : ∀ G F a w, SimD P fr ds G F (foldS fr (fun _ => true) 0 l st) (nx + l.length) a w → (∀ j, nx + l.length ≤ j → G j = none) → Step (· < fr.base) G0 F0 M0 w0 G F (foldS fr (fun _ => true) 0 l st).mem w → Post P fr ds G0 F0 M0 w0 Q .normal a w) :
  ∀ (fuel : Nat) (listed : Array Bool) (G : Nat → Option Value) (F : Nat → Nat → Prop) (a : Act) (w : World), listed.size = l.length →
    SimD P fr ds G F (foldS fr (inS listed) 0 l st) (nx + l.length) a w → Step (· < fr.base) G0 F0 M0 w0 G F (foldS fr (inS listed) 0 l st).mem w →
    (∀ j, nx ≤ j → (∀ i, i < l.length → inS listed i = true → j ≠ nx + i) → G j = none) →
    (∀ i t, l[i]? = some t → inS listed i = true → ∀ e ∈ depsOf t.o, inS listed e = true) →
    (List.range l.length).countP (fun i => !inS listed i) ≤ fuel →
    wpAnyIn (fc ro) 0 P .any ops (Post P fr ds G0 F0 M0 w0 Q) fuel listed a w := by
 have allDone : ∀ (listed : Array Bool) (G : Nat → Option Value) (F : Nat → Nat → Prop) (a : Act) (w : World), SimD P fr ds G F (foldS fr (inS listed) 0 l st) (nx + l.length) a w → Step (· < fr.base) G0 F0 M0 w0 G F (foldS fr (inS listed) 0 l st).mem w →
   (∀ j, nx ≤ j → (∀ i, i < l.length → inS listed i = true → j ≠ nx + i) → G j = none) → (∀ i, i < l.length → inS listed i = true) → Post P fr ds G0 F0 M0 w0 Q .normal a w := by
  intro listed G F a w s S hfr hall
  have e : foldS fr (inS listed) 0 l st = foldS fr (fun _ => true) 0 l st := foldS_congr fun m hm => by rw [Nat.zero_add]; exact hall m hm
  rw [e] at s S
  exact hQ G F a w s (fun j hj => hfr j (by omega) fun i hi _ => by omega) S
 have readyOf : ∀ (listed : Array Bool), listed.size = l.length → ∀ i, i ∈ Region.ready .any ops listed ↔ inS listed i = false ∧ ∃ t, l[i]? = some t ∧ ∀ e ∈ depsOf t.o, inS listed e = true := by
  intro listed hsz i
  rw [mem_ready]
  constructor
  ·rintro ⟨h1, o, ho, h2⟩
   rw [hops] at ho
   obtain ⟨t, ht, rfl⟩ := Option.map_eq_some_iff.1 ho
   have hi : i < l.length := (List.getElem?_eq_some_iff.1 ht).1
   refine ⟨?_, t, ht, fun e he => ?_⟩
   ·unfold inS
    rw [Array.getD_eq_getD_getElem?] at h1 ⊢
    rw [Array.getElem?_eq_getElem (by omega)] at h1 ⊢
    exact h1
   ·simp only [depsOf, List.mem_map, List.mem_filter] at he
    obtain ⟨e', ⟨he1, he2⟩, rfl⟩ := he
    exact h2 e' (by simpa using he1) he2
  ·rintro ⟨h1, t, ht, h2⟩
   have hi : i < l.length := (List.getElem?_eq_some_iff.1 ht).1
   refine ⟨?_, t.o, by rw [hops, ht]; rfl, fun e he hb => h2 e.on ?_⟩
   ·unfold inS at h1
    rw [Array.getD_eq_getD_getElem?] at h1 ⊢
    rw [Array.getElem?_eq_getElem (by omega)] at h1 ⊢
    exact h1
   ·simp only [depsOf, List.mem_map, List.mem_filter]
    exact ⟨e, ⟨by simpa using he, hb⟩, rfl⟩
 have noneReady : ∀ (listed : Array Bool), listed.size = l.length → Region.ready .any ops listed = [] → ∀ i, i < l.length → inS listed i = true := by
  intro listed hsz hr i
  induction i using Nat.strongRecOn with
  | _ i ih =>
    intro hi
    cases hs : inS listed i with
    | true => rfl
    | false =>
      have : i ∈ Region.ready .any ops listed := (readyOf listed hsz i).2 ⟨hs, l[i], List.getElem?_eq_getElem hi, fun e he => by
       have := hc.back i l[i] (List.getElem?_eq_getElem hi) e he
       exact ih e this (by omega)⟩
      rw [hr] at this; cases this
 intro fuel
 induction fuel with
 | zero =>
   intro listed G F a w hsz s S hfr hcl hcount
   have hall : ∀ i, i < l.length → inS listed i = true := by
    intro i hi
    have h0 : (List.range l.length).countP (fun i => !inS listed i) = 0 := by omega
    rw [List.countP_eq_zero] at h0
    have := h0 i (by simpa using hi)
    simpa using this
   refine ⟨?_, allDone listed G F a w s S hfr hall⟩
   cases hr : Region.ready .any ops listed with
   | nil => rfl
   | cons i rs =>
     have := (readyOf listed hsz i).1 (by rw [hr]; exact List.mem_cons_self)
     obtain ⟨h1, t, ht, _⟩ := this
     rw [hall i (List.getElem?_eq_some_iff.1 ht).1] at h1; cases h1
 | succ fuel ih =>
   intro listed G F a w hsz s S hfr hcl hcount
   refine ⟨fun hr => allDone listed G F a w s S hfr (noneReady listed hsz hr), fun i hi => ?_⟩
   obtain ⟨hSi, t, ht, hdep⟩ := (readyOf listed hsz i).1 hi
   have hil : i < l.length := (List.getElem?_eq_some_iff.1 ht).1
   unfold wpOpIn
   rw [hops, ht]
   simp only [Option.map_some]
   have hadd : ∀ j, inS (listed.setIfInBounds i true) j = addS (inS listed) i j := by
    intro j
    unfold inS addS
    simp only [Array.getD_eq_getD_getElem?, Array.getElem?_setIfInBounds]
    by_cases h : i = j
    ·subst h
     simp [show i < listed.size by omega]
    ·simp [h, Ne.symm h]
   have hfold : foldS fr (inS (listed.setIfInBounds i true)) 0 l st = foldS fr (addS (inS listed) i) 0 l st := foldS_congr fun m _ => hadd _
   have hlook : ∀ x, look fr (foldS fr (inS (listed.setIfInBounds i true)) 0 l st) x = look fr (run1 fr t.o.dst t.r (foldS fr (inS listed) 0 l st)) x := by
    intro x
    rw [hfold]
    refine foldS_add ht hSi (fun m u hu hlt hSm x hx => ?_) x
    cases hw : wrt u.o.dst u.r x with
    | none => rfl
    | some v =>
      exfalso
      rcases hc.edge i m t u ht hu (by omega) x (.inr (wrt_wl hx)) (wrt_wl (by rw [hw]; rfl)) with h | h
      ·have := hc.back i t ht m h; omega
      ·have := hcl m u hu hSm i h
       rw [hSi] at this; cases this
   refine his i t ht _ G F a w (nx + l.length) _ _ s (by omega) (hfr _ (by omega) fun i' _ hS' he => ?_) (fun x hx => ?_) (fun G' F' a' w' s' S' hfr' => ?_)
   ·have : i = i' := by omega
    subst this
    rw [hSi] at hS'; cases hS'
   ·rw [look_foldS, look_foldS]
    refine lastW_agree l 0 _ fun m u hu hw => ?_
    rw [Nat.zero_add]
    by_cases hmi : m = i
    ·subst hmi; rw [hSi]; simp
    ·rcases hc.edge i m t u ht hu (fun h => hmi h.symm) x (.inl hx) (wrt_wl hw) with h | h
     ·have := hc.back i t ht m h
      rw [hdep m h]; simp [this]
     ·have h1 := hc.back m u hu i h
      cases hSm : inS listed m with
      | false => simp; omega
      | true =>
        have := hcl m u hu hSm i h
        rw [hSi] at this; cases this
   ·refine ih _ G' F' a' w' (by simpa using hsz) (s'.ext hlook) ((S.trans (S'.mono fun _ _ => trivial)).ext (look_mem hlook)) (fun j hj hne => ?_) (fun i' t' ht' hS' e he => ?_) ?_
    ·refine hfr' j (hne i hil (by rw [hadd]; simp [addS])) (hfr j hj fun i' hi' hS' => hne i' hi' (by rw [hadd]; simp [addS, hS']))
    ·rw [hadd] at hS' ⊢
     simp only [addS, Bool.or_eq_true, decide_eq_true_eq] at hS' ⊢
     rcases hS' with hS' | rfl
     ·exact .inl (hcl i' t' ht' hS' e he)
     ·rw [ht] at ht'; cases ht'
      exact .inl (hdep e he)
    ·have := countP_less (p := fun i => !inS listed i) (q := fun j => !inS (listed.setIfInBounds i true) j) hil (by simp [hSi]) (by simp only [hadd]; simp [addS]) (fun j hj => by
       rw [hadd] at hj
       simp only [addS, Bool.not_or, Bool.and_eq_true] at hj
       exact hj.1)
     omega
theorem EvC.draw {idr : Nat} {l : List Oper} {its : List It} (hm : P.follows .mixedOrders = true) (ht : Tr P fr ro ds l.toArray st.nx l st.clr its st') (hc : confAll its 0 its = true)
  (hq : Q .normal ⟨st'.vars, st'.tmps, st'.mem, st.nx + its.length⟩) : EvC P fr ro ds (.region idr l.toArray true) st Q := by
 intro G0 F0 M0 w0 G F a w S s
 obtain ⟨h1, h2, h3⟩ := ht.spec
 obtain ⟨hm', S'⟩ := simM_drew (w' := { w with drawn := w.drawn + 1 }) (s.clr.sim.mem.more (Nat.le_add_right _ its.length)) rfl ⟨rfl, rfl, rfl, .refl⟩
 have hlen : l.length = its.length := by rw [← h1]; simp
 refine wpIn_region_any hm ?_
 have hnone : ∀ i, inS (Array.replicate l.toArray.size false) i = false := fun i => by
  unfold inS
  simp only [Array.getD_eq_getD_getElem?, Array.getElem?_replicate]
  split <;> rfl
 have e : foldS fr (inS (Array.replicate l.toArray.size false)) 0 its st.clr = st.clr := by
  have : ∀ (l' : List It) (m : Nat) (st : St), foldS fr (inS (Array.replicate l.toArray.size false)) m l' st = st := by
   intro l'
   induction l' with
   | nil => intro m st; rfl
   | cons u l' ih => intro m st; simp only [foldS]; rw [hnone]; exact ih _ _
  exact this _ _ _
 refine drawAny (l := its) (nx := st.nx) (st := st.clr) (fun i => by rw [← h1]; simp) (by simp [hlen]) (.of hc) h2 (fun G F a w s hfr S => ?_) _ _ G F a _ (by simp [hlen]) ?_ ?_ (fun j hj _ => s.fresh j hj) (fun i t _ h => by rw [hnone] at h; cases h) ?_
 ·refine ⟨G, F, _, ⟨⟨?_, fun k => ?_, s.size⟩, hfr, s.defers⟩, ?_, hq⟩
  ·rw [h3]; exact s.mem
  ·have := s.slots k
   rw [← h3] at this
   exact this
  ·rw [← h3] at S; exact S
 ·rw [e]
  exact ⟨hm', fun k => (s.clr.sim.slots k).step S' (fun _ _ => trivial), s.clr.sim.size, s.clr.defers⟩
 ·rw [e]; exact S.trans (S'.mono fun _ _ => trivial)
 ·refine Nat.le_trans List.countP_le_length (by simp [hlen])
end
end Go.Avl
