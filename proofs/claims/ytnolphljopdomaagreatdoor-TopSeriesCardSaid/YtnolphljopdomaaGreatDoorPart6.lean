/-
  What is left of a slice when its front is taken away: an object that begins later in its block.
  The concrete evaluator: one operation, as the calculus asks for it.
  The front of a slice of one's own taken away: what is left is an object that begins later.
  From a law's row to its contract: arguments opened, and read again behind the call.
  Facts of the types, printed by a program of this claim's own.
  Lemmas.
  Contracts of the library, from the shelf (the layings were printed by the shelf's tool).
-/
import Derived.ProofKit
import Derived.OpenShut
import Derived.Test.YtnolphljopdomaaGreatDoorProg
import Derived.KernelRfl
import Derived.Shelf.Strings.OnBuilder
import Derived.Shelf.Strings.LastIndex
import Derived.Shelf.Strings.Count
import Derived.Shelf.Small.Strs
import Derived.Test.YtnolphljopdomaaGreatDoorPart5
set_option linter.unusedSimpArgs false
set_option linter.unusedVariables false
set_option linter.unnecessarySimpa false
set_option linter.deprecated false
namespace Go.Avl
open Go
section
variable {P : Program} {fr : Fr} {st : St} {G G' : Nat → Option Value} {F : Nat → Nat → Prop} {M : Mem} {w : World} {ρ : Operand → Value}
theorem simM_cut {nx id i esz n b ko c k : Nat} {es : List (List AV)} (hm : SimM P G F M nx w) (hid : G id = none) (hlt : id < nx) (ho : mlook M i = some (.arr esz es false)) (hG : G i = some (.slice (some ⟨b, ko, none⟩) n c)) (hc0 : c ≠ 0) (hn : n = es.length) (hk : k ≤ n) :
  SimM P (upG G id (.slice (some ⟨b, if c = k then ko else ko + k * esz, none⟩) (n - k) (c - k))) F ((id, .arr esz (es.drop k) false) :: mdel M i) nx w ∧ Step All G F M w (upG G id (.slice (some ⟨b, if c = k then ko else ko + k * esz, none⟩) (n - k) (c - k))) F ((id, .arr esz (es.drop k) false) :: mdel M i) w := by
 have htl : (es.drop k).length = n - k := by rw [List.length_drop]; omega
 have hob := (hm.obj i _ ho)
 have hne : i ≠ id := fun e => by rw [e, hid] at hG; cases hG
 obtain ⟨h, hh⟩ : ∃ h, h = Value.slice (some ⟨b, if c = k then ko else ko + k * esz, none⟩) (n - k) (c - k) := ⟨_, rfl⟩
 rw [← hh]
 obtain ⟨G1, hG1⟩ : ∃ G1, G1 = upG G id h := ⟨_, rfl⟩
 obtain ⟨M1, hM1⟩ : ∃ M1 : Mem, M1 = (id, .arr esz (es.drop k) false) :: mdel M i := ⟨_, rfl⟩
 rw [← hG1, ← hM1]
 have hlk : ∀ j, mlook M1 j = if j = id then some (.arr esz (es.drop k) false) else if j = i then none else mlook M j := fun j => by
  rw [hM1]; simp only [mlook]
  by_cases hj : j = id
  ·rw [if_pos hj, if_pos hj]
  ·rw [if_neg hj, if_neg hj, mlook_mdel']
 have hgo : ∀ j, j ≠ id → G1 j = G j := fun j hj => by rw [hG1, upG_other G _ hj]
 have hgs : G1 id = some h := by rw [hG1, upG_self]
 have hbk : blkOf (.slice (some ⟨b, ko, none⟩) n c) = some b := by simp [blkOf, hc0]
 have hbk0 : ∀ b', blkOf h = some b' → b' = b := fun b' hb' => by
  rw [hh] at hb'; simp only [blkOf] at hb'
  split at hb'
  ·cases hb'
  ·exact (Option.some.inj hb').symm
 have S : Step All G F M w G1 F M1 w :=
  { kept := .refl
    size := Nat.le_refl _
    out := fun _ _ _ => rfl
    F1 := fun _ _ h => h
    F2 := fun _ _ _ => rfl
    F3 := fun _ _ h => .inl h
    own := fun b' ⟨j, o, v, h1, h2, h3⟩ => by
     rw [hlk] at h1
     by_cases hj : j = id
     ·subst hj
      rw [hgs] at h2; cases h2
      rw [hbk0 _ h3]
      exact .inr ⟨i, _, _, ho, hG, hbk⟩
     ·rw [if_neg hj] at h1
      rw [hgo j hj] at h2
      split at h1
      ·cases h1
      ·exact .inr ⟨j, o, v, h1, h2, h3⟩
    some' := fun j _ hid => by
     by_cases hj : j = id
     ·subst hj; rw [hgs]; simp
     ·rw [hgo j hj]; exact hid
    same := fun j v _ hj _ => by
     have hj2 : j ≠ id := fun e => by rw [e, hid] at hj; cases hj
     rw [hgo j hj2]; exact hj
    keep := fun j o' _ hj h1 => by
     have hj2 : j ≠ id := fun e => hj (by rw [e]; exact hid)
     rw [hlk, if_neg hj2] at h1
     obtain ⟨v, hv⟩ := Option.ne_none_iff_exists'.1 hj
     split at h1
     ·cases h1
     ·exact ⟨o', v, v, h1, hv, (hgo j hj2).trans hv, objKeep.refl v o'⟩ }
 have hm' : SimM P G1 F M1 nx w := by
  refine simM_gen hm S (fun j o' h1 => ?_) (fun j j' v v' b' h1 h2 h3 h4 h5 h6 => ?_) hm.inF
  ·rw [hlk] at h1
   by_cases hj : j = id
   ·subst hj
    rw [if_pos rfl] at h1; cases h1
    refine ⟨hlt, .inl ?_⟩
    rcases hob.2 with ⟨_, base, h1, _⟩ | ⟨b2, ko2, c2, cc, e, k1, k2, k3, k4, k5, k6, k7, k8, k9⟩
    ·rw [hG] at h1; cases h1; exact absurd rfl hc0
    ·rw [hG] at k1; cases k1
     by_cases hck : c = k
     ·refine .inl ⟨List.length_eq_zero_iff.1 (by rw [htl]; omega), some ⟨b, ko, none⟩, ?_, fun a _ => rfl⟩
      rw [hgs, hh, if_pos hck, show es.length - k = 0 by omega, show c - k = 0 by omega]
     ·refine .inr ⟨b, ko + k * esz, c - k, cc, e, by rw [hgs, hh, htl, if_neg hck], by omega, k3, by rw [htl]; omega, ?_, fun i h => by rw [List.getElem_drop]; exact k6 _ _, fun i j h hj => ?_, fun o h => ?_, fun h => by cases h⟩
      ·rw [k5, Nat.add_assoc, ← Nat.add_mul, show k + (c - k) = c by omega]
      ·simp only [List.getElem_drop] at hj ⊢
       obtain ⟨v, q1, q2, q3⟩ := k7 (k + i) j (by rw [htl] at h; omega) hj
       refine ⟨v, ?_, q2, q3.step S fun _ _ => trivial⟩
       rw [← q1, Nat.add_mul]; congr 1; omega
      ·have := (k8 o h).1
       cases this
   ·rw [if_neg hj] at h1
    split at h1
    ·cases h1
    ·exact ⟨(hm.obj j o' h1).1, .inr ⟨h1, hgo j hj, fun b v _ _ => ⟨rfl, fun _ h => h⟩⟩⟩
  ·have back : ∀ {j : Nat} {v : Value}, mlook M1 j ≠ none → G1 j = some v → blkOf v = some b' → (j = id ∧ b' = b) ∨ (j ≠ id ∧ j ≠ i ∧ mlook M j ≠ none ∧ G j = some v) := fun {j v} q1 q2 q3 => by
     by_cases hj : j = id
     ·subst hj
      rw [hgs] at q2; cases q2
      exact .inl ⟨rfl, hbk0 _ q3⟩
     ·rw [hlk, if_neg hj] at q1
      rw [hgo j hj] at q2
      by_cases hi : j = i
      ·rw [if_pos hi] at q1; exact absurd rfl q1
      ·rw [if_neg hi] at q1; exact .inr ⟨hj, hi, q1, q2⟩
   have hio : mlook M i ≠ none := by rw [ho]; simp
   rcases back h1 h3 h5 with ⟨e1, e2⟩ | ⟨q1, q2, q3, q4⟩ <;> rcases back h2 h4 h6 with ⟨e3, e4⟩ | ⟨p1, p2, p3, p4⟩
   ·rw [e1, e3]
   ·subst e2
    exact absurd (hm.inj j' i _ _ _ p3 hio p4 hG h6 hbk) p2
   ·subst e4
    exact absurd (hm.inj j i _ _ _ q3 hio q4 hG h5 hbk) q2
   ·exact hm.inj j j' _ _ _ q3 p3 q4 p4 h5 h6
 exact ⟨hm', S⟩
theorem ok_rest {nx id i n esz : Nat} {nl : Bool} {es : List (List AV)} {t e : TypeId} {v : Value} {lo : Value} {q : IntKind} {k : Int} (hm : SimM P G F M nx w) (hid : G id = none) (hlt : id < nx) (ht : telem P t = some e) (hinf : tinf P e = true) (hv : RV G F M w v (.tl i n nl)) (ho : mlook M i = some (.arr esz es false))
  (hn : n = es.length) (hne : n ≠ 0) (hlo : lo = .int q k) (h0 : 0 ≤ k) (hk : k.toNat ≤ n) (hsz : esz = P.cellsOf e) :
  OpOk P G F M nx w id ((do pure (Next.value (← Instr.sliceAt t v (some lo) none none)) : Sem Next).run P w) (.tl id (n - k.toNat) false) ((id, .arr esz (es.drop k.toNat) false) :: mdel M i) := by
 obtain ⟨hG, hnl, va, vc, rfl, hcase⟩ := tl_handle hm hv ho hn
 rcases hcase with ⟨h1, _⟩ | ⟨b, ko, cc, e0, rfl, k2, k3, k4, _⟩
 ·subst h1; exact absurd hn hne
 rw [← hn] at hG k4
 obtain ⟨hm', S⟩ := simM_cut hm hid hlt ho hG k2 hn hk
 have hun := telem_inv ht
 have hrun : (Instr.sliceAt t (.slice (some ⟨b, ko, none⟩) n vc) (some lo) none none).run P w = .ok (.slice (some ⟨b, if vc = k.toNat then ko else ko + k.toNat * esz, none⟩) (n - k.toNat) (vc - k.toNat)) w := by
  have hb : (Instr.sliceBounds true n vc (some lo) none none).run P w = .ok (k.toNat, n, vc) w := by
   simp [Instr.sliceBounds, hlo, run_bound (P := P) (w := w) (k := q) (i := k) (y := n) (code := .sliceB) h0 (by omega)]
  simp only [Instr.sliceAt, Sem.run_bind, run_under hun, Result.andThen_ok, Instr.slice, hb, info_size (w := w) (show ¬ tinf P e = false by rw [hinf]; simp), Sem.run_pure]
  congr 2
  split
  ·rename_i h; rfl
  ·rename_i h; simp only [Option.map_some, add_eq, ← hsz]
 rw [← hn]
 refine ⟨_, w, _, F, .inl (run_v hrun), hm', S, ?_, fun j hj hG => by rw [upG_other G _ hj]; exact hG⟩
 have hl : n - k.toNat = (es.drop k.toNat).length := by rw [List.length_drop]; omega
 refine .tl id _ false _ (by rw [upG_self]; simp) fun esz' es' fz' ho' => ?_
 rw [mlook_cons, if_pos rfl] at ho'; cases ho'
 exact ⟨by rw [hl]; exact Nat.le_refl _, fun _ => ⟨by rw [upG_self], rfl⟩⟩
end
def R.val1 : R → AV
 | .val v => v
 | .new v _ => v
 | .upd v _ _ => v
 | .key v _ _ => v
def R.memL (id : Nat) (M : Mem) : R → Mem
 | .val _ => M
 | .new _ o => (id, o) :: M
 | .upd _ i o => mset M i o
 | .key _ i o => (id, o) :: mdel M i
def R.stp (fr : Fr) (st : St) (d : Option Nat) (r : R) : St := (⟨st.vars, st.tmps, r.memL st.nx st.mem, st.nx + 1⟩ : St).put fr d r.val1
section
variable {P : Program} {G : Nat → Option Value} {F : Nat → Nat → Prop} {M : Mem} {w : World} {nx id : Nat} {r : R} {o : Oper}
theorem efR_ok {ef : Ef} {run : Result Next} (h : EfOk P G F M nx w id run ef) (hf : EfR ef r) : OpOk P G F M nx w id run r.val1 (r.memL id M) := by
 cases ef <;> cases r <;> first
  | exact hf.elim
  | (obtain ⟨h1, h2⟩ := hf; subst h2; exact h h1)
  | (obtain ⟨h1, h2, h3⟩ := hf; subst h2; subst h3; exact h h1)
  | (obtain ⟨h1, h2, h3, h4⟩ := hf; subst h2; subst h3; subst h4; exact h h1)
theorem OpOk.valR {run : Result Next} {u : Value} {v : AV} (hm : SimM P G F M nx w) (hr : RV G F M w u v) (h : run = .ok (.value u) w) : OpOk P G F M nx w id run v M :=
 ⟨u, w, G, F, .inl h, hm, .refl, hr, fun _ _ h => h⟩
theorem xopT_ok {fr : Fr} {st : St} {ρ : Operand → Value} {ev : Operand → Option AV} {L : Nat → Option RObj} (hm : SimM P G F st.mem nx w) (hρ : ∀ x, RV G F st.mem w (ρ x) (opnd fr st x)) (hc : ∀ v, ρ (.const v) = v) (hid : G id = none) (hn : id < nx)
  (he : EvOk fr st ev) (hL : LOk st L) (hown : o.dst.isSome = true → ownSlot fr o.dst = true) (h : xopT P ev L id o = some r) : OpOk P G F st.mem nx w id ((execOp ρ o).run P w) r.val1 (r.memL id st.mem) := by
 have fin : EfR (xop P fr st true id o) r → OpOk P G F st.mem nx w id ((execOp ρ o).run P w) r.val1 (r.memL id st.mem) := fun hf => efR_ok (xop_ok hm hρ hc hid hn o) hf
 have val : (∃ u, (execOp ρ o).run P w = .ok (.value u) w ∧ r = .val (.sc u)) → OpOk P G F st.mem nx w id ((execOp ρ o).run P w) r.val1 (r.memL id st.mem) := fun ⟨u, h1, h2⟩ => by
  subst h2; exact .valR hm (.imm (.sc _)) h1
 have rd : ∀ {x : Operand} {v : AV}, ev x = some v → RV G F st.mem w (ρ x) v := fun {x v} hx => by
  have e := he.some hx
  rw [← e]; exact (hρ x).unopt
 obtain ⟨dst, op, ty, pos, after, guard⟩ := o
 cases op
 case move x =>
  simp only [xopT] at h; split at h
  ·rename_i v hv; cases h; exact .valR hm (rd hv) rfl
  ·cases h
 case assign x =>
  simp only [xopT] at h; split at h
  ·rename_i v hv; cases h; exact .valR hm (rd hv) rfl
  ·cases h
 case pick c x y =>
  simp only [xopT] at h; split at h
  ·rename_i hc
   have ec := (rd hc).inv_sc
   split at h
   ·rename_i v hv; cases h; exact .valR hm (rd hv) (by simp [execOp, ec, asBool])
   ·cases h
  ·rename_i hc
   have ec := (rd hc).inv_sc
   split at h
   ·rename_i v hv; cases h; exact .valR hm (rd hv) (by simp [execOp, ec, asBool])
   ·cases h
  ·cases h
 case alloc => exact fin (o_alloc h)
 case box => exact fin (o_box he hL h)
 case build => exact fin (o_build he hL h)
 case buildSlice => exact fin (o_buildSlice he hL hown h)
 case load => exact fin (o_load he hL h)
 case store => exact fin (o_store he hL h)
 case nilCheck => exact fin (o_nilCheck he hL h)
 case fieldAddr => exact fin (o_fieldAddr he hL h)
 case field => exact fin (o_field he h)
 case indexAddr => exact fin (o_indexAddr he hL h)
 case index =>
  rcases o_index he h with h | ⟨h1, h2⟩
  ·exact fin h
  ·exact val (run_strIx hρ h1 h2)
 case binOp =>
  rcases o_binOp he hL h with h | ⟨p, q, h1, h2, h3⟩
  ·exact fin h
  ·exact val (run_strT hρ h1 h2 h3)
 case unOp => exact fin (o_unOp he h)
 case convert => exact fin (o_convert he h)
 case makeFunc => exact fin (o_makeFunc he h)
 case extract => exact fin (o_extract he h)
 case makeSlice => exact fin (o_makeSlice he hown h)
 case makeMap => exact fin (o_makeMap he h)
 case lookup => exact fin (o_lookup he hL h)
 case mapUpdate => exact fin (o_mapUpdate he hL h)
 case insert => exact fin (o_insert he hL h)
 case slice t x lo hi mx =>
  rcases o_slice he hL h with h | ⟨h1, h2⟩ | ⟨e, i, n, nl, esz, es, q, k, z, rfl, rfl, rfl, h1, h2, h3, h4, h5, h6, h7, h8, h9, h10, rfl⟩
  ·exact fin h
  ·exact val (run_strSl hρ h1 h2)
  ·have hx : RV G F st.mem w (ρ x) (.tl i n nl) := by rw [← h3]; exact ((hρ x).unopt).snap hm
   have hz : ρ z = .int q k := by
    have := (hρ z).unopt
    rw [show unopt true (opnd fr st z) = .sc (.int q k) from h8] at this
    exact this.inv_sc
   have := ok_rest hm hid hn h1 h2 hx h4 h5 h6 hz h9 (by omega) h7
   rw [h10, List.drop_length, show n - es.length = 0 by omega] at this
   exact this
 case call => exact fin (o_call he hL hown h)
 all_goals (simp only [xopT] at h; cases h)
end
section
variable {base sz : Nat} {s : ES} {st : St} {P : Program} {ds : DS} {G : Nat → Option Value} {F : Nat → Nat → Prop} {a : Act} {w : World} {o : Oper} {r : R}
theorem unopt_ofVal (v : Value) : unopt true (ofVal v) = ofVal v := by
 unfold ofVal
 split
 ·rfl
 ·unfold ofCell; split <;> rfl
theorem Abs.ev (A : Abs (allF base sz) s st) : EvOk (allF base sz) st (opT s.tm) := by
 intro x
 cases h : opT s.tm x with
 | none => exact .inl rfl
 | some v =>
   right
   have e := A.op h
   rw [od, e]
   congr 1
   cases x with
   | tmp t =>
     simp only [opT] at h
     split at h
     ·cases h
     ·cases h
     ·rename_i hj ho
      have h := Option.some.inj h
      rw [h] at ho hj
      cases v <;> first
       | rfl
       | exact (ho _ _ rfl).elim
   | const c => cases h; exact (unopt_ofVal c).symm
   | global g =>
     simp only [opT] at h
     split at h
     ·cases h; rfl
     ·cases h
   | func f => cases h; rfl
theorem Abs.lk (A : Abs (allF base sz) s st) : LOk st (fun i => T.get none s.mem i) := fun i => by
 rcases A.mem i with h | h
 ·exact .inl h
 ·exact .inr h.symm
theorem Abs.eff (A : Abs (allF base sz) s st) {d : Option Nat} (hd : dok (allF base sz) d = true) (r : R) : Abs (allF base sz) (s.eff d r) (r.stp (allF base sz) st d) := by
 have hn : Nat.add s.nx 1 = st.nx + 1 := by rw [A.nx]
 have hnew : ∀ {m : T (Option RObj)} {M : Mem} (ob : RObj), (∀ i, T.get none m i = none ∨ mlook M i = T.get none m i) → ∀ i, T.get none (T.put m (some ob) s.nx) i = none ∨ mlook ((st.nx, ob) :: M) i = T.get none (T.put m (some ob) s.nx) i := fun {m M} ob hm i => by
  rcases T.get_put none (some ob) m s.nx i with h | h
  ·exact .inl h
  ·rw [h]; simp only [mlook, A.nx]
   by_cases hi : i = st.nx
   ·rw [if_pos hi, if_pos hi]; exact .inr rfl
   ·rw [if_neg hi, if_neg hi]; exact hm i
 cases r with
 | val v => exact Abs.put (s := ⟨s.tm, s.mem, Nat.add s.nx 1⟩) (st := ⟨st.vars, st.tmps, st.mem, st.nx + 1⟩) ⟨A.tmps, A.slot, A.mem, hn⟩ hd v
 | new v ob => exact Abs.put (s := ⟨s.tm, T.put s.mem (some ob) s.nx, Nat.add s.nx 1⟩) (st := ⟨st.vars, st.tmps, (st.nx, ob) :: st.mem, st.nx + 1⟩) ⟨A.tmps, A.slot, hnew ob A.mem, hn⟩ hd v
 | upd v j ob =>
   refine Abs.put (s := ⟨s.tm, T.put s.mem (some ob) j, Nat.add s.nx 1⟩) (st := ⟨st.vars, st.tmps, mset st.mem j ob, st.nx + 1⟩) ⟨A.tmps, A.slot, fun i => ?_, hn⟩ hd v
   rcases T.get_put none (some ob) s.mem j i with h | h
   ·exact .inl h
   ·simp only; rw [h, mlook_mset]
    by_cases hi : i = j
    ·rw [if_pos hi, if_pos hi]; exact .inr rfl
    ·rw [if_neg hi, if_neg hi]; exact A.mem i
 | key v j ob =>
   refine Abs.put (s := ⟨s.tm, T.put (T.put s.mem none j) (some ob) s.nx, Nat.add s.nx 1⟩) (st := ⟨st.vars, st.tmps, (st.nx, ob) :: mdel st.mem j, st.nx + 1⟩) ⟨A.tmps, A.slot, hnew ob (fun i => ?_), hn⟩ hd v
   rcases T.get_put none none s.mem j i with h | h
   ·exact .inl h
   ·rw [h, mlook_mdel]
    by_cases hi : i = j
    ·rw [if_pos hi]; exact .inl rfl
    ·rw [if_neg hi, if_neg hi]; exact A.mem i
def OpTo (P : Program) (fr : Fr) (ds : DS) (G : Nat → Option Value) (F : Nat → Nat → Prop) (st : St) (a : Act) (w : World) (o : Oper) (st1 : St) : Prop :=
 ∃ u w' G' F', ((execOp a.eval o).run P w = .ok (.value u) w' ∨ ((execOp a.eval o).run P w = .ok .skip w' ∧ u = undef)) ∧ SimA P fr ds G' F' st1 (a.put o.dst u) w' ∧ Step All G F st.mem w G' F' st1.mem w'
theorem xopT_run (A : Abs (allF base sz) s st) (S : SimA P (allF base sz) ds G F st a w) (hd : dok (allF base sz) o.dst = true)
  (h : xopT P (opT s.tm) (fun i => T.get none s.mem i) s.nx o = some r) : OpTo P (allF base sz) ds G F st a w o (r.stp (allF base sz) st o.dst) := by
 rw [A.nx] at h
 obtain ⟨u, w', G', F', hrun, hm', S', hr, hfr⟩ := xopT_ok (S.sim.mem.more (Nat.le_succ _)) S.eval (fun _ => rfl) (S.fresh _ (Nat.le_refl _)) (Nat.lt_succ_self _) A.ev A.lk (fun h => allF_own hd h) h
 refine ⟨u, w', G', F', hrun, ?_, by rw [R.stp, St.put_mem]; exact S'⟩
 exact S.step_put (st1 := ⟨st.vars, st.tmps, r.memL st.nx st.mem, st.nx + 1⟩) S' hm' rfl rfl (fun j hj => hfr j (by show j ≠ st.nx; have : st.nx + 1 ≤ j := hj; omega) (S.fresh j (by have : st.nx + 1 ≤ j := hj; omega))) (dok_spec hd) hr
end
section
variable {P : Program} {fr : Fr} {ro : Option Nat} {ds : DS} {st : St} {G : Nat → Option Value} {F : Nat → Nat → Prop} {a : Act} {w : World} {o : Oper} {ops : Array Oper} {rest : List Oper} {Q : Exit → St → Prop}
theorem SimA.operOk {x : AV} {M' : Mem} (s : SimA P fr ds G F st a w) (hk : OpOk P G F st.mem (st.nx + 1) w st.nx ((execOp a.eval o).run P w) x M') (hd : ∀ k, o.dst = some k → k < fr.sz) :
  ∃ u w' G' F', ((execOp a.eval o).run P w = .ok (.value u) w' ∨ ((execOp a.eval o).run P w = .ok .skip w' ∧ u = undef)) ∧ SimA P fr ds G' F' ((⟨st.vars, st.tmps, M', st.nx + 1⟩ : St).put fr o.dst x) (a.put o.dst u) w' ∧ Step All G F st.mem w G' F' ((⟨st.vars, st.tmps, M', st.nx + 1⟩ : St).put fr o.dst x).mem w' := by
 obtain ⟨u, w', G', F', hrun, hm', S', hr, hfr⟩ := hk
 exact ⟨u, w', G', F', hrun, s.step_put (st1 := ⟨st.vars, st.tmps, M', st.nx + 1⟩) S' hm' rfl rfl (fun j hj => hfr j (by show j ≠ st.nx; have : st.nx + 1 ≤ j := hj; omega) (s.fresh j (by have : st.nx + 1 ≤ j := hj; omega))) hd hr, by rw [St.put_mem]; exact S'⟩
theorem XR.front {t e : TypeId} {x lo : Operand} {i n esz : Nat} {nl : Bool} {es : List (List AV)} {q : IntKind} {k : Int} (hg : o.guard = none) (hop : o.op = .slice t x (some lo) none none) (hd : dok fr o.dst = true)
  (ht : telem P t = some e) (hinf : tinf P e = true) (hx : opnd fr st x = .tl i n nl) (hl : opnd fr st lo = .sc (.int q k)) (ho : mlook st.mem i = some (.arr esz es false)) (hsz : esz = P.cellsOf e) (hn : n = es.length) (hne : n ≠ 0) (h0 : 0 ≤ k) (hk : k.toNat ≤ n)
  (h : XR P fr ro ds ops rest ((⟨st.vars, st.tmps, (st.nx, .arr esz (es.drop k.toNat) false) :: mdel st.mem i, st.nx + 1⟩ : St).put fr o.dst (.tl st.nx (n - k.toNat) false)) Q) : XR P fr ro ds ops (o :: rest) st Q :=
 fun _ _ _ _ _ _ a w S s => wpListIn_plain hg fun K hK => by
  have hv := s.eval x
  rw [hx] at hv
  have hlo := s.eval lo
  rw [hl] at hlo
  have hlo := hlo.inv_sc
  have hok := ok_rest (nx := st.nx + 1) (s.sim.mem.more (Nat.le_succ _)) (s.fresh _ (Nat.le_refl _)) (Nat.lt_succ_self _) ht hinf hv ho hn hne hlo h0 hk hsz
  have he : (do pure (Next.value (← Instr.sliceAt t (a.eval x) (some (a.eval lo)) none none)) : Sem Next) = execOp a.eval o := by
   obtain ⟨d, op, ty, pos, after, gu⟩ := o
   simp only at hop
   subst hop
   rfl
  rw [he] at hok
  obtain ⟨u, w', G', F', hrun, s', S'⟩ := s.operOk hok (dok_spec hd)
  have hnd : ∀ c, o.op ≠ .defer c := fun c hc => by rw [hop] at hc; cases hc
  refine ⟨fun _ _ => trivial, ?_⟩
  rw [Oper.semAt_eq _ _ _ hnd]
  rcases hrun with hrun | ⟨hrun, rfl⟩ <;> rw [hrun]
  ·exact hK _ _ (h _ _ _ _ _ _ _ _ (S.trans (S'.mono fun _ _ => trivial)) s')
  ·exact hK _ _ (h _ _ _ _ _ _ _ _ (S.trans (S'.mono fun _ _ => trivial)) s')
end
open Go Go.ChangeShapes Go.RowKit
def Live (w : World) : Nat → Nat → Prop := fun b _ => b < w.heap.size
section
variable {H : Type} {enc : TypeId × Value → H} {P : Program} {w : World} {α β : Type}
def Fits (P : Program) (t : TypeId) (d : DataW H) : Prop := ∀ n ∈ d.weights P t, n ≤ reachBytes
theorem fits_all {P : Program} {e : TypeId} : ∀ {l : List (DataW H)}, (∀ n ∈ DataW.weightsAll P e l, n ≤ reachBytes) → ∀ d ∈ l, Fits P e d
 | [], _, d, hd => by cases hd
 | a :: l, h, d, hd => by
   simp only [DataW.weightsAll, List.mem_append] at h
   rcases List.mem_cons.1 hd with rfl | hd
   ·exact fun n hn => h n (.inl hn)
   ·exact fits_all (fun n hn => h n (.inr hn)) d hd
theorem fits_each {P : Program} : ∀ {ts : List TypeId} {l : List (DataW H)}, (∀ n ∈ DataW.weightsEach P ts l, n ≤ reachBytes) → ∀ (i : Nat) t d, ts[i]? = some t → l[i]? = some d → Fits P t d
 | [], _, _, i, t, d, h1, _ => by simp at h1
 | _ :: _, [], _, i, t, d, _, h2 => by simp at h2
 | a :: ts, b :: l, h, i, t, d, h1, h2 => by
   simp only [DataW.weightsEach, List.mem_append] at h
   cases i with
   | zero =>
     simp only [List.getElem?_cons_zero, Option.some.injEq] at h1 h2
     subst h1; subst h2
     exact fun n hn => h n (.inl hn)
   | succ i => exact fits_each (fun n hn => h n (.inr hn)) i t d (by simpa using h1) (by simpa using h2)
def Reads (enc : TypeId × Value → H) (P : Program) (w : World) (t : TypeId) (f : α → List AV) (Ok : α → Prop) : Prop :=
 ∀ fuel cs x, Fits P t x.1 → DataW.trod enc P w 0 (fun _ => true) true fuel t cs = some x →
   ∃ a, Ok a ∧ Imms (Live w) w cs (f a) ∧ ∀ v ∈ cs, v.oneCell' = true
theorem Imms.one {F : Nat → Nat → Prop} {v : Value} {x : AV} (h : Imm F w v x) : Imms F w [v] [x] :=
 ⟨rfl, fun i h1 _ => by have : i = 0 := by simpa using h1
                        subst this; exact h⟩
theorem Imms.append {F : Nat → Nat → Prop} {vs vs' : List Value} {xs xs' : List AV} (h : Imms F w vs xs) (h' : Imms F w vs' xs') : Imms F w (vs ++ vs') (xs ++ xs') := by
 have e := h.1
 have e' := h'.1
 refine ⟨by simp [e, e'], fun i h1 h2 => ?_⟩
 by_cases hi : i < vs.length
 ·rw [List.getElem_append_left hi, List.getElem_append_left (by omega)]; exact h.2 i _ _
 ·rw [List.getElem_append_right (by omega), List.getElem_append_right (by omega)]
  have := h'.2 (i - vs.length) (by simp at h1; omega) (by simp at h2; omega)
  simpa only [e] using this
theorem Reads.mono {t : TypeId} {f : α → List AV} {Ok : α → Prop} {g : β → List AV} {Ok' : β → Prop} (h : Reads enc P w t f Ok) (hq : ∀ a, Ok a → ∃ b, Ok' b ∧ g b = f a) : Reads enc P w t g Ok' :=
 fun fuel cs x hs ht => let ⟨a, h1, h2, h3⟩ := h fuel cs x hs ht; let ⟨b, k1, k2⟩ := hq a h1; ⟨b, k1, by rw [k2]; exact h2, h3⟩
theorem Reads.int {t : TypeId} {k : IntKind} (ht : P.underlying t = some (.int k)) : Reads enc P w t (fun n : Int => [.sc (.int k n)]) (fun n => (Lit.int k n).wf = true) := fun fuel cs x _ h => by
 obtain ⟨n, rfl, rfl, hw⟩ := DataW.trod_int ht h
 exact ⟨n, hw, .one (.sc _), by simp [Value.oneCell']⟩
theorem Reads.bool {t : TypeId} (ht : P.underlying t = some .bool) : Reads enc P w t (fun b : Bool => [.sc (.bool b)]) (fun _ => True) := fun fuel cs x _ h => by
 obtain ⟨b, rfl, rfl⟩ := DataW.trod_bool ht h
 exact ⟨b, trivial, .one (.sc _), by simp [Value.oneCell']⟩
theorem pick {α : Type} {p : Nat → α → Prop} (n : Nat) (h : ∀ i, i < n → ∃ a, p i a) : ∃ l : List α, l.length = n ∧ ∀ i (hi : i < l.length), p i l[i] := by
 induction n with
 | zero => exact ⟨[], rfl, fun i hi => by simp at hi⟩
 | succ n ih =>
   obtain ⟨l, h1, h2⟩ := ih fun i hi => h i (by omega)
   obtain ⟨a, ha⟩ := h n (by omega)
   refine ⟨l ++ [a], by simp [h1], fun i hi => ?_⟩
   by_cases h3 : i < l.length
   ·rw [List.getElem_append_left h3]; exact h2 i h3
   ·have : i = l.length := by simp at hi; omega
    subst this
    rw [List.getElem_append_right (Nat.le_refl _)]
    simpa [h1] using ha
theorem Reads.slice {t e : TypeId} {f : α → List AV} {Ok : α → Prop} (ht : P.underlying t = some (.slice e)) (he : Reads enc P w e f Ok) (hz : ∀ a, (f a).length = P.cellsOf e) (hz0 : 0 < P.cellsOf e) :
  Reads enc P w t (fun x : Bool × List α => [.sl x.1 (x.2.map f) .unk]) (fun x => (∀ y ∈ x.2, Ok y) ∧ (x.1 = true → x.2 = []) ∧ x.2.length * P.bytesOf e ≤ reachBytes) := fun fuel cs x hs h => by
 rcases DataW.trod_slice ht h with ⟨rfl, rfl⟩ | ⟨a, len, cap, elems, rest, n, rfl, rfl, rfl, _, hlc, hcm, hlen, hel, hrest, _⟩
 ·exact ⟨(true, []), ⟨by simp, fun _ => rfl, by simp⟩, .one (.nil _ (.inl rfl)), by simp [Value.oneCell']⟩
 unfold Fits at hs
 simp only [DataW.weights, ht, List.mem_cons, List.mem_append, List.length_map] at hs
 have hbytes : len * P.bytesOf e ≤ reachBytes := by
  have := hs _ (.inl rfl)
  rw [hlen, Nat.add_mul] at this; omega
 have hfit : ∀ i (hi : i < elems.length), Fits P e elems[i].1 := fun i hi =>
  fits_all (l := elems.map (·.1)) (fun n hn => hs n (.inr (.inl hn))) _ (List.mem_map.2 ⟨_, List.getElem_mem hi, rfl⟩)
 by_cases hc0 : cap = 0
 ·have hl0 : len = 0 := by omega
  subst hc0; subst hl0
  exact ⟨(false, []), ⟨by simp, by simp, by simp⟩, .one (.sz a _ (.inl rfl)), by simp [Value.oneCell']⟩
 have hfirst : ∃ v, w.cell? a = some v := by
  have hcells : ∃ cs', w.cells? 0 a (P.cellsOf e) = some cs' := by
   by_cases hl0 : len = 0
   ·subst hl0
    have h1 := (hrest rfl).2 0 (by omega)
    rw [List.getElem?_eq_getElem (by rw [(hrest rfl).1]; omega)] at h1
    obtain ⟨cs', h2, _⟩ := Option.bind_eq_some_iff.1 h1
    refine ⟨cs', ?_⟩
    simpa [Addr.add] using h2
   ·have h1 := hel 0 (by omega)
    rw [List.getElem?_eq_getElem (by omega)] at h1
    obtain ⟨cs', h2, _⟩ := Option.bind_eq_some_iff.1 h1
    refine ⟨cs', ?_⟩
    simpa [Addr.add] using h2
  obtain ⟨cs', h2⟩ := hcells
  obtain ⟨_, q1, q2⟩ := World.cells?_some h2
  have := q2 0 hz0
  rw [List.getElem?_eq_getElem (by omega)] at this
  exact ⟨_, by simpa [Addr.add] using this⟩
 have hsp : a.spot = none := by
  obtain ⟨v, hv⟩ := hfirst
  unfold World.cell? at hv
  cases hsp : a.spot with
  | none => rfl
  | some k =>
    rw [hsp] at hv
    split at hv <;> simp at hv
 obtain ⟨b, off, spt⟩ := a
 cases hsp
 have key : ∀ i, i < len → ∃ y : α, Ok y ∧ ∃ cs', cs'.length = P.cellsOf e ∧ (∀ j (hj : j < cs'.length), w.cell? ⟨b, off + i * P.cellsOf e + j, none⟩ = some cs'[j]) ∧ Imms (Live w) w cs' (f y) ∧ ∀ v ∈ cs', v.oneCell' = true := fun i hi => by
  have h1 := hel i hi
  rw [List.getElem?_eq_getElem (by omega)] at h1
  obtain ⟨cs', h2, h3⟩ := Option.bind_eq_some_iff.1 h1
  obtain ⟨y, k1, k2, k3⟩ := he _ _ _ (hfit i (by omega)) h3
  obtain ⟨_, q1, q2⟩ := World.cells?_some h2
  refine ⟨y, k1, cs', q1, fun j hj => ?_, k2, k3⟩
  have := q2 j (by omega)
  rw [List.getElem?_eq_getElem hj] at this
  rw [← this]
  congr 1
  unfold Addr.add
  by_cases e1 : i * P.cellsOf e = 0
  ·rw [if_pos e1]
   by_cases e2 : j = 0
   ·subst e2; simp [e1]
   ·rw [if_neg e2]; simp [e1]
  ·rw [if_neg e1]
   by_cases e2 : j = 0
   ·subst e2; simp
   ·rw [if_neg e2]
 obtain ⟨l, hl, hp⟩ := pick len key
 refine ⟨(false, l), ⟨fun y hy => ?_, by simp, by rw [hl]; exact hbytes⟩, .one ?_, by simp [Value.oneCell']⟩
 ·obtain ⟨i, hi, rfl⟩ := List.getElem_of_mem hy
  exact (hp i hi).1
 ·
  have hcell : ∀ i j, i < len → j < P.cellsOf e → ∃ v, w.cell? ⟨b, off + i * P.cellsOf e + j, none⟩ = some v ∧ v.oneCell' = true ∧ ∀ (h : i < l.length) (h' : j < (f l[i]).length), Imm (Live w) w v (f l[i])[j] := fun i j hi hj => by
   obtain ⟨_, cs', q1, q2, q3, q4⟩ := hp i (by omega)
   exact ⟨cs'[j], q2 j (by omega), q4 _ (List.getElem_mem _), fun h h' => q3.2 j (by omega) h'⟩
  have hv := fun i j => show ∃ v, i < len → j < P.cellsOf e → w.cell? ⟨b, off + i * P.cellsOf e + j, none⟩ = some v ∧ v.oneCell' = true ∧ ∀ (h : i < l.length) (h' : j < (f l[i]).length), Imm (Live w) w v (f l[i])[j] from by
   by_cases h : i < len ∧ j < P.cellsOf e
   ·obtain ⟨v, hv⟩ := hcell i j h.1 h.2; exact ⟨v, fun _ _ => hv⟩
   ·exact ⟨undef, fun h1 h2 => absurd ⟨h1, h2⟩ h⟩
  have hvs : ∀ i j, ∃ v, v = Classical.choose (hv i j) := fun i j => ⟨_, rfl⟩
  have e0 : (l.map f).length = len := by simp [hl]
  have := Imm.sl (F := Live w) (w := w) b off cap (P.cellsOf e) (l.map f) .unk (fun i j => Classical.choose (hv i j)) (by rw [e0]; exact hlc) (.inl rfl) (fun i hi => by rw [List.getElem_map]; exact hz _)
   (fun i j hi hj => by
    obtain ⟨k1, k2, _⟩ := Classical.choose_spec (hv i j) (by rw [← e0]; exact hi) hj
    refine ⟨?_, k1, k2⟩
    unfold World.cell? at k1
    show b < w.heap.size
    cases hb : w.heap[b]? with
    | none => simp [hb] at k1
    | some o => exact (Array.getElem?_eq_some_iff.1 hb).1)
   (fun i j h h' => by
    have h'2 := h'
    rw [List.getElem_map, hz] at h'2
    have := (Classical.choose_spec (hv i j) (by rw [← e0]; exact h) h'2).2.2 (by simpa using h) (by rw [hz]; exact h'2)
    simpa only [List.getElem_map] using this)
  rw [e0] at this
  exact this
def RdF (enc : TypeId × Value → H) (P : Program) (w : World) (L : List Field) (k tot : Nat) (f : α → List AV) (Ok : α → Prop) : Prop :=
 ∀ (n : Nat) (cs : List Value), cs.length = tot → (∀ fd ∈ L, ∃ y, DataW.trod enc P w 0 (fun _ => true) true n fd.type ((cs.drop fd.offset).take (P.cellsOf fd.type)) = some y ∧ Fits P fd.type y.1) →
   ∃ a, Ok a ∧ Imms (Live w) w (cs.drop k) (f a) ∧ ∀ v ∈ cs.drop k, v.oneCell' = true
theorem RdF.nil {tot : Nat} : RdF enc P w [] tot tot (fun _ : Unit => []) (fun _ => True) := fun n cs hl _ => by
 have : cs.drop tot = [] := by rw [List.drop_eq_nil_iff]; omega
 rw [this]
 exact ⟨(), trivial, ⟨rfl, fun i h => by simp at h⟩, by simp⟩
theorem RdF.cons {fd : Field} {fs : List Field} {k k' sz tot : Nat} {f : α → List AV} {Ok : α → Prop} {g : β → List AV} {Ok' : β → Prop} (ho : fd.offset = k) (hz : P.cellsOf fd.type = sz) (hk : k + sz = k')
  (h : Reads enc P w fd.type f Ok) (hs : RdF enc P w fs k' tot g Ok') : RdF enc P w (fd :: fs) k tot (fun x : α × β => f x.1 ++ g x.2) (fun x => Ok x.1 ∧ Ok' x.2) := fun n cs hl hf => by
 obtain ⟨y, hy, hyf⟩ := hf fd List.mem_cons_self
 obtain ⟨a, h1, h2, h3⟩ := h _ _ _ hyf hy
 obtain ⟨b, k1, k2, k3⟩ := hs n cs hl fun fd' h' => hf fd' (List.mem_cons_of_mem _ h')
 have e : cs.drop k = (cs.drop k).take sz ++ cs.drop k' := by
  rw [← hk, ← List.drop_drop, List.take_append_drop]
 rw [ho, hz] at h2 h3
 refine ⟨(a, b), ⟨h1, k1⟩, by rw [e]; exact h2.append k2, fun v hv => ?_⟩
 rw [e, List.mem_append] at hv
 rcases hv with hv | hv
 ·exact h3 v hv
 ·exact k3 v hv
theorem Reads.struct {t : TypeId} {fs : Array Field} {tot : Nat} {f : α → List AV} {Ok : α → Prop} (ht : P.underlying t = some (.struct fs)) (hz : P.cellsOf t = tot) (h : RdF enc P w fs.toList 0 tot f Ok) : Reads enc P w t f Ok := fun fuel cs x hs hx => by
 obtain ⟨xs, n, _, rfl, hl, hlen, hf⟩ := DataW.trod_struct ht hx
 unfold Fits at hs
 simp only [DataW.weights, ht] at hs
 obtain ⟨a, h1, h2, h3⟩ := h n cs (hl.trans hz) fun fd hfd => by
  obtain ⟨i, hi, rfl⟩ := List.getElem_of_mem hfd
  have := hf i fs.toList[i] (by simp)
  have hix : i < xs.length := by simp at hi; omega
  rw [List.getElem?_eq_getElem hix] at this
  exact ⟨_, this, fits_each hs i _ _ (by rw [List.getElem?_map, List.getElem?_eq_getElem hi]; rfl) (by rw [List.getElem?_map, List.getElem?_eq_getElem hix]; rfl)⟩
 exact ⟨a, h1, by simpa using h2, by simpa using h3⟩
theorem arr_go {sz : Nat} {f : α → List AV} {Ok : α → Prop} : ∀ (n : Nat) (cs : List Value), cs.length = n * sz →
  (∀ i, i < n → ∃ a, Ok a ∧ Imms (Live w) w ((cs.drop (i * sz)).take sz) (f a) ∧ ∀ v ∈ (cs.drop (i * sz)).take sz, v.oneCell' = true) →
  ∃ l : List α, l.length = n ∧ (∀ a ∈ l, Ok a) ∧ Imms (Live w) w cs (l.map f).flatten ∧ ∀ v ∈ cs, v.oneCell' = true
 | 0, cs, hl, _ => by
   have : cs = [] := by cases cs with
    | nil => rfl
    | cons a l => simp at hl
   subst this
   exact ⟨[], rfl, by simp, ⟨rfl, fun i h => by simp at h⟩, by simp⟩
 | n + 1, cs, hl, h => by
   obtain ⟨a, h1, h2, h3⟩ := h 0 (by omega)
   obtain ⟨l, k1, k2, k3, k4⟩ := arr_go (sz := sz) n (cs.drop sz) (by rw [List.length_drop, hl, Nat.add_mul]; omega) fun i hi => by
    have := h (i + 1) (by omega)
    rwa [List.drop_drop, show sz + i * sz = (i + 1) * sz by rw [Nat.add_mul]; omega]
   simp only [Nat.zero_mul, List.drop_zero] at h2 h3
   have e := List.take_append_drop sz cs
   refine ⟨a :: l, by simp [k1], fun b hb => ?_, ?_, fun v hv => ?_⟩
   ·rcases List.mem_cons.1 hb with rfl | hb
    ·exact h1
    ·exact k2 b hb
   ·rw [← e]; simpa using h2.append k3
   ·rw [← e, List.mem_append] at hv
    rcases hv with hv | hv
    ·exact h3 v hv
    ·exact k4 v hv
theorem Reads.array {t e : TypeId} {n sz : Nat} {f : α → List AV} {Ok : α → Prop} (ht : P.underlying t = some (.array n e)) (hz : P.cellsOf e = sz) (ha : P.cellsOf t = n * sz) (h : Reads enc P w e f Ok) :
  Reads enc P w t (fun l : List α => (l.map f).flatten) (fun l => l.length = n ∧ ∀ a ∈ l, Ok a) := fun fuel cs x hs hx => by
 obtain ⟨xs, m, _, rfl, hl, hlen, hf⟩ := DataW.trod_array ht hx
 rw [ha] at hl
 rw [hz] at hf
 unfold Fits at hs
 simp only [DataW.weights, ht] at hs
 obtain ⟨l, h1, h2, h3, h4⟩ := arr_go n cs hl fun i hi => by
  have := hf i hi
  rw [List.getElem?_eq_getElem (by omega)] at this
  exact h _ _ _ (fits_all hs _ (List.mem_map.2 ⟨_, List.getElem_mem _, rfl⟩)) this
 exact ⟨l, ⟨h1, h2⟩, h3, h4⟩
theorem Reads.imm_struct {t : TypeId} {fs : Array Field} {f : α → List AV} {Ok : α → Prop} {r : Reach} {b0 : Nat} {v : Value} {d : DataW H} {ps : List MemPlace} (ht : P.underlying t = some (.struct fs)) (h : Reads enc P w t f Ok)
  (hv : Value.okWide P w r b0 t v) (hw : Fits P t d) (hd : DataW.Trod enc P w 0 (fun _ => true) true t v d ps) : ∃ a, Ok a ∧ Imm (Live w) w v (.ag (f a)) := by
 obtain ⟨cs, rfl, _⟩ := WideShapes.okWide_struct ht hv
 obtain ⟨fuel, hd⟩ := hd
 obtain ⟨a, h1, h2, _⟩ := h _ _ _ hw hd
 refine ⟨a, h1, ?_⟩
 have : (Value.agg cs) = .agg cs.toList.toArray := by simp
 rw [this]
 exact .ag _ _ h2.1 h2.2
theorem Grown.below {F F' : Nat → Nat → Prop} {w' : World} (g : Avl.Grown F w F' w') : Below w.heap.size w w' := ⟨g.kept.os, g.kept.tape, g.kept.output, g.size, g.old⟩
theorem trodAll_stays (hl : laidOutB P = true) {w' : World} (hb : Below w.heap.size w w') {spf : Nat → Bool} : ∀ {ts : List TypeId} {vs : List Value} {ds : List (DataW H)} {ps : List MemPlace}, (∀ t ∈ ts, P.readableRec t = true ∧ t < P.types.size) →
  DataW.TrodAll enc P w 0 (fun _ => true) true ts vs ds ps → (∀ p ∈ ps, p.block < w.heap.size) → (∀ p ∈ ps, spf p.block = true) → DataW.TrodAll enc P w' 0 spf true ts vs ds ps
 | [], [], [], _, _, h, _, _ => h
 | t :: ts, v :: vs, d :: ds, _, hr, ⟨p, q, h1, h2, e⟩, hlt, hsp => by
   subst e
   refine ⟨p, q, ?_, trodAll_stays hl hb (fun t ht => hr t (List.mem_cons_of_mem _ ht)) h2 (fun x hx => hlt x (List.mem_append_right _ hx)) fun x hx => hsp x (List.mem_append_right _ hx), rfl⟩
   have := hr t List.mem_cons_self
   exact WideElems.Trod_stays hl this.1 this.2 h1 (fun x hx => hb.same (hlt x (List.mem_append_left _ hx))) fun x hx => hsp x (List.mem_append_left _ hx)
 | [], _ :: _, _, _, _, h, _, _ => h.elim
 | [], [], _ :: _, _, _, h, _, _ => h.elim
 | _ :: _, [], _, _, _, h, _, _ => h.elim
 | _ :: _, _ :: _, [], _, _, h, _, _ => h.elim
theorem post_of_below {f : Func} {s : ChangeSpec} {apart fresh handsOn again : Bool} {W W' : World} {args : Array Value} {v : Value} {ds gs : List (DataW H)} {before pa pv : List MemPlace}
  (hW : DataW.Whole enc P f.params.toList s.vars apart W args.toList ds gs before)
  (hres : ∀ (b : Nat) (sp : Nat → Bool) (hd : Bool), DataW.TrodAll enc P W' b sp hd f.resultTypes.toList (v.resultList f.resultTypes.size) (s.fn H (ds ++ gs)).results [])
  (hargs : ∀ sp : Nat → Bool, (∀ p ∈ before, sp p.block = true) → DataW.TrodAll enc P W' 0 sp true f.params.toList args.toList (s.fn H (ds ++ gs)).args pa)
  (hvars : ∀ sp : Nat → Bool, (∀ p ∈ before, sp p.block = true) → DataW.TrodVars enc P W' sp s.vars (s.fn H (ds ++ gs)).vars pv)
  (hps : before = pa ++ pv) (hk : W.keptBut W' (· ∈ before)) (hfz : ∀ a : Addr, a.block < W.heap.size → W'.frozen? a = W.frozen? a)
  (hok : ∀ (j : Nat) (t : TypeId) (r : Value), f.resultTypes[j]? = some t → (v.resultList f.resultTypes.size)[j]? = some r → Value.okWide P W' .any 0 t r) :
  s.post enc P f apart fresh handsOn again W args v W' := by
 have hlt := hW.lt
 have hold : ∀ p ∈ before, (fun b => decide (b < W.heap.size)) p.block = true := fun p hp => by simpa using hW.lt p hp
 refine ⟨ds, gs, before, [], pa, pv, hW, hres _ _ _, hargs _ hold, hvars _ hold, World.keptBut_mono (fun p hp => ⟨hp, ?_⟩) hk, fun _ => ?_⟩
 ·rw [hps, List.mem_append] at hp
  exact Or.inr hp
 ·obtain ⟨_, _, _, _, _, hz, hn⟩ := hW
  refine ⟨hok, _, _, ([] ++ pa) ++ pv, ⟨[] ++ pa, pv, trodAll_append (hargs _ (fun _ _ => rfl)) (hres _ _ _), hvars _ (fun _ _ => rfl), rfl, ?_, ?_⟩, ?_⟩
  ·intro b off hp
   have hp' : .cell b off ∈ before := by rw [hps]; simpa using hp
   rw [hfz _ (hlt _ hp')]
   exact hz b off hp'
  ·intro ha
   have := hn ha
   rw [hps] at this
   simpa using this
  ·intro p hp _
   rw [hps]
   simpa using hp
theorem law_calls {f : FuncId} {fn : Func} {s : ChangeSpec} {apart fresh handsOn again : Bool} {args : Array Value} {avs : List AV} {ds : List (DataW H)} {before : List MemPlace} {tb : TypeId}
  (hl : laidOutB P = true) (hrd : (fn.params.toList.all fun t => P.readableRec t && decide (t < P.types.size)) = true) (hrt : fn.resultTypes = #[tb]) (htb : P.underlying tb = some .bool) (hvars : s.vars = [])
  (hs : s.fn H (ds ++ []) = { results := [.lit (.bool true)], args := ds })
  (h : PureIs P f avs (.sc (.bool true))) (hi : Imms (Live w) w args.toList avs) (hW : DataW.Whole enc P fn.params.toList s.vars apart w args.toList ds [] before) (hgl : Globs (Live w) w := by exact fun g vs hg => by cases hg) :
  Calls P f args w fun e W' => ∃ v, e = .returned v ∧ s.post enc P fn apart fresh handsOn again w args v W' := by
 have hW' := hW
 obtain ⟨p, q, hA, hV, rfl, hfz, hnd⟩ := hW
 rw [hvars] at hV
 obtain ⟨_, rfl⟩ := trodVars_none hV
 have hc := callsIn_wide.1 (h.2 (Live w) w args.toList ⟨fun _ _ h => h, hgl⟩ hi)
 rw [Array.toArray_toList] at hc
 refine hc.mono fun e W' ⟨v, F', he, hr, g⟩ => ?_
 have hv : v = .bool true := by cases hr; rfl
 subst hv
 have hb := Grown.below g
 refine ⟨_, he, post_of_below (pa := p) (pv := []) (by simpa using hW') (fun _ _ _ => ?_) (fun sp hsp => ?_) (fun _ _ => ?_) (by simp) (hb.frame _) (fun a ha => by unfold World.frozen?; rw [g.old _ ha]) ?_⟩
 ·rw [hs, hrt]; exact trodAll_mk1 (shut_bool htb true)
 ·rw [hs]
  refine trodAll_stays hl hb (fun t ht => ?_) hA (fun x hx => hW'.lt x (by simpa using hx)) fun x hx => hsp x (by simpa using hx)
  have := List.all_eq_true.1 hrd t ht
  simpa using this
 ·rw [hvars, hs]; exact rfl
 ·exact ok_one hrt rfl (okWide_bool_mk htb true)
end
open Go Go.Proofs.Tryz
@[go_sem] theorem ty_cellsOf_1 : Program.cellsOf prog 1 = 1 := by kernel_rfl
@[go_sem] theorem ty_cellsOf_112 : Program.cellsOf prog 112 = 1 := by kernel_rfl
@[go_sem] theorem ty_cellsOf_114 : Program.cellsOf prog 114 = 4 := by kernel_rfl
@[go_sem] theorem ty_cellsOf_134 : Program.cellsOf prog 134 = 64 := by kernel_rfl
@[go_sem] theorem ty_cellsOf_156 : Program.cellsOf prog 156 = 4 := by kernel_rfl
@[go_sem] theorem ty_cellsOf_162 : Program.cellsOf prog 162 = 1 := by kernel_rfl
@[go_sem] theorem ty_cellsOf_185 : Program.cellsOf prog 185 = 3 := by kernel_rfl
@[go_sem] theorem ty_cellsOf_194 : Program.cellsOf prog 194 = 4 := by kernel_rfl
@[go_sem] theorem ty_cellsOf_22 : Program.cellsOf prog 22 = 1 := by kernel_rfl
@[go_sem] theorem ty_cellsOf_24 : Program.cellsOf prog 24 = 5 := by kernel_rfl
@[go_sem] theorem ty_cellsOf_240 : Program.cellsOf prog 240 = 1 := by kernel_rfl
@[go_sem] theorem ty_cellsOf_25 : Program.cellsOf prog 25 = 2 := by kernel_rfl
@[go_sem] theorem ty_cellsOf_27 : Program.cellsOf prog 27 = 2 := by kernel_rfl
@[go_sem] theorem ty_cellsOf_297 : Program.cellsOf prog 297 = 2 := by kernel_rfl
@[go_sem] theorem ty_cellsOf_3 : Program.cellsOf prog 3 = 1 := by kernel_rfl
@[go_sem] theorem ty_cellsOf_30 : Program.cellsOf prog 30 = 1 := by kernel_rfl
@[go_sem] theorem ty_cellsOf_33 : Program.cellsOf prog 33 = 1 := by kernel_rfl
@[go_sem] theorem ty_cellsOf_35 : Program.cellsOf prog 35 = 3 := by kernel_rfl
@[go_sem] theorem ty_cellsOf_38 : Program.cellsOf prog 38 = 1 := by kernel_rfl
@[go_sem] theorem ty_cellsOf_39 : Program.cellsOf prog 39 = 1 := by kernel_rfl
@[go_sem] theorem ty_cellsOf_4 : Program.cellsOf prog 4 = 1 := by kernel_rfl
@[go_sem] theorem ty_cellsOf_5 : Program.cellsOf prog 5 = 1 := by kernel_rfl
@[go_sem] theorem ty_cellsOf_58 : Program.cellsOf prog 58 = 1 := by kernel_rfl
@[go_sem] theorem ty_cellsOf_69 : Program.cellsOf prog 69 = 1 := by kernel_rfl
@[go_sem] theorem ty_cellsOf_72 : Program.cellsOf prog 72 = 1 := by kernel_rfl
@[go_sem] theorem ty_cellsOf_77 : Program.cellsOf prog 77 = 1 := by kernel_rfl
@[go_sem] theorem ty_cellsOf_79 : Program.cellsOf prog 79 = 7 := by kernel_rfl
@[go_sem] theorem ty_cellsOf_87 : Program.cellsOf prog 87 = 1 := by kernel_rfl
@[go_sem] theorem ty_cellsOf_9 : Program.cellsOf prog 9 = 1 := by kernel_rfl
@[go_sem] theorem ty_cellsOf_91 : Program.cellsOf prog 91 = 2 := by kernel_rfl
@[go_sem] theorem ty_eqKinds_112 : eqKinds prog 112 = none := by kernel_rfl
@[go_sem] theorem ty_eqKinds_162 : eqKinds prog 162 = none := by kernel_rfl
@[go_sem] theorem ty_eqKinds_2 : eqKinds prog 2 = none := by kernel_rfl
@[go_sem] theorem ty_eqKinds_209 : eqKinds prog 209 = none := by kernel_rfl
@[go_sem] theorem ty_eqKinds_21 : eqKinds prog 21 = none := by kernel_rfl
@[go_sem] theorem ty_eqKinds_237 : eqKinds prog 237 = none := by kernel_rfl
@[go_sem] theorem ty_eqKinds_240 : eqKinds prog 240 = none := by kernel_rfl
@[go_sem] theorem ty_eqKinds_27 : eqKinds prog 27 = some [Kd.int IntKind.i64, Kd.int IntKind.i64] := by kernel_rfl
@[go_sem] theorem ty_eqKinds_271 : eqKinds prog 271 = none := by kernel_rfl
@[go_sem] theorem ty_eqKinds_287 : eqKinds prog 287 = none := by kernel_rfl
@[go_sem] theorem ty_eqKinds_3 : eqKinds prog 3 = none := by kernel_rfl
@[go_sem] theorem ty_eqKinds_38 : eqKinds prog 38 = none := by kernel_rfl
@[go_sem] theorem ty_eqKinds_39 : eqKinds prog 39 = none := by kernel_rfl
@[go_sem] theorem ty_eqKinds_5 : eqKinds prog 5 = none := by kernel_rfl
@[go_sem] theorem ty_eqKinds_58 : eqKinds prog 58 = none := by kernel_rfl
@[go_sem] theorem ty_eqKinds_9 : eqKinds prog 9 = none := by kernel_rfl
@[go_sem] theorem ty_eqKinds_91 : eqKinds prog 91 = some [Kd.int IntKind.i64, Kd.int IntKind.i64] := by kernel_rfl
@[go_sem] theorem ty_kindsOf_229 : kindsOf prog 8 229 = some [Kd.int IntKind.i64, Kd.int IntKind.i64, Kd.int IntKind.i64, Kd.int IntKind.i64, Kd.int IntKind.i64, Kd.int IntKind.i64, Kd.int IntKind.i64, Kd.int IntKind.i64, Kd.int IntKind.i64, Kd.int IntKind.i64, Kd.int IntKind.i64, Kd.int IntKind.i64, Kd.int IntKind.i64, Kd.int IntKind.i64, Kd.int IntKind.i64, Kd.int IntKind.i64, Kd.int IntKind.i64, Kd.int IntKind.i64, Kd.int IntKind.i64, Kd.int IntKind.i64, Kd.int IntKind.i64, Kd.int IntKind.i64, Kd.int IntKind.i64, Kd.int IntKind.i64, Kd.int IntKind.i64, Kd.int IntKind.i64, Kd.int IntKind.i64, Kd.int IntKind.i64, Kd.int IntKind.i64, Kd.int IntKind.i64, Kd.int IntKind.i64, Kd.int IntKind.i64, Kd.int IntKind.i64] := by kernel_rfl
@[go_sem] theorem ty_kindsOf_3 : kindsOf prog 8 3 = some [Kd.int IntKind.i64] := by kernel_rfl
@[go_sem] theorem ty_kindsOf_91 : kindsOf prog 8 91 = some [Kd.int IntKind.i64, Kd.int IntKind.i64] := by kernel_rfl
@[go_sem] theorem ty_nilTy_112 : nilTy prog 112 = 0 := by kernel_rfl
@[go_sem] theorem ty_nilTy_162 : nilTy prog 162 = 3 := by kernel_rfl
@[go_sem] theorem ty_nilTy_2 : nilTy prog 2 = 0 := by kernel_rfl
@[go_sem] theorem ty_nilTy_209 : nilTy prog 209 = 0 := by kernel_rfl
@[go_sem] theorem ty_nilTy_21 : nilTy prog 21 = 0 := by kernel_rfl
@[go_sem] theorem ty_nilTy_237 : nilTy prog 237 = 0 := by kernel_rfl
@[go_sem] theorem ty_nilTy_240 : nilTy prog 240 = 0 := by kernel_rfl
@[go_sem] theorem ty_nilTy_27 : nilTy prog 27 = 0 := by kernel_rfl
@[go_sem] theorem ty_nilTy_271 : nilTy prog 271 = 0 := by kernel_rfl
@[go_sem] theorem ty_nilTy_287 : nilTy prog 287 = 0 := by kernel_rfl
@[go_sem] theorem ty_nilTy_3 : nilTy prog 3 = 0 := by kernel_rfl
@[go_sem] theorem ty_nilTy_38 : nilTy prog 38 = 1 := by kernel_rfl
@[go_sem] theorem ty_nilTy_39 : nilTy prog 39 = 0 := by kernel_rfl
@[go_sem] theorem ty_nilTy_5 : nilTy prog 5 = 0 := by kernel_rfl
@[go_sem] theorem ty_nilTy_58 : nilTy prog 58 = 1 := by kernel_rfl
@[go_sem] theorem ty_nilTy_9 : nilTy prog 9 = 0 := by kernel_rfl
@[go_sem] theorem ty_nilTy_91 : nilTy prog 91 = 0 := by kernel_rfl
@[go_sem] theorem ty_placeOf_100_0 : placeOf prog 100 0 = some (0, 1) := by kernel_rfl
@[go_sem] theorem ty_placeOf_100_1 : placeOf prog 100 1 = some (1, 1) := by kernel_rfl
@[go_sem] theorem ty_placeOf_100_2 : placeOf prog 100 2 = some (2, 2) := by kernel_rfl
@[go_sem] theorem ty_placeOf_100_3 : placeOf prog 100 3 = some (4, 2) := by kernel_rfl
@[go_sem] theorem ty_placeOf_114_0 : placeOf prog 114 0 = some (0, 1) := by kernel_rfl
@[go_sem] theorem ty_placeOf_114_1 : placeOf prog 114 1 = some (1, 1) := by kernel_rfl
@[go_sem] theorem ty_placeOf_120_0 : placeOf prog 120 0 = some (0, 1) := by kernel_rfl
@[go_sem] theorem ty_placeOf_120_1 : placeOf prog 120 1 = some (1, 1) := by kernel_rfl
@[go_sem] theorem ty_placeOf_124_0 : placeOf prog 124 0 = some (0, 1) := by kernel_rfl
@[go_sem] theorem ty_placeOf_156_0 : placeOf prog 156 0 = some (0, 2) := by kernel_rfl
@[go_sem] theorem ty_placeOf_156_1 : placeOf prog 156 1 = some (2, 1) := by kernel_rfl
@[go_sem] theorem ty_placeOf_156_2 : placeOf prog 156 2 = some (3, 1) := by kernel_rfl
@[go_sem] theorem ty_placeOf_185_0 : placeOf prog 185 0 = some (0, 1) := by kernel_rfl
@[go_sem] theorem ty_placeOf_185_1 : placeOf prog 185 1 = some (1, 1) := by kernel_rfl
@[go_sem] theorem ty_placeOf_185_2 : placeOf prog 185 2 = some (2, 1) := by kernel_rfl
@[go_sem] theorem ty_placeOf_194_0 : placeOf prog 194 0 = some (0, 1) := by kernel_rfl
@[go_sem] theorem ty_placeOf_194_1 : placeOf prog 194 1 = some (1, 1) := by kernel_rfl
@[go_sem] theorem ty_placeOf_194_2 : placeOf prog 194 2 = some (2, 1) := by kernel_rfl
@[go_sem] theorem ty_placeOf_229_0 : placeOf prog 229 0 = some (0, 1) := by kernel_rfl
@[go_sem] theorem ty_placeOf_229_1 : placeOf prog 229 1 = some (1, 32) := by kernel_rfl
@[go_sem] theorem ty_placeOf_27_0 : placeOf prog 27 0 = some (0, 1) := by kernel_rfl
@[go_sem] theorem ty_placeOf_27_1 : placeOf prog 27 1 = some (1, 1) := by kernel_rfl
@[go_sem] theorem ty_placeOf_35_0 : placeOf prog 35 0 = some (0, 1) := by kernel_rfl
@[go_sem] theorem ty_placeOf_35_1 : placeOf prog 35 1 = some (1, 1) := by kernel_rfl
@[go_sem] theorem ty_placeOf_35_2 : placeOf prog 35 2 = some (2, 1) := by kernel_rfl
@[go_sem] theorem ty_placeOf_91_0 : placeOf prog 91 0 = some (0, 1) := by kernel_rfl
@[go_sem] theorem ty_placeOf_91_1 : placeOf prog 91 1 = some (1, 1) := by kernel_rfl
@[go_sem] theorem ty_tarr_101 : tarr prog 101 = none := by kernel_rfl
@[go_sem] theorem ty_tarr_125 : tarr prog 125 = none := by kernel_rfl
@[go_sem] theorem ty_tarr_134 : tarr prog 134 = some (64, 38) := by kernel_rfl
@[go_sem] theorem ty_tarr_149 : tarr prog 149 = none := by kernel_rfl
@[go_sem] theorem ty_tarr_187 : tarr prog 187 = some (64, 134) := by kernel_rfl
@[go_sem] theorem ty_tarr_188 : tarr prog 188 = none := by kernel_rfl
@[go_sem] theorem ty_tarr_196 : tarr prog 196 = none := by kernel_rfl
@[go_sem] theorem ty_tarr_219 : tarr prog 219 = some (5, 9) := by kernel_rfl
@[go_sem] theorem ty_tarr_22 : tarr prog 22 = none := by kernel_rfl
@[go_sem] theorem ty_tarr_226 : tarr prog 226 = some (16, 91) := by kernel_rfl
@[go_sem] theorem ty_tarr_232 : tarr prog 232 = none := by kernel_rfl
@[go_sem] theorem ty_tarr_233 : tarr prog 233 = none := by kernel_rfl
@[go_sem] theorem ty_tarr_247 : tarr prog 247 = some (256, 4) := by kernel_rfl
@[go_sem] theorem ty_tarr_25 : tarr prog 25 = some (2, 5) := by kernel_rfl
@[go_sem] theorem ty_tarr_265 : tarr prog 265 = some (24, 5) := by kernel_rfl
@[go_sem] theorem ty_tarr_285 : tarr prog 285 = some (20, 240) := by kernel_rfl
@[go_sem] theorem ty_tarr_286 : tarr prog 286 = some (65, 5) := by kernel_rfl
@[go_sem] theorem ty_tarr_295 : tarr prog 295 = some (256, 5) := by kernel_rfl
@[go_sem] theorem ty_tarr_298 : tarr prog 298 = some (16, 297) := by kernel_rfl
@[go_sem] theorem ty_tarr_30 : tarr prog 30 = none := by kernel_rfl
@[go_sem] theorem ty_tarr_304 : tarr prog 304 = some (32, 5) := by kernel_rfl
@[go_sem] theorem ty_tarr_305 : tarr prog 305 = some (64, 5) := by kernel_rfl
@[go_sem] theorem ty_tarr_33 : tarr prog 33 = none := by kernel_rfl
@[go_sem] theorem ty_tarr_38 : tarr prog 38 = none := by kernel_rfl
@[go_sem] theorem ty_tarr_58 : tarr prog 58 = none := by kernel_rfl
@[go_sem] theorem ty_tarr_61 : tarr prog 61 = none := by kernel_rfl
@[go_sem] theorem ty_tarr_69 : tarr prog 69 = none := by kernel_rfl
@[go_sem] theorem ty_tarr_72 : tarr prog 72 = none := by kernel_rfl
@[go_sem] theorem ty_tarr_77 : tarr prog 77 = none := by kernel_rfl
@[go_sem] theorem ty_tarr_9 : tarr prog 9 = none := by kernel_rfl
@[go_sem] theorem ty_tarr_91 : tarr prog 91 = some (2, 3) := by kernel_rfl
@[go_sem] theorem ty_tbool_112 : tbool prog 112 = false := by kernel_rfl
@[go_sem] theorem ty_tbool_162 : tbool prog 162 = false := by kernel_rfl
@[go_sem] theorem ty_tbool_2 : tbool prog 2 = false := by kernel_rfl
@[go_sem] theorem ty_tbool_209 : tbool prog 209 = false := by kernel_rfl
@[go_sem] theorem ty_tbool_21 : tbool prog 21 = false := by kernel_rfl
@[go_sem] theorem ty_tbool_237 : tbool prog 237 = false := by kernel_rfl
@[go_sem] theorem ty_tbool_240 : tbool prog 240 = false := by kernel_rfl
@[go_sem] theorem ty_tbool_27 : tbool prog 27 = false := by kernel_rfl
@[go_sem] theorem ty_tbool_271 : tbool prog 271 = false := by kernel_rfl
@[go_sem] theorem ty_tbool_287 : tbool prog 287 = false := by kernel_rfl
@[go_sem] theorem ty_tbool_3 : tbool prog 3 = false := by kernel_rfl
@[go_sem] theorem ty_tbool_38 : tbool prog 38 = false := by kernel_rfl
@[go_sem] theorem ty_tbool_39 : tbool prog 39 = false := by kernel_rfl
@[go_sem] theorem ty_tbool_5 : tbool prog 5 = false := by kernel_rfl
@[go_sem] theorem ty_tbool_58 : tbool prog 58 = false := by kernel_rfl
@[go_sem] theorem ty_tbool_9 : tbool prog 9 = false := by kernel_rfl
@[go_sem] theorem ty_tbool_91 : tbool prog 91 = false := by kernel_rfl
@[go_sem] theorem ty_tbuild_100 : tbuild prog 100 = true := by kernel_rfl
@[go_sem] theorem ty_tbuild_114 : tbuild prog 114 = true := by kernel_rfl
@[go_sem] theorem ty_tbuild_120 : tbuild prog 120 = true := by kernel_rfl
@[go_sem] theorem ty_tbuild_124 : tbuild prog 124 = true := by kernel_rfl
@[go_sem] theorem ty_tbuild_156 : tbuild prog 156 = true := by kernel_rfl
@[go_sem] theorem ty_tbuild_185 : tbuild prog 185 = true := by kernel_rfl
@[go_sem] theorem ty_tbuild_187 : tbuild prog 187 = true := by kernel_rfl
@[go_sem] theorem ty_tbuild_194 : tbuild prog 194 = true := by kernel_rfl
@[go_sem] theorem ty_tbuild_229 : tbuild prog 229 = true := by kernel_rfl
@[go_sem] theorem ty_tbuild_27 : tbuild prog 27 = true := by kernel_rfl
@[go_sem] theorem ty_tbuild_35 : tbuild prog 35 = true := by kernel_rfl
@[go_sem] theorem ty_tbuild_79 : tbuild prog 79 = true := by kernel_rfl
@[go_sem] theorem ty_tbuild_91 : tbuild prog 91 = true := by kernel_rfl
@[go_sem] theorem ty_telem_100 : telem prog 100 = none := by kernel_rfl
@[go_sem] theorem ty_telem_101 : telem prog 101 = some 156 := by kernel_rfl
@[go_sem] theorem ty_telem_105 : telem prog 105 = none := by kernel_rfl
@[go_sem] theorem ty_telem_114 : telem prog 114 = none := by kernel_rfl
@[go_sem] theorem ty_telem_122 : telem prog 122 = none := by kernel_rfl
@[go_sem] theorem ty_telem_125 : telem prog 125 = some 1 := by kernel_rfl
@[go_sem] theorem ty_telem_134 : telem prog 134 = none := by kernel_rfl
@[go_sem] theorem ty_telem_135 : telem prog 135 = none := by kernel_rfl
@[go_sem] theorem ty_telem_140 : telem prog 140 = none := by kernel_rfl
@[go_sem] theorem ty_telem_144 : telem prog 144 = none := by kernel_rfl
@[go_sem] theorem ty_telem_149 : telem prog 149 = some 39 := by kernel_rfl
@[go_sem] theorem ty_telem_152 : telem prog 152 = none := by kernel_rfl
@[go_sem] theorem ty_telem_162 : telem prog 162 = none := by kernel_rfl
@[go_sem] theorem ty_telem_164 : telem prog 164 = none := by kernel_rfl
@[go_sem] theorem ty_telem_185 : telem prog 185 = none := by kernel_rfl
@[go_sem] theorem ty_telem_187 : telem prog 187 = none := by kernel_rfl
@[go_sem] theorem ty_telem_188 : telem prog 188 = some 194 := by kernel_rfl
@[go_sem] theorem ty_telem_196 : telem prog 196 = some 77 := by kernel_rfl
@[go_sem] theorem ty_telem_198 : telem prog 198 = none := by kernel_rfl
@[go_sem] theorem ty_telem_2 : telem prog 2 = none := by kernel_rfl
@[go_sem] theorem ty_telem_203 : telem prog 203 = none := by kernel_rfl
@[go_sem] theorem ty_telem_209 : telem prog 209 = none := by kernel_rfl
@[go_sem] theorem ty_telem_21 : telem prog 21 = none := by kernel_rfl
@[go_sem] theorem ty_telem_214 : telem prog 214 = none := by kernel_rfl
@[go_sem] theorem ty_telem_219 : telem prog 219 = none := by kernel_rfl
@[go_sem] theorem ty_telem_22 : telem prog 22 = some 87 := by kernel_rfl
@[go_sem] theorem ty_telem_221 : telem prog 221 = none := by kernel_rfl
@[go_sem] theorem ty_telem_224 : telem prog 224 = none := by kernel_rfl
@[go_sem] theorem ty_telem_226 : telem prog 226 = none := by kernel_rfl
@[go_sem] theorem ty_telem_232 : telem prog 232 = some 4 := by kernel_rfl
@[go_sem] theorem ty_telem_233 : telem prog 233 = some 185 := by kernel_rfl
@[go_sem] theorem ty_telem_237 : telem prog 237 = none := by kernel_rfl
@[go_sem] theorem ty_telem_24 : telem prog 24 = none := by kernel_rfl
@[go_sem] theorem ty_telem_240 : telem prog 240 = none := by kernel_rfl
@[go_sem] theorem ty_telem_247 : telem prog 247 = none := by kernel_rfl
@[go_sem] theorem ty_telem_25 : telem prog 25 = none := by kernel_rfl
@[go_sem] theorem ty_telem_251 : telem prog 251 = none := by kernel_rfl
@[go_sem] theorem ty_telem_252 : telem prog 252 = none := by kernel_rfl
@[go_sem] theorem ty_telem_265 : telem prog 265 = none := by kernel_rfl
@[go_sem] theorem ty_telem_27 : telem prog 27 = none := by kernel_rfl
@[go_sem] theorem ty_telem_285 : telem prog 285 = none := by kernel_rfl
@[go_sem] theorem ty_telem_286 : telem prog 286 = none := by kernel_rfl
@[go_sem] theorem ty_telem_287 : telem prog 287 = none := by kernel_rfl
@[go_sem] theorem ty_telem_29 : telem prog 29 = none := by kernel_rfl
@[go_sem] theorem ty_telem_291 : telem prog 291 = none := by kernel_rfl
@[go_sem] theorem ty_telem_295 : telem prog 295 = none := by kernel_rfl
@[go_sem] theorem ty_telem_298 : telem prog 298 = none := by kernel_rfl
@[go_sem] theorem ty_telem_3 : telem prog 3 = none := by kernel_rfl
@[go_sem] theorem ty_telem_30 : telem prog 30 = some 5 := by kernel_rfl
@[go_sem] theorem ty_telem_304 : telem prog 304 = none := by kernel_rfl
@[go_sem] theorem ty_telem_305 : telem prog 305 = none := by kernel_rfl
@[go_sem] theorem ty_telem_32 : telem prog 32 = none := by kernel_rfl
@[go_sem] theorem ty_telem_33 : telem prog 33 = some 58 := by kernel_rfl
@[go_sem] theorem ty_telem_35 : telem prog 35 = none := by kernel_rfl
@[go_sem] theorem ty_telem_38 : telem prog 38 = some 3 := by kernel_rfl
@[go_sem] theorem ty_telem_39 : telem prog 39 = none := by kernel_rfl
@[go_sem] theorem ty_telem_4 : telem prog 4 = none := by kernel_rfl
@[go_sem] theorem ty_telem_5 : telem prog 5 = none := by kernel_rfl
@[go_sem] theorem ty_telem_58 : telem prog 58 = some 27 := by kernel_rfl
@[go_sem] theorem ty_telem_61 : telem prog 61 = some 91 := by kernel_rfl
@[go_sem] theorem ty_telem_69 : telem prog 69 = some 38 := by kernel_rfl
@[go_sem] theorem ty_telem_72 : telem prog 72 = some 114 := by kernel_rfl
@[go_sem] theorem ty_telem_77 : telem prog 77 = some 9 := by kernel_rfl
@[go_sem] theorem ty_telem_79 : telem prog 79 = none := by kernel_rfl
@[go_sem] theorem ty_telem_9 : telem prog 9 = none := by kernel_rfl
@[go_sem] theorem ty_telem_91 : telem prog 91 = none := by kernel_rfl
@[go_sem] theorem ty_tfield_100_0 : tfield prog 100 0 = some (0, 3) := by kernel_rfl
@[go_sem] theorem ty_tfield_100_1 : tfield prog 100 1 = some (1, 3) := by kernel_rfl
@[go_sem] theorem ty_tfield_100_2 : tfield prog 100 2 = some (2, 27) := by kernel_rfl
@[go_sem] theorem ty_tfield_100_3 : tfield prog 100 3 = some (4, 27) := by kernel_rfl
@[go_sem] theorem ty_tfield_114_0 : tfield prog 114 0 = some (0, 112) := by kernel_rfl
@[go_sem] theorem ty_tfield_114_1 : tfield prog 114 1 = some (1, 9) := by kernel_rfl
@[go_sem] theorem ty_tfield_114_2 : tfield prog 114 2 = some (2, 3) := by kernel_rfl
@[go_sem] theorem ty_tfield_114_3 : tfield prog 114 3 = some (3, 3) := by kernel_rfl
@[go_sem] theorem ty_tfield_120_0 : tfield prog 120 0 = some (0, 3) := by kernel_rfl
@[go_sem] theorem ty_tfield_120_1 : tfield prog 120 1 = some (1, 39) := by kernel_rfl
@[go_sem] theorem ty_tfield_124_0 : tfield prog 124 0 = some (0, 72) := by kernel_rfl
@[go_sem] theorem ty_tfield_124_1 : tfield prog 124 1 = some (1, 3) := by kernel_rfl
@[go_sem] theorem ty_tfield_124_2 : tfield prog 124 2 = some (2, 79) := by kernel_rfl
@[go_sem] theorem ty_tfield_156_0 : tfield prog 156 0 = some (0, 91) := by kernel_rfl
@[go_sem] theorem ty_tfield_156_1 : tfield prog 156 1 = some (2, 3) := by kernel_rfl
@[go_sem] theorem ty_tfield_156_2 : tfield prog 156 2 = some (3, 3) := by kernel_rfl
@[go_sem] theorem ty_tfield_164_0 : tfield prog 164 0 = some (0, 162) := by kernel_rfl
@[go_sem] theorem ty_tfield_164_1 : tfield prog 164 1 = some (1, 30) := by kernel_rfl
@[go_sem] theorem ty_tfield_185_0 : tfield prog 185 0 = some (0, 3) := by kernel_rfl
@[go_sem] theorem ty_tfield_194_0 : tfield prog 194 0 = some (0, 3) := by kernel_rfl
@[go_sem] theorem ty_tfield_194_1 : tfield prog 194 1 = some (1, 3) := by kernel_rfl
@[go_sem] theorem ty_tfield_194_2 : tfield prog 194 2 = some (2, 38) := by kernel_rfl
@[go_sem] theorem ty_tfield_24_0 : tfield prog 24 0 = some (0, 5) := by kernel_rfl
@[go_sem] theorem ty_tfield_24_1 : tfield prog 24 1 = some (1, 5) := by kernel_rfl
@[go_sem] theorem ty_tfield_24_2 : tfield prog 24 2 = some (2, 5) := by kernel_rfl
@[go_sem] theorem ty_tfield_24_3 : tfield prog 24 3 = some (3, 4) := by kernel_rfl
@[go_sem] theorem ty_tfield_24_4 : tfield prog 24 4 = some (4, 22) := by kernel_rfl
@[go_sem] theorem ty_tfield_27_0 : tfield prog 27 0 = some (0, 3) := by kernel_rfl
@[go_sem] theorem ty_tfield_27_1 : tfield prog 27 1 = some (1, 3) := by kernel_rfl
@[go_sem] theorem ty_tfield_29_0 : tfield prog 29 0 = some (0, 24) := by kernel_rfl
@[go_sem] theorem ty_tfield_29_1 : tfield prog 29 1 = some (5, 24) := by kernel_rfl
@[go_sem] theorem ty_tfield_29_2 : tfield prog 29 2 = some (10, 4) := by kernel_rfl
@[go_sem] theorem ty_tfield_29_3 : tfield prog 29 3 = some (11, 25) := by kernel_rfl
@[go_sem] theorem ty_tfield_29_4 : tfield prog 29 4 = some (13, 25) := by kernel_rfl
@[go_sem] theorem ty_tfield_29_5 : tfield prog 29 5 = some (15, 27) := by kernel_rfl
@[go_sem] theorem ty_tfield_297_0 : tfield prog 297 0 = some (0, 5) := by kernel_rfl
@[go_sem] theorem ty_tfield_297_1 : tfield prog 297 1 = some (1, 5) := by kernel_rfl
@[go_sem] theorem ty_tfield_32_0 : tfield prog 32 0 = some (0, 30) := by kernel_rfl
@[go_sem] theorem ty_tfield_35_0 : tfield prog 35 0 = some (0, 3) := by kernel_rfl
@[go_sem] theorem ty_tfield_35_1 : tfield prog 35 1 = some (1, 3) := by kernel_rfl
@[go_sem] theorem ty_tfield_35_2 : tfield prog 35 2 = some (2, 33) := by kernel_rfl
@[go_sem] theorem ty_tfield_79_0 : tfield prog 79 0 = some (0, 9) := by kernel_rfl
@[go_sem] theorem ty_tfield_79_1 : tfield prog 79 1 = some (1, 35) := by kernel_rfl
@[go_sem] theorem ty_tfield_79_2 : tfield prog 79 2 = some (4, 77) := by kernel_rfl
@[go_sem] theorem ty_tfield_79_3 : tfield prog 79 3 = some (5, 77) := by kernel_rfl
@[go_sem] theorem ty_tfield_79_4 : tfield prog 79 4 = some (6, 77) := by kernel_rfl
@[go_sem] theorem ty_tiface_120 : tiface prog 120 = false := by kernel_rfl
@[go_sem] theorem ty_tiface_20 : tiface prog 20 = true := by kernel_rfl
@[go_sem] theorem ty_tiface_9 : tiface prog 9 = false := by kernel_rfl
@[go_sem] theorem ty_tinf_1 : tinf prog 1 = true := by kernel_rfl
@[go_sem] theorem ty_tinf_114 : tinf prog 114 = true := by kernel_rfl
@[go_sem] theorem ty_tinf_134 : tinf prog 134 = true := by kernel_rfl
@[go_sem] theorem ty_tinf_156 : tinf prog 156 = true := by kernel_rfl
@[go_sem] theorem ty_tinf_185 : tinf prog 185 = true := by kernel_rfl
@[go_sem] theorem ty_tinf_194 : tinf prog 194 = true := by kernel_rfl
@[go_sem] theorem ty_tinf_240 : tinf prog 240 = true := by kernel_rfl
@[go_sem] theorem ty_tinf_27 : tinf prog 27 = true := by kernel_rfl
@[go_sem] theorem ty_tinf_297 : tinf prog 297 = true := by kernel_rfl
@[go_sem] theorem ty_tinf_3 : tinf prog 3 = true := by kernel_rfl
@[go_sem] theorem ty_tinf_38 : tinf prog 38 = true := by kernel_rfl
@[go_sem] theorem ty_tinf_39 : tinf prog 39 = true := by kernel_rfl
@[go_sem] theorem ty_tinf_4 : tinf prog 4 = true := by kernel_rfl
@[go_sem] theorem ty_tinf_5 : tinf prog 5 = true := by kernel_rfl
@[go_sem] theorem ty_tinf_58 : tinf prog 58 = true := by kernel_rfl
@[go_sem] theorem ty_tinf_77 : tinf prog 77 = true := by kernel_rfl
@[go_sem] theorem ty_tinf_87 : tinf prog 87 = true := by kernel_rfl
@[go_sem] theorem ty_tinf_9 : tinf prog 9 = true := by kernel_rfl
@[go_sem] theorem ty_tinf_91 : tinf prog 91 = true := by kernel_rfl
@[go_sem] theorem ty_tinfo_1 : tinfo prog 1 = some { size := 1, agg := false, zero := [Value.nilFunc], bytes := 8 } := by kernel_rfl
@[go_sem] theorem ty_tinfo_100 : tinfo prog 100 = some { size := 6, agg := true, zero := [Value.int IntKind.i64 0, Value.int IntKind.i64 0, Value.int IntKind.i64 0, Value.int IntKind.i64 0, Value.int IntKind.i64 0, Value.int IntKind.i64 0], bytes := 48 } := by kernel_rfl
@[go_sem] theorem ty_tinfo_112 : tinfo prog 112 = some { size := 1, agg := false, zero := [Value.int IntKind.u8 0], bytes := 1 } := by kernel_rfl
@[go_sem] theorem ty_tinfo_114 : tinfo prog 114 = some { size := 4, agg := true, zero := [Value.int IntKind.u8 0, Value.string { data := { toList := [] } }, Value.int IntKind.i64 0, Value.int IntKind.i64 0], bytes := 40 } := by kernel_rfl
@[go_sem] theorem ty_tinfo_120 : tinfo prog 120 = some { size := 2, agg := true, zero := [Value.int IntKind.i64 0, Value.int IntKind.i64 0], bytes := 16 } := by kernel_rfl
@[go_sem] theorem ty_tinfo_124 : tinfo prog 124 = some { size := 9, agg := true, zero := [Value.slice none 0 0, Value.int IntKind.i64 0, Value.string { data := { toList := [] } }, Value.int IntKind.i64 0, Value.int IntKind.i64 0, Value.slice none 0 0, Value.slice none 0 0, Value.slice none 0 0, Value.slice none 0 0], bytes := 160 } := by kernel_rfl
@[go_sem] theorem ty_tinfo_134 : tinfo prog 134 = some { size := 64, agg := true, zero := [Value.slice none 0 0, Value.slice none 0 0, Value.slice none 0 0, Value.slice none 0 0, Value.slice none 0 0, Value.slice none 0 0, Value.slice none 0 0, Value.slice none 0 0, Value.slice none 0 0, Value.slice none 0 0, Value.slice none 0 0, Value.slice none 0 0, Value.slice none 0 0, Value.slice none 0 0, Value.slice none 0 0, Value.slice none 0 0, Value.slice none 0 0, Value.slice none 0 0, Value.slice none 0 0, Value.slice none 0 0, Value.slice none 0 0, Value.slice none 0 0, Value.slice none 0 0, Value.slice none 0 0, Value.slice none 0 0, Value.slice none 0 0, Value.slice none 0 0, Value.slice none 0 0, Value.slice none 0 0, Value.slice none 0 0, Value.slice none 0 0, Value.slice none 0 0, Value.slice none 0 0, Value.slice none 0 0, Value.slice none 0 0, Value.slice none 0 0, Value.slice none 0 0, Value.slice none 0 0, Value.slice none 0 0, Value.slice none 0 0, Value.slice none 0 0, Value.slice none 0 0, Value.slice none 0 0, Value.slice none 0 0, Value.slice none 0 0, Value.slice none 0 0, Value.slice none 0 0, Value.slice none 0 0, Value.slice none 0 0, Value.slice none 0 0, Value.slice none 0 0, Value.slice none 0 0, Value.slice none 0 0, Value.slice none 0 0, Value.slice none 0 0, Value.slice none 0 0, Value.slice none 0 0, Value.slice none 0 0, Value.slice none 0 0, Value.slice none 0 0, Value.slice none 0 0, Value.slice none 0 0, Value.slice none 0 0, Value.slice none 0 0], bytes := 1536 } := by kernel_rfl
@[go_sem] theorem ty_tinfo_135 : tinfo prog 135 = some { size := 1, agg := false, zero := [Value.pointer none], bytes := 8 } := by kernel_rfl
@[go_sem] theorem ty_tinfo_156 : tinfo prog 156 = some { size := 4, agg := true, zero := [Value.int IntKind.i64 0, Value.int IntKind.i64 0, Value.int IntKind.i64 0, Value.int IntKind.i64 0], bytes := 32 } := by kernel_rfl
@[go_sem] theorem ty_tinfo_162 : tinfo prog 162 = some { size := 1, agg := false, zero := [Value.pointer none], bytes := 8 } := by kernel_rfl
@[go_sem] theorem ty_tinfo_164 : tinfo prog 164 = some { size := 2, agg := true, zero := [Value.pointer none, Value.slice none 0 0], bytes := 32 } := by kernel_rfl
@[go_sem] theorem ty_tinfo_179 : tinfo prog 179 = some { size := 1, agg := false, zero := [Value.map none], bytes := 8 } := by kernel_rfl
@[go_sem] theorem ty_tinfo_185 : tinfo prog 185 = some { size := 3, agg := true, zero := [Value.int IntKind.i64 0, Value.int IntKind.i64 0, Value.int IntKind.i64 0], bytes := 24 } := by kernel_rfl
@[go_sem] theorem ty_tinfo_188 : tinfo prog 188 = some { size := 1, agg := false, zero := [Value.slice none 0 0], bytes := 24 } := by kernel_rfl
@[go_sem] theorem ty_tinfo_194 : tinfo prog 194 = some { size := 4, agg := true, zero := [Value.int IntKind.i64 0, Value.int IntKind.i64 0, Value.slice none 0 0, Value.bool false], bytes := 48 } := by kernel_rfl
@[go_sem] theorem ty_tinfo_20 : tinfo prog 20 = some { size := 1, agg := false, zero := [Value.nilIface], bytes := 16 } := by kernel_rfl
@[go_sem] theorem ty_tinfo_219 : tinfo prog 219 = some { size := 5, agg := true, zero := [Value.string { data := { toList := [] } }, Value.string { data := { toList := [] } }, Value.string { data := { toList := [] } }, Value.string { data := { toList := [] } }, Value.string { data := { toList := [] } }], bytes := 80 } := by kernel_rfl
@[go_sem] theorem ty_tinfo_22 : tinfo prog 22 = some { size := 1, agg := false, zero := [Value.slice none 0 0], bytes := 24 } := by kernel_rfl
@[go_sem] theorem ty_tinfo_226 : tinfo prog 226 = some { size := 32, agg := true, zero := [Value.int IntKind.i64 0, Value.int IntKind.i64 0, Value.int IntKind.i64 0, Value.int IntKind.i64 0, Value.int IntKind.i64 0, Value.int IntKind.i64 0, Value.int IntKind.i64 0, Value.int IntKind.i64 0, Value.int IntKind.i64 0, Value.int IntKind.i64 0, Value.int IntKind.i64 0, Value.int IntKind.i64 0, Value.int IntKind.i64 0, Value.int IntKind.i64 0, Value.int IntKind.i64 0, Value.int IntKind.i64 0, Value.int IntKind.i64 0, Value.int IntKind.i64 0, Value.int IntKind.i64 0, Value.int IntKind.i64 0, Value.int IntKind.i64 0, Value.int IntKind.i64 0, Value.int IntKind.i64 0, Value.int IntKind.i64 0, Value.int IntKind.i64 0, Value.int IntKind.i64 0, Value.int IntKind.i64 0, Value.int IntKind.i64 0, Value.int IntKind.i64 0, Value.int IntKind.i64 0, Value.int IntKind.i64 0, Value.int IntKind.i64 0], bytes := 256 } := by kernel_rfl
@[go_sem] theorem ty_tinfo_229 : tinfo prog 229 = some { size := 33, agg := true, zero := [Value.int IntKind.i64 0, Value.int IntKind.i64 0, Value.int IntKind.i64 0, Value.int IntKind.i64 0, Value.int IntKind.i64 0, Value.int IntKind.i64 0, Value.int IntKind.i64 0, Value.int IntKind.i64 0, Value.int IntKind.i64 0, Value.int IntKind.i64 0, Value.int IntKind.i64 0, Value.int IntKind.i64 0, Value.int IntKind.i64 0, Value.int IntKind.i64 0, Value.int IntKind.i64 0, Value.int IntKind.i64 0, Value.int IntKind.i64 0, Value.int IntKind.i64 0, Value.int IntKind.i64 0, Value.int IntKind.i64 0, Value.int IntKind.i64 0, Value.int IntKind.i64 0, Value.int IntKind.i64 0, Value.int IntKind.i64 0, Value.int IntKind.i64 0, Value.int IntKind.i64 0, Value.int IntKind.i64 0, Value.int IntKind.i64 0, Value.int IntKind.i64 0, Value.int IntKind.i64 0, Value.int IntKind.i64 0, Value.int IntKind.i64 0, Value.int IntKind.i64 0], bytes := 264 } := by kernel_rfl
@[go_sem] theorem ty_tinfo_24 : tinfo prog 24 = some { size := 5, agg := true, zero := [Value.int IntKind.u8 0, Value.int IntKind.u8 0, Value.int IntKind.u8 0, Value.bool false, Value.slice none 0 0], bytes := 32 } := by kernel_rfl
@[go_sem] theorem ty_tinfo_240 : tinfo prog 240 = some { size := 1, agg := false, zero := [Value.int IntKind.u64 0], bytes := 8 } := by kernel_rfl
@[go_sem] theorem ty_tinfo_247 : tinfo prog 247 = some { size := 256, agg := true, zero := [Value.bool false, Value.bool false, Value.bool false, Value.bool false, Value.bool false, Value.bool false, Value.bool false, Value.bool false, Value.bool false, Value.bool false, Value.bool false, Value.bool false, Value.bool false, Value.bool false, Value.bool false, Value.bool false, Value.bool false, Value.bool false, Value.bool false, Value.bool false, Value.bool false, Value.bool false, Value.bool false, Value.bool false, Value.bool false, Value.bool false, Value.bool false, Value.bool false, Value.bool false, Value.bool false, Value.bool false, Value.bool false, Value.bool false, Value.bool false, Value.bool false, Value.bool false, Value.bool false, Value.bool false, Value.bool false, Value.bool false, Value.bool false, Value.bool false, Value.bool false, Value.bool false, Value.bool false, Value.bool false, Value.bool false, Value.bool false, Value.bool false, Value.bool false, Value.bool false, Value.bool false, Value.bool false, Value.bool false, Value.bool false, Value.bool false, Value.bool false, Value.bool false, Value.bool false, Value.bool false, Value.bool false, Value.bool false, Value.bool false, Value.bool false, Value.bool false, Value.bool false, Value.bool false, Value.bool false, Value.bool false, Value.bool false, Value.bool false, Value.bool false, Value.bool false, Value.bool false, Value.bool false, Value.bool false, Value.bool false, Value.bool false, Value.bool false, Value.bool false, Value.bool false, Value.bool false, Value.bool false, Value.bool false, Value.bool false, Value.bool false, Value.bool false, Value.bool false, Value.bool false, Value.bool false, Value.bool false, Value.bool false, Value.bool false, Value.bool false, Value.bool false, Value.bool false, Value.bool false, Value.bool false, Value.bool false, Value.bool false, Value.bool false, Value.bool false, Value.bool false, Value.bool false, Value.bool false, Value.bool false, Value.bool false, Value.bool false, Value.bool false, Value.bool false, Value.bool false, Value.bool false, Value.bool false, Value.bool false, Value.bool false, Value.bool false, Value.bool false, Value.bool false, Value.bool false, Value.bool false, Value.bool false, Value.bool false, Value.bool false, Value.bool false, Value.bool false, Value.bool false, Value.bool false, Value.bool false, Value.bool false, Value.bool false, Value.bool false, Value.bool false, Value.bool false, Value.bool false, Value.bool false, Value.bool false, Value.bool false, Value.bool false, Value.bool false, Value.bool false, Value.bool false, Value.bool false, Value.bool false, Value.bool false, Value.bool false, Value.bool false, Value.bool false, Value.bool false, Value.bool false, Value.bool false, Value.bool false, Value.bool false, Value.bool false, Value.bool false, Value.bool false, Value.bool false, Value.bool false, Value.bool false, Value.bool false, Value.bool false, Value.bool false, Value.bool false, Value.bool false, Value.bool false, Value.bool false, Value.bool false, Value.bool false, Value.bool false, Value.bool false, Value.bool false, Value.bool false, Value.bool false, Value.bool false, Value.bool false, Value.bool false, Value.bool false, Value.bool false, Value.bool false, Value.bool false, Value.bool false, Value.bool false, Value.bool false, Value.bool false, Value.bool false, Value.bool false, Value.bool false, Value.bool false, Value.bool false, Value.bool false, Value.bool false, Value.bool false, Value.bool false, Value.bool false, Value.bool false, Value.bool false, Value.bool false, Value.bool false, Value.bool false, Value.bool false, Value.bool false, Value.bool false, Value.bool false, Value.bool false, Value.bool false, Value.bool false, Value.bool false, Value.bool false, Value.bool false, Value.bool false, Value.bool false, Value.bool false, Value.bool false, Value.bool false, Value.bool false, Value.bool false, Value.bool false, Value.bool false, Value.bool false, Value.bool false, Value.bool false, Value.bool false, Value.bool false, Value.bool false, Value.bool false, Value.bool false, Value.bool false, Value.bool false, Value.bool false, Value.bool false, Value.bool false, Value.bool false, Value.bool false, Value.bool false, Value.bool false, Value.bool false, Value.bool false, Value.bool false, Value.bool false, Value.bool false, Value.bool false, Value.bool false, Value.bool false, Value.bool false, Value.bool false, Value.bool false, Value.bool false, Value.bool false, Value.bool false, Value.bool false, Value.bool false, Value.bool false, Value.bool false, Value.bool false, Value.bool false, Value.bool false, Value.bool false], bytes := 256 } := by kernel_rfl
@[go_sem] theorem ty_tinfo_25 : tinfo prog 25 = some { size := 2, agg := true, zero := [Value.int IntKind.u8 0, Value.int IntKind.u8 0], bytes := 2 } := by kernel_rfl
@[go_sem] theorem ty_tinfo_265 : tinfo prog 265 = some { size := 24, agg := true, zero := [Value.int IntKind.u8 0, Value.int IntKind.u8 0, Value.int IntKind.u8 0, Value.int IntKind.u8 0, Value.int IntKind.u8 0, Value.int IntKind.u8 0, Value.int IntKind.u8 0, Value.int IntKind.u8 0, Value.int IntKind.u8 0, Value.int IntKind.u8 0, Value.int IntKind.u8 0, Value.int IntKind.u8 0, Value.int IntKind.u8 0, Value.int IntKind.u8 0, Value.int IntKind.u8 0, Value.int IntKind.u8 0, Value.int IntKind.u8 0, Value.int IntKind.u8 0, Value.int IntKind.u8 0, Value.int IntKind.u8 0, Value.int IntKind.u8 0, Value.int IntKind.u8 0, Value.int IntKind.u8 0, Value.int IntKind.u8 0], bytes := 24 } := by kernel_rfl
@[go_sem] theorem ty_tinfo_27 : tinfo prog 27 = some { size := 2, agg := true, zero := [Value.int IntKind.i64 0, Value.int IntKind.i64 0], bytes := 16 } := by kernel_rfl
@[go_sem] theorem ty_tinfo_286 : tinfo prog 286 = some { size := 65, agg := true, zero := [Value.int IntKind.u8 0, Value.int IntKind.u8 0, Value.int IntKind.u8 0, Value.int IntKind.u8 0, Value.int IntKind.u8 0, Value.int IntKind.u8 0, Value.int IntKind.u8 0, Value.int IntKind.u8 0, Value.int IntKind.u8 0, Value.int IntKind.u8 0, Value.int IntKind.u8 0, Value.int IntKind.u8 0, Value.int IntKind.u8 0, Value.int IntKind.u8 0, Value.int IntKind.u8 0, Value.int IntKind.u8 0, Value.int IntKind.u8 0, Value.int IntKind.u8 0, Value.int IntKind.u8 0, Value.int IntKind.u8 0, Value.int IntKind.u8 0, Value.int IntKind.u8 0, Value.int IntKind.u8 0, Value.int IntKind.u8 0, Value.int IntKind.u8 0, Value.int IntKind.u8 0, Value.int IntKind.u8 0, Value.int IntKind.u8 0, Value.int IntKind.u8 0, Value.int IntKind.u8 0, Value.int IntKind.u8 0, Value.int IntKind.u8 0, Value.int IntKind.u8 0, Value.int IntKind.u8 0, Value.int IntKind.u8 0, Value.int IntKind.u8 0, Value.int IntKind.u8 0, Value.int IntKind.u8 0, Value.int IntKind.u8 0, Value.int IntKind.u8 0, Value.int IntKind.u8 0, Value.int IntKind.u8 0, Value.int IntKind.u8 0, Value.int IntKind.u8 0, Value.int IntKind.u8 0, Value.int IntKind.u8 0, Value.int IntKind.u8 0, Value.int IntKind.u8 0, Value.int IntKind.u8 0, Value.int IntKind.u8 0, Value.int IntKind.u8 0, Value.int IntKind.u8 0, Value.int IntKind.u8 0, Value.int IntKind.u8 0, Value.int IntKind.u8 0, Value.int IntKind.u8 0, Value.int IntKind.u8 0, Value.int IntKind.u8 0, Value.int IntKind.u8 0, Value.int IntKind.u8 0, Value.int IntKind.u8 0, Value.int IntKind.u8 0, Value.int IntKind.u8 0, Value.int IntKind.u8 0, Value.int IntKind.u8 0], bytes := 65 } := by kernel_rfl
@[go_sem] theorem ty_tinfo_287 : tinfo prog 287 = some { size := 1, agg := false, zero := [Value.int IntKind.u64 0], bytes := 8 } := by kernel_rfl
@[go_sem] theorem ty_tinfo_29 : tinfo prog 29 = some { size := 17, agg := true, zero := [Value.int IntKind.u8 0, Value.int IntKind.u8 0, Value.int IntKind.u8 0, Value.bool false, Value.slice none 0 0, Value.int IntKind.u8 0, Value.int IntKind.u8 0, Value.int IntKind.u8 0, Value.bool false, Value.slice none 0 0, Value.bool false, Value.int IntKind.u8 0, Value.int IntKind.u8 0, Value.int IntKind.u8 0, Value.int IntKind.u8 0, Value.int IntKind.i64 0, Value.int IntKind.i64 0], bytes := 88 } := by kernel_rfl
@[go_sem] theorem ty_tinfo_297 : tinfo prog 297 = some { size := 2, agg := true, zero := [Value.int IntKind.u8 0, Value.int IntKind.u8 0], bytes := 2 } := by kernel_rfl
@[go_sem] theorem ty_tinfo_3 : tinfo prog 3 = some { size := 1, agg := false, zero := [Value.int IntKind.i64 0], bytes := 8 } := by kernel_rfl
@[go_sem] theorem ty_tinfo_30 : tinfo prog 30 = some { size := 1, agg := false, zero := [Value.slice none 0 0], bytes := 24 } := by kernel_rfl
@[go_sem] theorem ty_tinfo_32 : tinfo prog 32 = some { size := 1, agg := true, zero := [Value.slice none 0 0], bytes := 24 } := by kernel_rfl
@[go_sem] theorem ty_tinfo_33 : tinfo prog 33 = some { size := 1, agg := false, zero := [Value.slice none 0 0], bytes := 24 } := by kernel_rfl
@[go_sem] theorem ty_tinfo_35 : tinfo prog 35 = some { size := 3, agg := true, zero := [Value.int IntKind.i64 0, Value.int IntKind.i64 0, Value.slice none 0 0], bytes := 40 } := by kernel_rfl
@[go_sem] theorem ty_tinfo_38 : tinfo prog 38 = some { size := 1, agg := false, zero := [Value.slice none 0 0], bytes := 24 } := by kernel_rfl
@[go_sem] theorem ty_tinfo_39 : tinfo prog 39 = some { size := 1, agg := false, zero := [Value.int IntKind.i64 0], bytes := 8 } := by kernel_rfl
@[go_sem] theorem ty_tinfo_4 : tinfo prog 4 = some { size := 1, agg := false, zero := [Value.bool false], bytes := 1 } := by kernel_rfl
@[go_sem] theorem ty_tinfo_5 : tinfo prog 5 = some { size := 1, agg := false, zero := [Value.int IntKind.u8 0], bytes := 1 } := by kernel_rfl
@[go_sem] theorem ty_tinfo_58 : tinfo prog 58 = some { size := 1, agg := false, zero := [Value.slice none 0 0], bytes := 24 } := by kernel_rfl
@[go_sem] theorem ty_tinfo_61 : tinfo prog 61 = some { size := 1, agg := false, zero := [Value.slice none 0 0], bytes := 24 } := by kernel_rfl
@[go_sem] theorem ty_tinfo_72 : tinfo prog 72 = some { size := 1, agg := false, zero := [Value.slice none 0 0], bytes := 24 } := by kernel_rfl
@[go_sem] theorem ty_tinfo_77 : tinfo prog 77 = some { size := 1, agg := false, zero := [Value.slice none 0 0], bytes := 24 } := by kernel_rfl
@[go_sem] theorem ty_tinfo_79 : tinfo prog 79 = some { size := 7, agg := true, zero := [Value.string { data := { toList := [] } }, Value.int IntKind.i64 0, Value.int IntKind.i64 0, Value.slice none 0 0, Value.slice none 0 0, Value.slice none 0 0, Value.slice none 0 0], bytes := 128 } := by kernel_rfl
@[go_sem] theorem ty_tinfo_87 : tinfo prog 87 = some { size := 1, agg := false, zero := [Value.int IntKind.u16 0], bytes := 2 } := by kernel_rfl
@[go_sem] theorem ty_tinfo_9 : tinfo prog 9 = some { size := 1, agg := false, zero := [Value.string { data := { toList := [] } }], bytes := 16 } := by kernel_rfl
@[go_sem] theorem ty_tinfo_91 : tinfo prog 91 = some { size := 2, agg := true, zero := [Value.int IntKind.i64 0, Value.int IntKind.i64 0], bytes := 16 } := by kernel_rfl
@[go_sem] theorem ty_tint_162 : tint prog 162 = none := by kernel_rfl
@[go_sem] theorem ty_tint_209 : tint prog 209 = some IntKind.u64 := by kernel_rfl
@[go_sem] theorem ty_tint_21 : tint prog 21 = some IntKind.i32 := by kernel_rfl
@[go_sem] theorem ty_tint_237 : tint prog 237 = some IntKind.u32 := by kernel_rfl
@[go_sem] theorem ty_tint_240 : tint prog 240 = some IntKind.u64 := by kernel_rfl
@[go_sem] theorem ty_tint_252 : tint prog 252 = none := by kernel_rfl
@[go_sem] theorem ty_tint_287 : tint prog 287 = some IntKind.u64 := by kernel_rfl
@[go_sem] theorem ty_tint_3 : tint prog 3 = some IntKind.i64 := by kernel_rfl
@[go_sem] theorem ty_tint_5 : tint prog 5 = some IntKind.u8 := by kernel_rfl
@[go_sem] theorem ty_tint_9 : tint prog 9 = none := by kernel_rfl
@[go_sem] theorem ty_tknown_120 : tknown prog 120 = true := by kernel_rfl
@[go_sem] theorem ty_tknown_162 : tknown prog 162 = true := by kernel_rfl
@[go_sem] theorem ty_tknown_2 : tknown prog 2 = true := by kernel_rfl
@[go_sem] theorem ty_tknown_20 : tknown prog 20 = true := by kernel_rfl
@[go_sem] theorem ty_tknown_209 : tknown prog 209 = true := by kernel_rfl
@[go_sem] theorem ty_tknown_21 : tknown prog 21 = true := by kernel_rfl
@[go_sem] theorem ty_tknown_237 : tknown prog 237 = true := by kernel_rfl
@[go_sem] theorem ty_tknown_240 : tknown prog 240 = true := by kernel_rfl
@[go_sem] theorem ty_tknown_252 : tknown prog 252 = true := by kernel_rfl
@[go_sem] theorem ty_tknown_3 : tknown prog 3 = true := by kernel_rfl
@[go_sem] theorem ty_tknown_30 : tknown prog 30 = true := by kernel_rfl
@[go_sem] theorem ty_tknown_5 : tknown prog 5 = true := by kernel_rfl
@[go_sem] theorem ty_tknown_87 : tknown prog 87 = true := by kernel_rfl
@[go_sem] theorem ty_tknown_9 : tknown prog 9 = true := by kernel_rfl
@[go_sem] theorem ty_tmap_100 : tmap prog 100 = none := by kernel_rfl
@[go_sem] theorem ty_tmap_101 : tmap prog 101 = none := by kernel_rfl
@[go_sem] theorem ty_tmap_105 : tmap prog 105 = none := by kernel_rfl
@[go_sem] theorem ty_tmap_114 : tmap prog 114 = none := by kernel_rfl
@[go_sem] theorem ty_tmap_122 : tmap prog 122 = none := by kernel_rfl
@[go_sem] theorem ty_tmap_125 : tmap prog 125 = none := by kernel_rfl
@[go_sem] theorem ty_tmap_135 : tmap prog 135 = none := by kernel_rfl
@[go_sem] theorem ty_tmap_140 : tmap prog 140 = none := by kernel_rfl
@[go_sem] theorem ty_tmap_144 : tmap prog 144 = none := by kernel_rfl
@[go_sem] theorem ty_tmap_145 : tmap prog 145 = some (91, 3) := by kernel_rfl
@[go_sem] theorem ty_tmap_149 : tmap prog 149 = none := by kernel_rfl
@[go_sem] theorem ty_tmap_152 : tmap prog 152 = none := by kernel_rfl
@[go_sem] theorem ty_tmap_154 : tmap prog 154 = some (91, 4) := by kernel_rfl
@[go_sem] theorem ty_tmap_162 : tmap prog 162 = none := by kernel_rfl
@[go_sem] theorem ty_tmap_164 : tmap prog 164 = none := by kernel_rfl
@[go_sem] theorem ty_tmap_179 : tmap prog 179 = some (3, 3) := by kernel_rfl
@[go_sem] theorem ty_tmap_185 : tmap prog 185 = none := by kernel_rfl
@[go_sem] theorem ty_tmap_188 : tmap prog 188 = none := by kernel_rfl
@[go_sem] theorem ty_tmap_196 : tmap prog 196 = none := by kernel_rfl
@[go_sem] theorem ty_tmap_198 : tmap prog 198 = none := by kernel_rfl
@[go_sem] theorem ty_tmap_2 : tmap prog 2 = none := by kernel_rfl
@[go_sem] theorem ty_tmap_203 : tmap prog 203 = none := by kernel_rfl
@[go_sem] theorem ty_tmap_209 : tmap prog 209 = none := by kernel_rfl
@[go_sem] theorem ty_tmap_21 : tmap prog 21 = none := by kernel_rfl
@[go_sem] theorem ty_tmap_214 : tmap prog 214 = none := by kernel_rfl
@[go_sem] theorem ty_tmap_22 : tmap prog 22 = none := by kernel_rfl
@[go_sem] theorem ty_tmap_221 : tmap prog 221 = none := by kernel_rfl
@[go_sem] theorem ty_tmap_224 : tmap prog 224 = some (229, 3) := by kernel_rfl
@[go_sem] theorem ty_tmap_233 : tmap prog 233 = none := by kernel_rfl
@[go_sem] theorem ty_tmap_237 : tmap prog 237 = none := by kernel_rfl
@[go_sem] theorem ty_tmap_24 : tmap prog 24 = none := by kernel_rfl
@[go_sem] theorem ty_tmap_240 : tmap prog 240 = none := by kernel_rfl
@[go_sem] theorem ty_tmap_251 : tmap prog 251 = none := by kernel_rfl
@[go_sem] theorem ty_tmap_252 : tmap prog 252 = none := by kernel_rfl
@[go_sem] theorem ty_tmap_27 : tmap prog 27 = none := by kernel_rfl
@[go_sem] theorem ty_tmap_287 : tmap prog 287 = none := by kernel_rfl
@[go_sem] theorem ty_tmap_29 : tmap prog 29 = none := by kernel_rfl
@[go_sem] theorem ty_tmap_291 : tmap prog 291 = none := by kernel_rfl
@[go_sem] theorem ty_tmap_3 : tmap prog 3 = none := by kernel_rfl
@[go_sem] theorem ty_tmap_30 : tmap prog 30 = none := by kernel_rfl
@[go_sem] theorem ty_tmap_32 : tmap prog 32 = none := by kernel_rfl
@[go_sem] theorem ty_tmap_33 : tmap prog 33 = none := by kernel_rfl
@[go_sem] theorem ty_tmap_35 : tmap prog 35 = none := by kernel_rfl
@[go_sem] theorem ty_tmap_38 : tmap prog 38 = none := by kernel_rfl
@[go_sem] theorem ty_tmap_39 : tmap prog 39 = none := by kernel_rfl
@[go_sem] theorem ty_tmap_4 : tmap prog 4 = none := by kernel_rfl
@[go_sem] theorem ty_tmap_5 : tmap prog 5 = none := by kernel_rfl
@[go_sem] theorem ty_tmap_58 : tmap prog 58 = none := by kernel_rfl
@[go_sem] theorem ty_tmap_61 : tmap prog 61 = none := by kernel_rfl
@[go_sem] theorem ty_tmap_69 : tmap prog 69 = none := by kernel_rfl
@[go_sem] theorem ty_tmap_72 : tmap prog 72 = none := by kernel_rfl
@[go_sem] theorem ty_tmap_77 : tmap prog 77 = none := by kernel_rfl
@[go_sem] theorem ty_tmap_79 : tmap prog 79 = none := by kernel_rfl
@[go_sem] theorem ty_tmap_9 : tmap prog 9 = none := by kernel_rfl
@[go_sem] theorem ty_tmap_91 : tmap prog 91 = none := by kernel_rfl
@[go_sem] theorem ty_tstr_100 : tstr prog 100 = false := by kernel_rfl
@[go_sem] theorem ty_tstr_101 : tstr prog 101 = false := by kernel_rfl
@[go_sem] theorem ty_tstr_105 : tstr prog 105 = false := by kernel_rfl
@[go_sem] theorem ty_tstr_114 : tstr prog 114 = false := by kernel_rfl
@[go_sem] theorem ty_tstr_122 : tstr prog 122 = false := by kernel_rfl
@[go_sem] theorem ty_tstr_125 : tstr prog 125 = false := by kernel_rfl
@[go_sem] theorem ty_tstr_135 : tstr prog 135 = false := by kernel_rfl
@[go_sem] theorem ty_tstr_140 : tstr prog 140 = false := by kernel_rfl
@[go_sem] theorem ty_tstr_144 : tstr prog 144 = false := by kernel_rfl
@[go_sem] theorem ty_tstr_149 : tstr prog 149 = false := by kernel_rfl
@[go_sem] theorem ty_tstr_152 : tstr prog 152 = false := by kernel_rfl
@[go_sem] theorem ty_tstr_162 : tstr prog 162 = false := by kernel_rfl
@[go_sem] theorem ty_tstr_164 : tstr prog 164 = false := by kernel_rfl
@[go_sem] theorem ty_tstr_185 : tstr prog 185 = false := by kernel_rfl
@[go_sem] theorem ty_tstr_188 : tstr prog 188 = false := by kernel_rfl
@[go_sem] theorem ty_tstr_196 : tstr prog 196 = false := by kernel_rfl
@[go_sem] theorem ty_tstr_198 : tstr prog 198 = false := by kernel_rfl
@[go_sem] theorem ty_tstr_2 : tstr prog 2 = false := by kernel_rfl
@[go_sem] theorem ty_tstr_203 : tstr prog 203 = false := by kernel_rfl
@[go_sem] theorem ty_tstr_209 : tstr prog 209 = false := by kernel_rfl
@[go_sem] theorem ty_tstr_21 : tstr prog 21 = false := by kernel_rfl
@[go_sem] theorem ty_tstr_214 : tstr prog 214 = false := by kernel_rfl
@[go_sem] theorem ty_tstr_22 : tstr prog 22 = false := by kernel_rfl
@[go_sem] theorem ty_tstr_221 : tstr prog 221 = false := by kernel_rfl
@[go_sem] theorem ty_tstr_224 : tstr prog 224 = false := by kernel_rfl
@[go_sem] theorem ty_tstr_233 : tstr prog 233 = false := by kernel_rfl
@[go_sem] theorem ty_tstr_237 : tstr prog 237 = false := by kernel_rfl
@[go_sem] theorem ty_tstr_24 : tstr prog 24 = false := by kernel_rfl
@[go_sem] theorem ty_tstr_240 : tstr prog 240 = false := by kernel_rfl
@[go_sem] theorem ty_tstr_251 : tstr prog 251 = false := by kernel_rfl
@[go_sem] theorem ty_tstr_252 : tstr prog 252 = false := by kernel_rfl
@[go_sem] theorem ty_tstr_27 : tstr prog 27 = false := by kernel_rfl
@[go_sem] theorem ty_tstr_287 : tstr prog 287 = false := by kernel_rfl
@[go_sem] theorem ty_tstr_29 : tstr prog 29 = false := by kernel_rfl
@[go_sem] theorem ty_tstr_291 : tstr prog 291 = false := by kernel_rfl
@[go_sem] theorem ty_tstr_3 : tstr prog 3 = false := by kernel_rfl
@[go_sem] theorem ty_tstr_30 : tstr prog 30 = false := by kernel_rfl
@[go_sem] theorem ty_tstr_32 : tstr prog 32 = false := by kernel_rfl
@[go_sem] theorem ty_tstr_33 : tstr prog 33 = false := by kernel_rfl
@[go_sem] theorem ty_tstr_35 : tstr prog 35 = false := by kernel_rfl
@[go_sem] theorem ty_tstr_38 : tstr prog 38 = false := by kernel_rfl
@[go_sem] theorem ty_tstr_39 : tstr prog 39 = false := by kernel_rfl
@[go_sem] theorem ty_tstr_4 : tstr prog 4 = false := by kernel_rfl
@[go_sem] theorem ty_tstr_5 : tstr prog 5 = false := by kernel_rfl
@[go_sem] theorem ty_tstr_58 : tstr prog 58 = false := by kernel_rfl
@[go_sem] theorem ty_tstr_61 : tstr prog 61 = false := by kernel_rfl
@[go_sem] theorem ty_tstr_69 : tstr prog 69 = false := by kernel_rfl
@[go_sem] theorem ty_tstr_72 : tstr prog 72 = false := by kernel_rfl
@[go_sem] theorem ty_tstr_77 : tstr prog 77 = false := by kernel_rfl
@[go_sem] theorem ty_tstr_79 : tstr prog 79 = false := by kernel_rfl
@[go_sem] theorem ty_tstr_9 : tstr prog 9 = true := by kernel_rfl
@[go_sem] theorem ty_tstr_91 : tstr prog 91 = false := by kernel_rfl
set_option maxRecDepth 10000
attribute [go_sem] Nat.reduceLT Nat.reduceLeDiff Nat.reduceEqDiff Nat.reduceAdd Nat.reduceSub Nat.reduceMul Nat.reduceBEq Int.reduceToNat Int.reduceEq Int.reduceLT Int.reduceLE Int.reduceAdd reduceCtorEq
attribute [go_sem ↓] reduceIte
theorem mixed : prog.follows .mixedOrders = true := by kernel_rfl
theorem none_is : PureIs prog 50 [] (.ag [.sc (.int .i64 (-1)), .sc (.int .i64 (-1))]) := by
 refine PureIs.of (nv := 1) (hid := []) func50 rfl (by kernel_rfl) (by simp) fun _ => ?_
 rw [ntmps50, results50]
 refine EvC.seq (EvC.rg (by simp only [go_sem]; rfl) rfl ?_)
 refine EvC.seq (EvC.rg (by simp only [go_sem]; rfl) rfl ?_)
 refine EvC.ret ⟨.inl rfl, _, (by simp only [go_sem]; rfl), rfl, rfl⟩
def I (n : Int) : AV := .sc (.int .i64 n)
def B (b : Bool) : AV := .sc (.bool b)
def intC (x : Int) : List AV := [.sc (.int .i64 x)]
@[go_sem] theorem norefs_ints (l : List Int) : (l.map intC).all AV.norefs = true := by simp [List.all_eq_true, intC, AV.norefs, AV.noref]
theorem intC_len (l : List Int) : ((l.map intC).all fun y => decide (y.length = 1)) = true := by simp [List.all_eq_true, intC]
def fitsR (n o to out : Int) : Bool := decide (to = -1) && decide (out = -1) || (decide (0 ≤ to) && decide (to < n) && decide (0 ≤ out) && decide (out < o))
theorem fits_is (i o : Int) (nl : Bool) (rows : List (List AV)) (c : Cp) (to out : Int) :
  PureIs prog 85 [.ag [.sc (.int .i64 i), .sc (.int .i64 o), .sl nl rows c], .ag [.sc (.int .i64 to), .sc (.int .i64 out)]] (.sc (.bool (fitsR rows.length o to out))) := by
 refine PureIs.of1 5 [] func85 ntmps85 results85 fun _ => ?_
 refine EvC.seq (EvC.rg (by simp only [go_sem]; rfl) rfl ?_)
 apply EvC.seq
 apply EvC.drw mixed
 case ht =>
  apply Tr.run
  ·simp only [go_sem] <;> rfl
  ·rfl
  apply Tr.cons
  ·exact .call rfl rfl (by simp only [go_sem] <;> rfl) (by simp only [go_sem] <;> rfl) (by simp only [go_sem] <;> rfl) (by simp only [go_sem] <;> rfl) (by simp only [go_sem] <;> rfl) none_is
  apply Tr.done
  ·simp only [go_sem] <;> rfl
  ·simp
 case hc => kernel_rfl
 case hq =>
  refine EvC.rz ?_
  simp only [go_sem]
  congr 2
  unfold fitsR
  by_cases h1 : to = -1 <;> by_cases h2 : out = -1 <;> by_cases h3 : 0 ≤ to <;> by_cases h4 : to < rows.length <;> by_cases h5 : 0 ≤ out <;> simp [h1, h2, h3, h4, h5]
def edgeC (e : Int × Int) : List AV := [.sc (.int .i64 e.1), .sc (.int .i64 e.2)]
@[go_sem] theorem norefs_edges (l : List (Int × Int)) : (l.map edgeC).all AV.norefs = true := by simp [List.all_eq_true, edgeC, AV.norefs, AV.noref]
theorem check1_is (i o : Int) (nl : Bool) (rows : List (List AV)) (c : Cp) (to out : Int) :
  PureIs prog 84 [.ag [.sc (.int .i64 to), .sc (.int .i64 out)], .ia [.sc (.int .i64 i), .sc (.int .i64 o), .sl nl rows c]] (.sc (.bool (!fitsR rows.length o to out))) := by
 refine PureIs.of1 4 [] func84 ntmps84 results84 fun _ => ?_
 refine EvC.seq (EvC.rg (by simp only [go_sem] <;> rfl) rfl ?_)
 apply EvC.s1
 ·apply Tr.run
  ·simp only [go_sem] <;> rfl
  ·rfl
  apply Tr.cons
  ·exact .ca (fits_is _ _ _ _ _ _ _)
  apply Tr.done
  ·simp only [go_sem] <;> rfl
  ·rfl
 refine EvC.rz ?_
 simp only [go_sem]
def findIdxR (p : Int × Int → Bool) : List (Int × Int) → Int → Int
 | [], _ => -1
 | e :: es, i => if p e = true then i else findIdxR p es (i + 1)
theorem indexFunc_is (nl : Bool) (xs : List (Int × Int)) (c : Cp) (f : FuncId) (cs : List AV) (hcs : AV.norefs cs = true) (p : Int × Int → Bool) (hp : ∀ e ∈ xs, PureIs prog f (.ag (edgeC e) :: cs) (.sc (.bool (p e)))) (hl : xs.length < 1000000) :
  PureIs prog 131 [.sl nl (xs.map edgeC) c, .fn f cs] (.sc (.int .i64 (findIdxR p xs 0))) := by
 refine PureIs.of1 6 [6, 7, 8, 9, 16] func131 ntmps131 results131 fun _ => ?_
 refine EvC.seq (EvC.rg (by simp only [go_sem] <;> rfl) rfl ?_)
 refine EvC.seq ?_
 refine EvC.seq (EvC.rg (by simp only [go_sem] <;> rfl) rfl ?_)
 refine EvC.block (EvC.loopS (σ := Nat) (fun i => ⟨[(0, .sl nl (xs.map edgeC) c), (1, .fn f cs), (7, .sc (.int .i64 xs.length)), (8, .sc (.int .i64 i))], [], [], 0⟩) (fun i => xs.length - i) (fun i => i ≤ xs.length ∧ findIdxR p xs 0 = findIdxR p (xs.drop i) i) [0, 1, 7, 8] 0 ?_ ?_)
 ·refine ⟨[], 0, rfl, (by simp only [go_sem, hcs] <;> rfl), Nat.zero_le _, by simp⟩
 ·rintro i ⟨h1, h2⟩
  refine EvC.seq (EvC.rg (by simp only [go_sem] <;> rfl) rfl ?_)
  refine EvC.seq (EvC.cond (by simp only [go_sem] <;> rfl) (fun hc => ?_) (fun hc => ?_))
  ·refine EvC.skip ?_
   have hi : i < xs.length := by simpa using hc
   have he : xs[i]? = some xs[i] := List.getElem?_eq_getElem hi
   generalize xs[i] = e at he
   have hm : e ∈ xs := List.mem_of_getElem? he
   have hd : xs.drop i = e :: xs.drop (i + 1) := by
    rw [List.drop_eq_getElem_cons hi]; congr 1; rw [List.getElem?_eq_getElem hi] at he; simpa using he
   refine EvC.seq ?_
   refine EvC.block (EvC.seq (EvC.rg (by simp only [go_sem] <;> rfl) rfl ?_))
   apply EvC.s1
   ·apply Tr.run
    ·simp only [go_sem, he, edgeC] <;> rfl
    ·simp
    apply Tr.cons
    ·exact .call rfl rfl (by simp only [go_sem] <;> rfl) (by simp only [go_sem] <;> rfl) (by simp only [go_sem] <;> rfl) (by simp only [go_sem, hcs] <;> rfl) (by simp only [go_sem] <;> rfl) (hp e hm)
    apply Tr.done
    ·simp only [go_sem] <;> rfl
    ·rfl
   refine EvC.cd (fun hc => ?_) (fun hc => ?_)
   ·refine EvC.seq (EvC.rg (by simp only [go_sem] <;> rfl) rfl ?_)
    refine EvC.rz ?_
    simp only [go_sem]
    rw [h2, hd, findIdxR, if_pos hc]
   ·refine EvC.skip ?_
    refine EvC.rg (by simp only [go_sem] <;> rfl) ?_ ?_
    ·exact inI64_of (by omega) (by omega)
    refine ⟨[], i + 1, rfl, ?_, ⟨by omega, ?_⟩, by omega⟩
    ·simp only [go_sem, hcs] <;> rfl
    ·rw [h2, hd, findIdxR, if_neg (by simp [hc])]; rfl
  ·refine EvC.exit ?_
   have hi : ¬ i < xs.length := by simpa using hc
   refine EvC.seq (EvC.rg (by simp only [go_sem] <;> rfl) rfl ?_)
   refine EvC.rz ?_
   simp only [go_sem]
   rw [h2, List.drop_of_length_le (by omega)]; rfl
theorem findIdxR_any (p : Int × Int → Bool) : ∀ (es : List (Int × Int)) (i : Int), 0 ≤ i → decide (0 ≤ findIdxR p es i) = es.any p
 | [], i, _ => by simp [findIdxR]
 | e :: es, i, h => by
   unfold findIdxR
   split
   ·rename_i hp; simp [hp, h]
   ·rename_i hp
    rw [findIdxR_any p es (i + 1) (by omega)]
    simp [hp]
theorem containsFunc_is (nl : Bool) (xs : List (Int × Int)) (c : Cp) (f : FuncId) (cs : List AV) (hcs : AV.norefs cs = true) (p : Int × Int → Bool) (hp : ∀ e ∈ xs, PureIs prog f (.ag (edgeC e) :: cs) (.sc (.bool (p e)))) (hl : xs.length < 1000000) :
  PureIs prog 83 [.sl nl (xs.map edgeC) c, .fn f cs] (.sc (.bool (xs.any p))) := by
 refine PureIs.of1 5 [] func83 ntmps83 results83 fun _ => ?_
 refine EvC.seq (EvC.rg (by simp only [go_sem] <;> rfl) rfl ?_)
 apply EvC.s1
 ·apply Tr.run
  ·simp only [go_sem] <;> rfl
  ·rfl
  apply Tr.cons
  ·exact .call rfl rfl (by simp only [go_sem] <;> rfl) (by simp only [go_sem] <;> rfl) (by simp only [go_sem] <;> rfl) (by simp only [go_sem, hcs] <;> rfl) (by simp only [go_sem] <;> rfl) (indexFunc_is _ _ _ _ _ hcs _ hp hl)
  apply Tr.done
  ·simp only [go_sem] <;> rfl
  ·rfl
 refine EvC.rz ?_
 simp only [go_sem]
 rw [findIdxR_any _ _ _ (Int.le_refl 0)]
abbrev Row := Bool × List (Int × Int)
def rowC (r : Row) : List AV := [.sl r.1 (r.2.map edgeC) .unk]
structure Mach where
 ins : Int
 outs : Int
 nl : Bool
 rows : List Row
def Mach.cells (m : Mach) : List AV := [.sc (.int .i64 m.ins), .sc (.int .i64 m.outs), .sl m.nl (m.rows.map rowC) .unk]
def rowOk (m : Mach) (r : Row) : Bool := decide ((r.2.length : Int) = m.ins) && !(r.2.any fun e => !fitsR m.rows.length m.outs e.1 e.2)
def checkM (m : Mach) : Int :=
 if 16 < m.ins ∨ 16 < m.outs ∨ 64 < (m.rows.length : Int) then 3
 else if m.ins < 1 ∨ m.outs < 1 ∨ (m.rows.length : Int) < 1 then 1
 else if m.rows.all (rowOk m) = true then 0 else 1
theorem check_is (m : Mach) (hr : ∀ r ∈ m.rows, r.2.length < 1000000) : PureIs prog 44 [.ag m.cells] (.sc (.int .i64 (checkM m))) := by
 refine PureIs.of1 5 [18, 32, 34, 35, 36, 37, 49] func44 ntmps44 results44 fun _ => ?_
 refine EvC.seq (EvC.rg (by simp only [go_sem, Mach.cells] <;> rfl) rfl ?_)
 refine EvC.z 0 ?_
 refine EvC.seq ?_
 apply EvC.seq
 apply EvC.trd
 ·simp only [go_sem] <;> rfl
 ·simp
 refine EvC.cd (fun hc => ?_) (fun hc => ?_)
 ·refine EvC.seq (EvC.rg (by simp only [go_sem] <;> rfl) rfl ?_)
  refine EvC.rz ?_
  simp only [go_sem]
  have h : 16 < m.ins ∨ 16 < m.outs ∨ 64 < (m.rows.length : Int) := by
   by_cases h1 : 16 < m.ins <;> by_cases h2 : 16 < m.outs <;> simp_all
  rw [checkM, if_pos h]
 have hn : ¬ (16 < m.ins ∨ 16 < m.outs ∨ 64 < (m.rows.length : Int)) := by
  by_cases h1 : 16 < m.ins <;> by_cases h2 : 16 < m.outs <;> simp_all
 refine EvC.skip ?_
 refine EvC.seq ?_
 apply EvC.seq
 apply EvC.trd
 ·simp only [go_sem] <;> rfl
 ·simp
 refine EvC.cd (fun hc => ?_) (fun hc => ?_)
 ·refine EvC.seq (EvC.rg (by simp only [go_sem] <;> rfl) rfl ?_)
  refine EvC.rz ?_
  simp only [go_sem]
  have h : m.ins < 1 ∨ m.outs < 1 ∨ (m.rows.length : Int) < 1 := by
   by_cases h1 : m.ins < 1 <;> by_cases h2 : m.outs < 1 <;> simp_all
  rw [checkM, if_neg hn, if_pos h]
 have hn2 : ¬ (m.ins < 1 ∨ m.outs < 1 ∨ (m.rows.length : Int) < 1) := by
  by_cases h1 : m.ins < 1 <;> by_cases h2 : m.outs < 1 <;> simp_all
 refine EvC.skip ?_
 have hlen : (m.rows.length : Int) ≤ 64 := by omega
 refine EvC.seq ?_
 refine EvC.a ?_
 refine EvC.block (EvC.loopS (σ := Nat) (fun i => ⟨[(1, .ia m.cells), (34, .sl m.nl (m.rows.map rowC) .unk), (35, .sc (.int .i64 m.rows.length)), (36, .sc (.int .i64 i))], [], [], 0⟩) (fun i => m.rows.length - i) (fun i => i ≤ m.rows.length ∧ m.rows.all (rowOk m) = (m.rows.drop i).all (rowOk m)) [1, 34, 35, 36] 0 ?_ ?_)
 ·refine ⟨[], 0, rfl, (by simp only [go_sem, Mach.cells] <;> rfl), Nat.zero_le _, by simp⟩
 rintro i ⟨h1, h2⟩
 refine EvC.seq (EvC.rg (by simp only [go_sem] <;> rfl) rfl ?_)
 refine EvC.seq (EvC.cond (by simp only [go_sem] <;> rfl) (fun hc => ?_) (fun hc => ?_))
 ·refine EvC.skip ?_
  have hi : i < m.rows.length := by simpa using hc
  have he : m.rows[i]? = some m.rows[i] := List.getElem?_eq_getElem hi
  generalize m.rows[i] = r at he
  have hm : r ∈ m.rows := List.mem_of_getElem? he
  have hd : m.rows.drop i = r :: m.rows.drop (i + 1) := by
   rw [List.drop_eq_getElem_cons hi]; congr 1; rw [List.getElem?_eq_getElem hi] at he; simpa using he
  refine EvC.seq ?_
  refine EvC.block (EvC.seq (EvC.rg (by simp only [go_sem, he, rowC] <;> rfl) (by simp) ?_))
  by_cases hl : (r.2.length : Int) = m.ins
  ·apply EvC.s1
   ·apply Tr.run
    ·simp only [go_sem, Mach.cells, hl] <;> rfl
    ·simp
    apply Tr.cons
    ·exact .cg (containsFunc_is r.1 r.2 .unk 84 [.ia m.cells] rfl (fun e => !fitsR m.rows.length m.outs e.1 e.2) (fun e _ => by simpa [edgeC, Mach.cells] using check1_is m.ins m.outs m.nl (m.rows.map rowC) .unk e.1 e.2) (hr r hm))
    apply Tr.done
    ·simp only [go_sem] <;> rfl
    ·simp
   refine EvC.cond (by simp only [go_sem] <;> rfl) (fun hc2 => ?_) (fun hc2 => ?_)
   ·refine EvC.seq (EvC.rg (by simp only [go_sem] <;> rfl) rfl ?_)
    refine EvC.rz ?_
    simp only [go_sem]
    rw [checkM, if_neg hn, if_neg hn2, h2, hd, List.all_cons]
    simp [rowOk, hc2]
   ·refine EvC.skip ?_
    refine EvC.rg (by simp only [go_sem] <;> rfl) ?_ ?_
    ·exact inI64_of (by omega) (by omega)
    refine ⟨[], i + 1, rfl, (by simp only [go_sem, Mach.cells] <;> rfl), ⟨by omega, ?_⟩, by omega⟩
    rw [h2, hd, List.all_cons]
    simp [rowOk, hl, hc2]
  ·apply EvC.s1
   ·apply Tr.run
    ·simp only [go_sem, Mach.cells, hl] <;> rfl
    ·simp
    apply Tr.cons
    ·exact .skipv (.sc (.bool false)) rfl rfl (by simp only [go_sem] <;> rfl) (by simp only [go_sem] <;> rfl)
    apply Tr.done
    ·simp only [go_sem] <;> rfl
    ·simp
   refine EvC.ct ?_
   refine EvC.seq (EvC.rg (by simp only [go_sem] <;> rfl) rfl ?_)
   refine EvC.rz ?_
   simp only [go_sem]
   rw [checkM, if_neg hn, if_neg hn2, h2, hd, List.all_cons]
   simp [rowOk, hl]
 ·refine EvC.exit ?_
  have hi : ¬ i < m.rows.length := by simpa using hc
  refine EvC.seq (EvC.rg (by simp only [go_sem] <;> rfl) rfl ?_)
  refine EvC.rz ?_
  simp only [go_sem]
  rw [checkM, if_neg hn, if_neg hn2, h2, List.drop_of_length_le (by omega)]; rfl
def edgeA (e : Int × Int) : AV := .ag [.sc (.int .i64 e.1), .sc (.int .i64 e.2)]
structure Valid (m : Mach) : Prop where
 ins : 1 ≤ m.ins ∧ m.ins ≤ 16
 outs : 1 ≤ m.outs ∧ m.outs ≤ 16
 rows : 1 ≤ m.rows.length ∧ m.rows.length ≤ 64
 row : ∀ r ∈ m.rows, (r.2.length : Int) = m.ins ∧ ∀ e ∈ r.2, fitsR m.rows.length m.outs e.1 e.2 = true
theorem Valid.of {m : Mach} (h : checkM m = 0) : Valid m := by
 unfold checkM at h
 split at h
 ·cases h
 ·split at h
  ·cases h
  ·split at h
   ·rename_i h1 h2 h3
    rw [List.all_eq_true] at h3
    refine ⟨by omega, by omega, by omega, fun r hr => ?_⟩
    have := h3 r hr
    simp only [rowOk, Bool.and_eq_true, decide_eq_true_eq, Bool.not_eq_true', List.any_eq_false] at this
    exact ⟨this.1, fun e he => by simpa using this.2 e he⟩
   ·cases h
def stepR (m : Mach) (s a : Int) : Int × Int := if s < 0 then (-1, -1) else (((m.rows[s.toNat]?).map (·.2)).getD [])[a.toNat]?.getD (-1, -1)
theorem stepR_get {m : Mach} (hv : Valid m) {s a : Int} (h0 : 0 ≤ s) (hs : s < m.rows.length) (ha : 0 ≤ a ∧ a < m.ins) :
  ∃ r e, m.rows[s.toNat]? = some r ∧ r.2[a.toNat]? = some e ∧ stepR m s a = e ∧ fitsR m.rows.length m.outs e.1 e.2 = true := by
 have h1 : m.rows[s.toNat]? = some m.rows[s.toNat] := List.getElem?_eq_getElem (by omega)
 obtain ⟨h2, h3⟩ := hv.row _ (List.getElem_mem (show s.toNat < m.rows.length by omega))
 have h4 : (m.rows[s.toNat]).2[a.toNat]? = some ((m.rows[s.toNat]).2[a.toNat]'(by omega)) := List.getElem?_eq_getElem _
 exact ⟨_, _, h1, h4, by rw [stepR, if_neg (by omega), h1]; simp only [Option.map_some, Option.getD_some, h4], h3 _ (List.getElem_mem _)⟩
def runR (m : Mach) : Int → List Int → List Int
 | _, [] => []
 | s, a :: w => (stepR m s a).2 :: runR m (stepR m s a).1 w
theorem stepR_lt {m : Mach} (hv : Valid m) {s a : Int} (hs : s < m.rows.length) (ha : 0 ≤ a ∧ a < m.ins) : (stepR m s a).1 < m.rows.length := by
 by_cases h0 : 0 ≤ s
 ·obtain ⟨r, e, _, _, h3, h4⟩ := stepR_get hv h0 hs ha
  rw [h3]
  have := hv.rows
  unfold fitsR at h4
  simp at h4; omega
 ·rw [stepR, if_pos (by omega)]; have := hv.rows; simp only; omega
def rowF (r : List (Int × Int)) : List AV := rowC (false, r)
@[go_sem] theorem norefs_rowF (l : List (List (Int × Int))) : (l.map rowF).all AV.norefs = true := by simp [List.all_eq_true, rowF, rowC, AV.norefs, AV.noref]
structure LM where
 st : Int
 ins : Int
 outs : Int
 part : Bool
 nl : Bool
 es : List Int
 cap : Cp
def u16C (x : Int) : List AV := [.sc (.int .u16 x)]
@[go_sem] theorem norefs_u16 (l : List Int) : (l.map u16C).all AV.norefs = true := by simp [List.all_eq_true, u16C, AV.norefs, AV.noref]
def LM.cells (x : LM) : List AV := [.sc (.int .u8 x.st), .sc (.int .u8 x.ins), .sc (.int .u8 x.outs), .sc (.bool x.part), .sl x.nl (x.es.map u16C) x.cap]
structure LM.Ok (x : LM) : Prop where
 st : 0 ≤ x.st
 ins : 0 ≤ x.ins
 outs : 0 ≤ x.outs
 es : ∀ e ∈ x.es, 0 ≤ e ∧ e < 65536
def LM.n (x : LM) : Nat := (1 + x.st % 6).toNat
def LM.i (x : LM) : Nat := (1 + x.ins % 3).toNat
def LM.o (x : LM) : Int := 1 + x.outs % 3
def LM.v (x : LM) (s i : Nat) : Int := (x.es[s * x.i + i]?).getD 0
def LM.edge (x : LM) (s i : Nat) : Int × Int :=
 if x.part = true ∧ x.v s i % 4 = 3 then (-1, -1) else (x.v s i / 4 % x.n, x.v s i / 4 / x.n % x.o)
def LM.row (x : LM) (s : Nat) : List (Int × Int) := (List.range x.i).map (x.edge s)
def LM.mach (x : LM) : Mach := ⟨x.i, x.o, false, (List.range x.n).map fun s => (false, x.row s)⟩
theorem LM.bounds {x : LM} (h : x.Ok) : 1 ≤ x.n ∧ x.n ≤ 6 ∧ 1 ≤ x.i ∧ x.i ≤ 3 ∧ 1 ≤ x.o ∧ x.o ≤ 3 ∧ (x.n : Int) = 1 + x.st % 6 ∧ (x.i : Int) = 1 + x.ins % 3 := by
 have h1 := h.st
 have h2 := h.ins
 have h3 := h.outs
 unfold LM.n LM.i LM.o
 omega
theorem LM.v_ok {x : LM} (h : x.Ok) (s i : Nat) : 0 ≤ x.v s i ∧ x.v s i < 65536 := by
 unfold LM.v
 cases he : x.es[s * x.i + i]? with
 | none => simp
 | some e => exact h.es e (List.mem_of_getElem? he)
theorem mOf_is {x : LM} (h : x.Ok) : PureIs prog 13 [.ag x.cells] (.ag x.mach.cells) := by
 refine PureIs.of1 10 [28, 34, 47, 60] func13 ntmps13 results13 fun _ => ?_
 obtain ⟨b1, b2, b3, b4, b5, b6, b7, b8⟩ := LM.bounds h
 have h1 := h.st
 have h2 := h.ins
 have h3 := h.outs
 have hI1 : inI64 (x.st % 6) = true := inI64_of (by omega) (by omega)
 have hI2 : inI64 (x.ins % 3) = true := inI64_of (by omega) (by omega)
 have hI3 : inI64 (x.outs % 3) = true := inI64_of (by omega) (by omega)
 have hI4 : inI64 (1 + x.st % 6) = true := inI64_of (by omega) (by omega)
 have hI5 : inI64 (1 + x.ins % 3) = true := inI64_of (by omega) (by omega)
 have hI6 : inI64 (1 + x.outs % 3) = true := inI64_of (by omega) (by omega)
 refine EvC.a ?_ (by simp only [go_sem, LM.cells] <;> rfl)
 refine EvC.z 0 ?_
 refine EvC.a ?_ (hok := by simp [hI1, hI4, h1])
 refine EvC.a ?_ (hok := by simp [hI2, hI3, hI5, hI6, h2, h3])
 refine EvC.seq ?_
 refine EvC.a ?_
 refine EvC.block ?_
 have hmem : ∀ {s : Nat}, (fun s => ((false, x.row s) : Row)) s = (false, x.row s) := fun {_} => rfl
 have hO : x.o = 1 + x.outs % 3 := rfl
 refine EvC.ownC 19 2 1 (by simp only [go_sem] <;> rfl) ?_
 refine EvC.loopS (σ := Nat) (fun s => ⟨[(1, .ia x.cells), (2, .rf 0 0), (3, .sc (.int .i64 x.n)), (4, .rf 1 0), (5, .sc (.int .i64 s))], [],
   [(0, .cells [.sc (.int .i64 0), .sc (.int .i64 0), .sl true [] .zer]), (1, .cells [.sc (.int .i64 x.i), .sc (.int .i64 x.o), .tl 2 s (s == 0)]), (2, .arr 1 (((List.range s).map x.row).map rowF) true)], 3⟩) (fun s => x.n - s)
  (fun s => s ≤ x.n) [1, 2, 3, 4, 5] 3 ?_ ?_
 ·exact ⟨[(1, 0), (19, 1), (22, 2)], 0, rfl, (by simp only [go_sem, LM.cells, ← b7, ← b8, ← hO, List.range_zero] <;> rfl), Nat.zero_le _⟩
 intro s hs
 have hls : (((List.range s).map x.row).map rowF).length = s := by simp
 refine EvC.seq ?_
 refine EvC.a ?_
 refine EvC.cd (fun hc => ?_) (fun hc => ?_)
 rotate_left
 ·refine EvC.exit ?_
  have hc : ¬ s < x.n := by simpa using hc
  obtain rfl : s = x.n := by omega
  refine EvC.frzD 2 (by simp only [go_sem, hls] <;> rfl) ?_
  refine EvC.a ?_
  refine EvC.rz ?_
  simp only [go_sem]
  have hne : (x.n == 0) = false := by simp; omega
  simp only [Mach.cells, LM.mach, hne]
  rw [List.map_map, List.map_map]
  rfl
 have hc : s < x.n := by simpa using hc
 refine EvC.skip ?_
 refine EvC.seq ?_
 refine EvC.block ?_
 refine EvC.a ?_
 refine EvC.seq ?_
 refine EvC.a ?_
 refine EvC.block ?_
 refine EvC.loopS (σ := Nat) (fun i => ⟨[(1, .ia x.cells), (2, .rf 0 0), (3, .sc (.int .i64 x.n)), (4, .rf 1 0), (5, .sc (.int .i64 s)), (6, .tl 3 i (i == 0)), (7, .sc (.int .i64 i))], [],
   [(0, .cells [.sc (.int .i64 0), .sc (.int .i64 0), .sl true [] .zer]), (1, .cells [.sc (.int .i64 x.i), .sc (.int .i64 x.o), .tl 2 s (s == 0)]), (2, .arr 1 (((List.range s).map x.row).map rowF) true),
    (3, .arr 2 (((List.range i).map (x.edge s)).map edgeC) true)], 4⟩) (fun i => x.i - i)
  (fun i => i ≤ x.i) [1, 2, 3, 4, 5, 6, 7] 4 ?_ ?_
 ·exact ⟨[(0, 0), (1, 1), (2, 2), (6, 3)], 0, rfl, (by simp only [go_sem, List.range_zero] <;> rfl), Nat.zero_le _⟩
 intro i hi
 have hli : (((List.range i).map (x.edge s)).map edgeC).length = i := by simp
 refine EvC.seq ?_
 refine EvC.a ?_
 refine EvC.cd (fun hc => ?_) (fun hc => ?_)
 rotate_left
 ·refine EvC.exit ?_
  have hc : ¬ i < x.i := by simpa using hc
  obtain rfl : i = x.i := by omega
  have hne : (x.i == 0) = false := by simp; omega
  refine EvC.frz 3 (by simp only [go_sem, hli, hne] <;> rfl) ?_
  refine EvC.b ?_ (hok := by simp [room_eq, AV.norefs, AV.noref, hls]; omega)
  refine EvC.b ?_ (hok := inI64_of (by omega) (by omega))
  refine ⟨[(0, 0), (1, 1), (2, 2)], s + 1, rfl, ?_, by omega, by omega⟩
  have hs0 : (s + 1 == 0) = false := rfl
  simp only [go_sem, hs0, List.range_succ, rowF, rowC, LM.row, List.length_map, List.length_range] <;> rfl
 have hc : i < x.i := by simpa using hc
 have hv := LM.v_ok h s i
 have hsi : (0 : Int) ≤ (s : Int) * x.i := Int.mul_nonneg (by omega) (by omega)
 have hsi2 : (s : Int) * x.i ≤ 18 := by
  have : s * x.i ≤ 6 * 3 := Nat.mul_le_mul (by omega) (by omega)
  have := Int.ofNat_le.2 this
  simpa using this
 have hk : ((s * x.i + i : Nat) : Int) = (s : Int) * x.i + i := by simp
 have hkn : ((s : Int) * x.i + i).toNat = s * x.i + i := by omega
 have hIm : inI64 ((s : Int) * x.i) = true := inI64_of (by omega) (by omega)
 have hIk : inI64 ((s : Int) * x.i + i) = true := inI64_of (by omega) (by omega)
 have hIi : inI64 ((i : Int) + 1) = true := inI64_of (by omega) (by omega)
 have hIv : inI64 (x.v s i) = true := inI64_of (by omega) (by omega)
 refine EvC.skip ?_
 refine EvC.seq ?_
 refine EvC.block ?_
 refine EvC.a ?_
 refine EvC.seq ?_
 refine EvC.a ?_ (hok := by simp [hIm, hIk])
 refine EvC.a ?_ (by simp only [go_sem, LM.cells] <;> rfl)
 refine EvC.cd (fun hc => ?_) (fun hc => ?_)
 ·have hkl : s * x.i + i < x.es.length := by
    have : (s : Int) * x.i + i < x.es.length := by simpa using hc
    omega
  have hev : x.es[s * x.i + i]? = some (x.v s i) := by
   unfold LM.v
   rw [List.getElem?_eq_getElem hkl]; rfl
  refine EvC.b ?_ (by simp only [go_sem, LM.cells, hkn, hev, u16C] <;> rfl) (by simp [hIv]; omega)
  apply EvC.seq
  apply EvC.trd
  ·simp only [go_sem, LM.cells] <;> rfl
  ·simp [hv.1]
  have hi0 : (i + 1 == 0) = false := rfl
  refine EvC.cond (by simp only [go_sem] <;> rfl) (fun hp => ?_) (fun hp => ?_)
  ·have hp : x.part = true ∧ x.v s i % 4 = 3 := by
     by_cases h1 : x.part = true
     ·simp [h1] at hp; exact ⟨h1, hp⟩
     ·simp [h1] at hp
   have he : x.edge s i = (-1, -1) := if_pos hp
   refine EvC.b ?_ (hok := by simp [room_eq, AV.norefs, AV.noref]; omega)
   refine EvC.rg (by simp only [go_sem] <;> rfl) hIi ?_
   refine ⟨[(0, 0), (1, 1), (2, 2), (3, 3)], i + 1, rfl, ?_, by omega, by omega⟩
   simp only [go_sem, hi0, List.range_succ, he, edgeC, List.length_map, List.length_range] <;> rfl
  ·have hp : ¬ (x.part = true ∧ x.v s i % 4 = 3) := by
     rintro ⟨h1, h2⟩
     simp [h1, h2] at hp
   have he : x.edge s i = (x.v s i / 4 % x.n, x.v s i / 4 / x.n % x.o) := if_neg hp
   have hq1 : 0 ≤ x.v s i / 4 := Int.ediv_nonneg hv.1 (by omega)
   have hq2 : 0 ≤ x.v s i / 4 / x.n := Int.ediv_nonneg hq1 (by omega)
   have hq3 : x.v s i / 4 ≤ 65536 := by omega
   have hq4 : x.v s i / 4 / x.n ≤ x.v s i / 4 := Int.ediv_le_self _ hq1
   have hIq1 : inI64 (x.v s i / 4) = true := inI64_of (by omega) (by omega)
   have hIq2 : inI64 (x.v s i / 4 / x.n) = true := inI64_of (by omega) (by omega)
   apply EvC.drd mixed
   ·simp only [go_sem] <;> rfl
   ·simp [room_eq, AV.norefs, AV.noref, hv.1, hq1, hq2, hIq1, hIq2]; omega
   ·kernel_rfl
   refine EvC.rg (by simp only [go_sem] <;> rfl) hIi ?_
   refine ⟨[(0, 0), (1, 1), (2, 2), (3, 3)], i + 1, rfl, ?_, by omega, by omega⟩
   simp only [go_sem, hi0, List.range_succ, he, edgeC, List.length_map, List.length_range] <;> rfl
 ·have hkl : ¬ s * x.i + i < x.es.length := by
    have : ¬ (s : Int) * x.i + i < x.es.length := by simpa using hc
    omega
  have hev : x.v s i = 0 := by
   unfold LM.v
   rw [List.getElem?_eq_none (by omega)]; rfl
  refine EvC.skip ?_
  rw [← hev]
  apply EvC.seq
  apply EvC.trd
  ·simp only [go_sem, LM.cells] <;> rfl
  ·simp [hv.1]
  have hi0 : (i + 1 == 0) = false := rfl
  refine EvC.cond (by simp only [go_sem] <;> rfl) (fun hp => ?_) (fun hp => ?_)
  ·have hp : x.part = true ∧ x.v s i % 4 = 3 := by
     by_cases h1 : x.part = true
     ·simp [h1] at hp; exact ⟨h1, hp⟩
     ·simp [h1] at hp
   have he : x.edge s i = (-1, -1) := if_pos hp
   refine EvC.b ?_ (hok := by simp [room_eq, AV.norefs, AV.noref]; omega)
   refine EvC.rg (by simp only [go_sem] <;> rfl) hIi ?_
   refine ⟨[(0, 0), (1, 1), (2, 2), (3, 3)], i + 1, rfl, ?_, by omega, by omega⟩
   simp only [go_sem, hi0, List.range_succ, he, edgeC, List.length_map, List.length_range] <;> rfl
  ·have hp : ¬ (x.part = true ∧ x.v s i % 4 = 3) := by
     rintro ⟨h1, h2⟩
     simp [h1, h2] at hp
   have he : x.edge s i = (x.v s i / 4 % x.n, x.v s i / 4 / x.n % x.o) := if_neg hp
   have hq1 : 0 ≤ x.v s i / 4 := Int.ediv_nonneg hv.1 (by omega)
   have hq2 : 0 ≤ x.v s i / 4 / x.n := Int.ediv_nonneg hq1 (by omega)
   have hq3 : x.v s i / 4 ≤ 65536 := by omega
   have hq4 : x.v s i / 4 / x.n ≤ x.v s i / 4 := Int.ediv_le_self _ hq1
   have hIq1 : inI64 (x.v s i / 4) = true := inI64_of (by omega) (by omega)
   have hIq2 : inI64 (x.v s i / 4 / x.n) = true := inI64_of (by omega) (by omega)
   apply EvC.drd mixed
   ·simp only [go_sem] <;> rfl
   ·simp [room_eq, AV.norefs, AV.noref, hv.1, hq1, hq2, hIq1, hIq2]; omega
   ·kernel_rfl
   refine EvC.rg (by simp only [go_sem] <;> rfl) hIi ?_
   refine ⟨[(0, 0), (1, 1), (2, 2), (3, 3)], i + 1, rfl, ?_, by omega, by omega⟩
   simp only [go_sem, hi0, List.range_succ, he, edgeC, List.length_map, List.length_range] <;> rfl
def afterR (m : Mach) : Int → List Int → Int
 | s, [] => s
 | s, a :: w => afterR m (stepR m s a).1 w
theorem runR_len (m : Mach) : ∀ (s : Int) (w : List Int), (runR m s w).length = w.length
 | _, [] => rfl
 | s, a :: w => by simp only [runR, List.length_cons]; rw [runR_len m _ w]
theorem checkM_of {m : Mach} (hv : Valid m) : checkM m = 0 := by
 have h1 := hv.ins
 have h2 := hv.outs
 have h3 := hv.rows
 have h4 : m.rows.all (rowOk m) = true := by
  rw [List.all_eq_true]
  intro r hr
  obtain ⟨k1, k2⟩ := hv.row r hr
  simp only [rowOk, Bool.and_eq_true, decide_eq_true_eq, Bool.not_eq_true', List.any_eq_false]
  exact ⟨k1, fun e he => by simp [k2 e he]⟩
 rw [checkM, if_neg (by omega), if_neg (by omega), if_pos h4]
theorem Valid.small {m : Mach} (hv : Valid m) : ∀ r ∈ m.rows, r.2.length < 1000000 := fun r hr => by
 have := (hv.row r hr).1
 have := hv.ins
 omega
theorem list_step {α : Type} {a : List α} {i : Nat} {x : α} (h : a[i]? = some x) : a.drop i = x :: a.drop (i + 1) := by
 obtain ⟨hi, he⟩ := List.getElem?_eq_some_iff.1 h
 rw [List.drop_eq_getElem_cons hi, he]
theorem clipI_is (nl : Bool) (es : List (List AV)) (c : Cp) (h : (es.all fun y => decide (y.length = 1)) = true) : PureIs prog 26 [.sl nl es c] (.sl nl es .full) := by
 refine PureIs.of1 3 [] func26 ntmps26 results26 fun _ => ?_
 refine EvC.seq (EvC.rg (by simp only [go_sem] <;> rfl) rfl ?_)
 refine EvC.a ?_ (hok := by simp [h])
 refine EvC.ret ⟨.inl rfl, _, (by simp only [go_sem] <;> rfl), rfl, rfl⟩
def u8C (x : Int) : List AV := [.sc (.int .u8 x)]
@[go_sem] theorem norefs_u8 (l : List Int) : (l.map u8C).all AV.norefs = true := by simp [List.all_eq_true, u8C, AV.norefs, AV.noref]
theorem LM.valid {x : LM} (h : x.Ok) : Valid x.mach := by
 obtain ⟨b1, b2, b3, b4, b5, b6, -, -⟩ := LM.bounds h
 have hl : x.mach.rows.length = x.n := by simp [LM.mach]
 refine ⟨⟨by show (1 : Int) ≤ x.i; omega, by show (x.i : Int) ≤ 16; omega⟩, ⟨b5, by show x.o ≤ 16; omega⟩, by rw [hl]; omega, fun r hr => ?_⟩
 rw [hl]
 simp only [LM.mach, List.mem_map, List.mem_range] at hr ⊢
 obtain ⟨s, hs, rfl⟩ := hr
 refine ⟨by simp [LM.row], fun e he => ?_⟩
 simp only [LM.row, List.mem_map, List.mem_range] at he
 obtain ⟨i, hi, rfl⟩ := he
 obtain ⟨v1, v2⟩ := LM.v_ok h s i
 unfold LM.edge
 split
 ·simp [fitsR]
 ·have h1 := Int.emod_nonneg (x.v s i / 4) (b := x.n) (by omega)
  have h2 := Int.emod_lt_of_pos (x.v s i / 4) (b := x.n) (by omega)
  have h3 := Int.emod_nonneg (x.v s i / 4 / x.n) (b := x.o) (by omega)
  have h4 := Int.emod_lt_of_pos (x.v s i / 4 / x.n) (b := x.o) (by omega)
  simp [fitsR, h1, h2, h3, h4]
def rowN (m : Mach) (s : Nat) : List (Int × Int) := ((m.rows[s]?).map (·.2)).getD []
def boolC (b : Bool) : List AV := [.sc (.bool b)]
@[go_sem] theorem norefs_bool (l : List Bool) : (l.map boolC).all AV.norefs = true := by simp [List.all_eq_true, boolC, AV.norefs, AV.noref]
def ex (xs : List (Int × Int)) (a : Nat) : Int × Int := xs[a]?.getD (-1, -1)
theorem fits_cases {n o a b : Int} (h : fitsR n o a b = true) : (a = -1 ∧ b = -1) ∨ (0 ≤ a ∧ a < n ∧ 0 ≤ b ∧ b < o) := by
 unfold fitsR at h; simp at h; omega
theorem step_ex (m : Mach) (s a : Nat) : stepR m s a = ex (rowN m s) a := by
 rw [stepR, if_neg (by omega)]; simp [ex, rowN]
theorem run_cons (m : Mach) (s a : Nat) (w : List Int) : runR m s ((a : Int) :: w) = (ex (rowN m s) a).2 :: runR m (ex (rowN m s) a).1 w := by
 rw [runR, step_ex]
structure WV (m : Mach) : Prop where
 ins : 1 ≤ m.ins ∧ m.ins ≤ 16
 rows : 1 ≤ m.rows.length ∧ m.rows.length ≤ 1000
 row : ∀ r ∈ m.rows, (r.2.length : Int) = m.ins ∧ ∀ e ∈ r.2, fitsR m.rows.length m.outs e.1 e.2 = true
theorem Valid.w {m : Mach} (h : Valid m) : WV m := ⟨h.ins, ⟨h.rows.1, by have := h.rows.2; omega⟩, h.row⟩
theorem row_lenW {m : Mach} (hv : WV m) {s : Nat} (hs : s < m.rows.length) : (rowN m s).length = m.ins.toNat := by
 have h1 : m.rows[s]? = some m.rows[s] := List.getElem?_eq_getElem hs
 have := (hv.row _ (List.getElem_mem hs)).1
 simp only [rowN, h1, Option.map_some, Option.getD_some]; omega
theorem ex_fitsW {m : Mach} (hv : WV m) {s a : Nat} (hs : s < m.rows.length) (ha : a < m.ins.toNat) :
  ((ex (rowN m s) a).1 = -1 ∧ (ex (rowN m s) a).2 = -1) ∨ (0 ≤ (ex (rowN m s) a).1 ∧ (ex (rowN m s) a).1 < m.rows.length ∧ 0 ≤ (ex (rowN m s) a).2 ∧ (ex (rowN m s) a).2 < m.outs) := by
 have h0 := row_lenW hv hs
 have h1 : m.rows[s]? = some m.rows[s] := List.getElem?_eq_getElem hs
 have h2 := (hv.row _ (List.getElem_mem hs)).2
 have h3 : rowN m s = m.rows[s].2 := by simp [rowN, h1]
 have h4 : a < (rowN m s).length := by omega
 have h5 : ex (rowN m s) a = (rowN m s)[a] := by rw [ex, List.getElem?_eq_getElem h4]; rfl
 rw [h5]
 refine fits_cases (h2 _ ?_)
 rw [← h3]; exact List.getElem_mem h4
theorem ex_bothW {m : Mach} (hv : WV m) {s t a : Nat} (hs : s < m.rows.length) (ht : t < m.rows.length) (ha : a < m.ins.toNat) (h : (ex (rowN m s) a).2 = (ex (rowN m t) a).2) :
  ((ex (rowN m s) a).1 = -1 ∧ (ex (rowN m t) a).1 = -1) ∨ ∃ p q : Nat, (ex (rowN m s) a).1 = (p : Int) ∧ (ex (rowN m t) a).1 = (q : Int) ∧ p < m.rows.length ∧ q < m.rows.length := by
 have h1 := ex_fitsW hv hs ha
 have h2 := ex_fitsW hv ht ha
 rcases h1 with h1 | h1 <;> rcases h2 with h2 | h2
 ·exact .inl ⟨h1.1, h2.1⟩
 ·omega
 ·omega
 ·exact .inr ⟨(ex (rowN m s) a).1.toNat, (ex (rowN m t) a).1.toNat, by omega, by omega, by omega, by omega⟩
abbrev Mtx := Nat → Nat → Bool
def mrow (cp : Cp) (n : Nat) (M : Mtx) (i : Nat) : List AV := [.sl false (((List.range n).map (M i)).map boolC) cp]
@[go_sem] theorem norefs_mrow (cp : Cp) (n : Nat) (M : Mtx) (l : List Nat) : (l.map (mrow cp n M)).all AV.norefs = true := by
 rw [List.all_eq_true]
 intro y hy
 obtain ⟨i, _, rfl⟩ := List.mem_map.1 hy
 simp only [mrow, AV.norefs, AV.noref, norefs_bool, Bool.and_self]
def mtab (n : Nat) (M : Mtx) (i : Nat) : List (List AV) := (List.range i).map (mrow .unk n M)
@[go_sem] theorem norefs_mtab (n : Nat) (M : Mtx) (i : Nat) : (mtab n M i).all AV.norefs = true := norefs_mrow _ _ _ _
@[go_sem] theorem mtab_ren (n : Nat) (M : Mtx) (i : Nat) (ρ : List (Nat × Nat)) : (mtab n M i).map (fun c => c.map (AV.ren ρ)) = mtab n M i := by
 rw [mtab, List.map_map]
 refine List.map_congr_left fun k _ => ?_
 simp only [Function.comp, mrow, List.map_cons, List.map_nil]
 rfl
abbrev Arr := (Int × Int) × Int × Int
def arrC (a : Arr) : List AV := [.sc (.int .i64 a.1.1), .sc (.int .i64 a.1.2), .sc (.int .i64 a.2.1), .sc (.int .i64 a.2.2)]
@[go_sem] theorem norefs_arrs (l : List Arr) : (l.map arrC).all AV.norefs = true := by simp [List.all_eq_true, arrC, AV.norefs, AV.noref]
def WfArr (l : List Arr) : Prop := ∀ (i : Nat) (a : Arr), l[i]? = some a → -1 ≤ a.2.1 ∧ a.2.1 < i
theorem nodup_bound : ∀ (n : Nat) (l : List Nat), l.Nodup → (∀ x ∈ l, x < n) → l.length ≤ n
 | 0, [], _, _ => Nat.le_refl _
 | 0, x :: _, _, h => absurd (h x List.mem_cons_self) (Nat.not_lt_zero _)
 | n + 1, l, hn, h => by
   have h1 := nodup_bound n (l.filter (fun x => decide (x ≠ n))) (hn.filter _) fun x hx => by
    obtain ⟨h2, h3⟩ := List.mem_filter.1 hx
    have := h x h2
    have h3 : x ≠ n := by simpa using h3
    omega
   have h2 : (l.filter (fun x => decide (x = n))).length ≤ 1 := by
    have h3 : ∀ x ∈ l.filter (fun x => decide (x = n)), x = n := fun x hx => by simpa using (List.mem_filter.1 hx).2
    have h4 := hn.filter (fun x => decide (x = n))
    generalize l.filter (fun x => decide (x = n)) = m at h3 h4
    match m, h3, h4 with
    | [], _, _ => simp
    | [_], _, _ => simp
    | x :: y :: m, h3, h4 =>
      have e1 := h3 x (by simp)
      have e2 := h3 y (by simp)
      subst e1; subst e2
      simp at h4
   have h3 : l.length = (l.filter (fun x => decide (x ≠ n))).length + (l.filter (fun x => decide (x = n))).length := by
    clear hn h h1 h2
    induction l with
    | nil => rfl
    | cons x l ih =>
      by_cases hx : x = n <;> simp [List.filter_cons, hx, ih] <;> omega
   omega
theorem pairs_bound (l : List (Int × Int)) (hn : l.Nodup) (h : ∀ p ∈ l, 0 ≤ p.1 ∧ p.1 < 64 ∧ 0 ≤ p.2 ∧ p.2 < 64) : l.length ≤ 4096 := by
 have := nodup_bound 4096 (l.map fun p => p.1.toNat * 64 + p.2.toNat) (by
  refine List.Pairwise.map _ (R := fun a b => a ∈ l ∧ b ∈ l ∧ a ≠ b) ?_ ?_
  ·rintro ⟨a, b⟩ ⟨c, d⟩ ⟨h1, h2, h3⟩ h4
   have k1 := h _ h1
   have k2 := h _ h2
   simp only at k1 k2 h4
   exact h3 (by rw [Prod.mk.injEq]; omega)
  ·exact List.Pairwise.imp_of_mem (fun h1 h2 h3 => ⟨h1, h2, h3⟩) hn) (by
  intro x hx
  obtain ⟨p, hp, rfl⟩ := List.mem_map.1 hx
  have := h p hp; omega)
 simpa using this
structure Yld where
 at' : Int
 inp : Int
 x : Int × Int
 y : Int × Int
 l : List Arr
def nextL (at' i : Int) (x y : Int × Int) (l : List Arr) : List Arr :=
 if x.1 ≠ -1 ∧ y.1 ≠ -1 ∧ (x.1, y.1) ∉ l.map (·.1) then l ++ [((x.1, y.1), at', i)] else l
def arr0 : List Arr := [((0, 0), -1, 0)]
structure GoodL (a b : Mach) (l : List Arr) : Prop where
 nd : (l.map (·.1)).Nodup
 rng : ∀ p ∈ l, 0 ≤ p.1.1 ∧ p.1.1 < a.rows.length ∧ 0 ≤ p.1.2 ∧ p.1.2 < b.rows.length
 wf : WfArr l
theorem GoodL.len {a b : Mach} (ha : Valid a) (hb : Valid b) {l : List Arr} (h : GoodL a b l) : l.length ≤ 4096 := by
 have := pairs_bound (l.map (·.1)) h.nd fun p hp => by
  obtain ⟨q, hq, rfl⟩ := List.mem_map.1 hp
  have := h.rng q hq
  have h1 := ha.rows; have h2 := hb.rows; omega
 simpa using this
theorem GoodL.zero {a b : Mach} (ha : Valid a) (hb : Valid b) : GoodL a b arr0 := by
 have h1 := ha.rows
 have h2 := hb.rows
 refine ⟨by simp [arr0], ?_, ?_⟩
 ·intro p hp
  simp only [arr0, List.mem_singleton] at hp
  subst hp
  simp only; omega
 ·intro i p hp
  cases i with
  | zero => simp only [arr0, List.getElem?_cons_zero, Option.some.injEq] at hp; subst hp; simp
  | succ i => simp [arr0] at hp
theorem GoodL.next {a b : Mach} (ha : Valid a) (hb : Valid b) {l : List Arr} (h : GoodL a b l) {at' : Nat} (hat : at' < l.length) {i : Int} {s t : Int} (hs : 0 ≤ s ∧ s < a.rows.length) (ht : 0 ≤ t ∧ t < b.rows.length) (hi : 0 ≤ i ∧ i < a.ins) (hab : a.ins = b.ins) :
  GoodL a b (nextL at' i (stepR a s i) (stepR b t i) l) ∧ at' < (nextL at' i (stepR a s i) (stepR b t i) l).length := by
 unfold nextL
 split
 ·rename_i hx
  obtain ⟨h1, h2, h3⟩ := hx
  obtain ⟨_, _, _, _, e1, f1⟩ := stepR_get ha hs.1 hs.2 hi
  obtain ⟨_, _, _, _, e2, f2⟩ := stepR_get hb ht.1 ht.2 (by rw [← hab]; exact hi)
  rw [← e1] at f1
  rw [← e2] at f2
  refine ⟨⟨?_, ?_, ?_⟩, by simp; omega⟩
  ·rw [List.map_append, List.nodup_append]
   refine ⟨h.nd, by simp, ?_⟩
   rintro p hp q hq rfl
   simp only [List.map_cons, List.map_nil, List.mem_singleton] at hq
   subst hq
   exact h3 hp
  ·intro p hp
   rcases List.mem_append.1 hp with hp | hp
   ·exact h.rng p hp
   ·simp only [List.mem_singleton] at hp
    subst hp
    unfold fitsR at f1 f2
    simp at f1 f2
    simp only; omega
  ·intro j p hp
   by_cases hj : j < l.length
   ·rw [List.getElem?_append_left hj] at hp; exact h.wf j p hp
   ·rw [List.getElem?_append_right (by omega)] at hp
    by_cases h0 : j - l.length = 0
    ·rw [h0] at hp
     simp only [List.getElem?_cons_zero, Option.some.injEq] at hp
     subst hp
     simp only; omega
    ·obtain ⟨m, hm⟩ : ∃ m, j - l.length = m + 1 := ⟨j - l.length - 1, by omega⟩
     rw [hm] at hp; simp at hp
 ·exact ⟨h, hat⟩
def pairV (p : Int × Int) : Value := .agg [Value.int .i64 p.1, .int .i64 p.2].toArray
def seenE (a : Arr) : Value × AV := (pairV a.1, .sc (.bool true))
@[go_sem] theorem key91 : isKey prog 91 = keyTest true [.int .i64, .int .i64] := isKey_of (by kernel_rfl) (by kernel_rfl)
@[go_sem] theorem norefs_seen (l : List Arr) : ((l.map seenE).all fun p => p.2.noref) = true := by simp [List.all_eq_true, seenE, AV.noref]
theorem eqVal_pair (p q : Int × Int) : eqVal (pairV p) (pairV q) = decide (p = q) := by
 obtain ⟨a, b⟩ := p; obtain ⟨c, d⟩ := q
 simp [eqVal, pairV, Value.cells, eqCells, eqCell]
structure GoodY (a b : Mach) (z : Yld) : Prop where
 l : GoodL a b z.l
 at0 : 0 ≤ z.at'
 at1 : z.at' < z.l.length
 inp : 0 ≤ z.inp ∧ z.inp < a.ins
 xy : ∃ p, z.l[z.at'.toNat]? = some p ∧ z.x = stepR a p.1.1 z.inp ∧ z.y = stepR b p.1.2 z.inp
def rank (k : Nat) : List Int → Nat
 | [] => 0
 | a :: w => (a.toNat + 1) * k ^ w.length + rank k w
def WOk (k : Nat) (w : List Int) : Prop := ∀ a ∈ w, 0 ≤ a ∧ a < k
theorem WOk.tail {k : Nat} {a : Int} {w : List Int} (h : WOk k (a :: w)) : WOk k w := fun x hx => h x (List.mem_cons_of_mem _ hx)
theorem WOk.head {k : Nat} {a : Int} {w : List Int} (h : WOk k (a :: w)) : 0 ≤ a ∧ a < k := h a List.mem_cons_self
theorem WOk.cons {k : Nat} {a : Int} {w : List Int} (ha : 0 ≤ a ∧ a < k) (h : WOk k w) : WOk k (a :: w) := fun x hx => by
 rcases List.mem_cons.1 hx with rfl | hx
 ·exact ha
 ·exact h x hx
def Alike (m : Mach) (k s t : Nat) : Prop := ∀ v, WOk m.ins.toNat v → v.length ≤ k → runR m s v = runR m t v
theorem alike_succ {m : Mach} (hv : WV m) {k : Nat} (hk : ∀ s t, s < m.rows.length → t < m.rows.length → Alike m k s t → Alike m (k + 1) s t) {s t : Nat} (hs : s < m.rows.length) (ht : t < m.rows.length) (h : Alike m k s t) : ∀ j, Alike m (k + j) s t
 | 0 => h
 | j + 1 => by
   intro v hvo hvl
   have h1 := hk s t hs ht h
   match v, hvo with
   | [], _ => rfl
   | b :: v, hvo =>
     have hb := hvo.head
     obtain ⟨b, rfl⟩ : ∃ n : Nat, b = (n : Int) := ⟨b.toNat, by omega⟩
     have hbl : b < m.ins.toNat := by omega
     have ho : (ex (rowN m s) b).2 = (ex (rowN m t) b).2 := by
      have := h1 [(b : Int)] (fun x hx => by simp at hx; omega) (by simp)
      rw [run_cons, run_cons] at this
      exact (List.cons.inj this).1
     rw [run_cons, run_cons, ho]
     congr 1
     rcases ex_bothW hv hs ht hbl ho with ⟨e1, e2⟩ | ⟨p, q, e1, e2, hp, hq⟩
     ·rw [e1, e2]
     ·rw [e1, e2]
      have h2 : Alike m k p q := fun u hu hul => by
       have := h1 ((b : Int) :: u) (hu.cons (by omega)) (by simp; omega)
       rw [run_cons, run_cons, e1, e2] at this
       exact (List.cons.inj this).2
      exact alike_succ hv hk hp hq h2 j v hvo.tail (by simp at hvl; omega)
theorem countP_lt {α : Type} {p q : α → Bool} : ∀ {l : List α}, (∀ x ∈ l, p x = true → q x = true) → (∃ x ∈ l, q x = true ∧ p x = false) → l.countP p < l.countP q
 | [], _, ⟨x, h, _⟩ => by cases h
 | y :: l, hpq, ⟨x, hx, h1, h2⟩ => by
   have hm : l.countP p ≤ l.countP q := List.countP_mono_left fun x hx => hpq x (List.mem_cons_of_mem _ hx)
   rw [List.countP_cons, List.countP_cons]
   rcases List.mem_cons.1 hx with rfl | hx
   ·rw [h1, h2]; simp; omega
   ·have := countP_lt (fun x hx => hpq x (List.mem_cons_of_mem _ hx)) ⟨x, hx, h1, h2⟩
    have h3 := hpq y List.mem_cons_self
    by_cases h4 : p y = true
    ·rw [if_pos h4, if_pos (h3 h4)]; omega
    ·rw [if_neg h4]; split <;> omega
open Classical in
noncomputable def leadB (m : Mach) (k : Nat) (s : Nat) : Bool := decide (∀ t < s, ¬ Alike m k t s)
noncomputable def cntL (m : Mach) (k : Nat) : Nat := (List.range m.rows.length).countP (leadB m k)
theorem Alike.symm {m : Mach} {k s t : Nat} (h : Alike m k s t) : Alike m k t s := fun v h1 h2 => (h v h1 h2).symm
theorem Alike.trans {m : Mach} {k s t u : Nat} (h : Alike m k s t) (h' : Alike m k t u) : Alike m k s u := fun v h1 h2 => (h v h1 h2).trans (h' v h1 h2)
theorem Alike.le {m : Mach} {k j s t : Nat} (h : Alike m k s t) (hj : j ≤ k) : Alike m j s t := fun v h1 h2 => h v h1 (by omega)
theorem lead_of (m : Mach) (k : Nat) : ∀ s, ∃ c, c ≤ s ∧ Alike m k c s ∧ leadB m k c = true := fun s => by
 induction s using Nat.strongRecOn with
 | _ s ih =>
   by_cases h : ∃ t, t < s ∧ Alike m k t s
   ·obtain ⟨t, h1, h2⟩ := h
    obtain ⟨c, h3, h4, h5⟩ := ih t h1
    exact ⟨c, by omega, h4.trans h2, h5⟩
   ·exact ⟨s, Nat.le_refl _, fun _ _ _ => rfl, by simp only [leadB, decide_eq_true_eq]; exact fun t h1 h2 => h ⟨t, h1, h2⟩⟩
theorem cntL_grows {m : Mach} {k : Nat} (h : ¬ ∀ s t, s < m.rows.length → t < m.rows.length → Alike m k s t → Alike m (k + 1) s t) : cntL m k < cntL m (k + 1) := by
 refine countP_lt (fun s _ hs => ?_) ?_
 ·simp only [leadB, decide_eq_true_eq] at hs ⊢
  exact fun t h1 h2 => hs t h1 (h2.le (by omega))
 ·simp only [Classical.not_forall] at h
  obtain ⟨s, t, hs, ht, h1, h2⟩ := h
  obtain ⟨c, c1, c2, c3⟩ := lead_of m k s
  have : ∃ u, u < m.rows.length ∧ Alike m k c u ∧ ¬ Alike m (k + 1) c u := by
   by_cases h3 : Alike m (k + 1) c s
   ·exact ⟨t, ht, c2.trans h1, fun h4 => h2 (h3.symm.trans h4)⟩
   ·exact ⟨s, hs, c2, h3⟩
  obtain ⟨u, hu, u1, u2⟩ := this
  obtain ⟨d, d1, d2, d3⟩ := lead_of m (k + 1) u
  have hcd : Alike m k c d := u1.trans (d2.le (by omega)).symm
  have hne : c ≠ d := fun e => u2 (by rw [e]; exact d2)
  refine ⟨d, List.mem_range.2 (by omega), d3, ?_⟩
  have hlt : c < d := by
   by_cases h5 : c < d
   ·exact h5
   ·have h6 : d < c := by omega
    simp only [leadB, decide_eq_true_eq] at c3
    exact absurd hcd.symm (c3 d h6)
  rw [Bool.eq_false_iff]
  intro h7
  simp only [leadB, decide_eq_true_eq] at h7
  exact h7 c hlt hcd
theorem alike_all {m : Mach} (hv : WV m) {k s t : Nat} (hk : m.rows.length ≤ k + 1) (hs : s < m.rows.length) (ht : t < m.rows.length) (h : Alike m k s t) : ∀ v, WOk m.ins.toNat v → runR m s v = runR m t v := by
 have hN := hv.rows
 have hex : ∃ j, j + 1 ≤ m.rows.length ∧ ∀ s t, s < m.rows.length → t < m.rows.length → Alike m j s t → Alike m (j + 1) s t := by
  by_cases hx : ∃ j, j + 1 ≤ m.rows.length ∧ ∀ s t, s < m.rows.length → t < m.rows.length → Alike m j s t → Alike m (j + 1) s t
  ·exact hx
  ·exfalso
   have hg : ∀ j, j ≤ m.rows.length → j + 1 ≤ cntL m j := fun j => by
    induction j with
    | zero =>
      intro _
      have : 0 < cntL m 0 := List.countP_pos_iff.2 ⟨0, List.mem_range.2 (by omega), by simp [leadB]⟩
      omega
    | succ j ih =>
      intro hj
      have h1 := ih (by omega)
      have h2 := cntL_grows (m := m) (k := j) fun h => hx ⟨j, hj, h⟩
      omega
   have h1 := hg m.rows.length (Nat.le_refl _)
   have h2 : cntL m m.rows.length ≤ m.rows.length := by
    have := List.countP_le_length (p := leadB m m.rows.length) (l := List.range m.rows.length)
    simpa [cntL] using this
   omega
 obtain ⟨j, hj, hst⟩ := hex
 intro v hvo
 exact alike_succ hv hst hs ht (h.le (by omega)) v.length v hvo (by omega)
theorem rank_snoc {k : Nat} : ∀ (w : List Int) (c : Int), rank k (w ++ [c]) = k * rank k w + (c.toNat + 1)
 | [], c => by simp [rank]
 | a :: w, c => by
   have h1 := rank_snoc (k := k) w c
   have h2 : (a.toNat + 1) * (k ^ w.length * k) = k * ((a.toNat + 1) * k ^ w.length) := by
    rw [← Nat.mul_assoc, Nat.mul_comm k]
   rw [List.cons_append]
   simp only [rank, h1, List.length_append, List.length_cons, List.length_nil, Nat.zero_add, Nat.pow_succ, Nat.mul_add] at h2 ⊢
   omega
theorem runR_app (m : Mach) : ∀ (s : Int) (u v : List Int), runR m s (u ++ v) = runR m s u ++ runR m (afterR m s u) v
 | _, [], _ => rfl
 | s, a :: u, v => by simp only [List.cons_append, runR, afterR, runR_app m _ u v]
theorem afterR_app (m : Mach) : ∀ (s : Int) (u v : List Int), afterR m s (u ++ v) = afterR m (afterR m s u) v
 | _, [], _ => rfl
 | s, a :: u, v => by simp only [List.cons_append, afterR, afterR_app m _ u v]
structure BInv (a b : Mach) (l : List Arr) (W : Nat → List Int) (at' i : Nat) : Prop where
 z : W 0 = []
 z0 : ∃ c, l[0]? = some ((0, 0), -1, c)
 par : ∀ j p, 1 ≤ j → l[j]? = some p → ∃ q c : Nat, p.2.1 = (q : Int) ∧ p.2.2 = (c : Int) ∧ q < j ∧ c < a.ins.toNat ∧ (q < at' ∨ (q = at' ∧ c < i)) ∧ W j = W q ++ [(c : Int)]
 ok : ∀ j, j < l.length → WOk a.ins.toNat (W j)
 mono : ∀ j k, j < k → k < l.length → rank a.ins.toNat (W j) < rank a.ins.toNat (W k)
 path : ∀ j p, l[j]? = some p → afterR a 0 (W j) = p.1.1 ∧ afterR b 0 (W j) = p.1.2 ∧ runR a 0 (W j) = runR b 0 (W j)
 done : ∀ j p, l[j]? = some p → ∀ c : Nat, c < a.ins.toNat → (j < at' ∨ (j = at' ∧ c < i)) →
  (stepR a p.1.1 c).2 = (stepR b p.1.2 c).2 ∧ ((stepR a p.1.1 c).1 ≠ -1 → (stepR b p.1.2 c).1 ≠ -1 →
   ∃ (k : Nat) (q : Arr), l[k]? = some q ∧ q.1 = ((stepR a p.1.1 c).1, (stepR b p.1.2 c).1) ∧ rank a.ins.toNat (W k) ≤ a.ins.toNat * rank a.ins.toNat (W j) + (c + 1))
theorem nextL_new {at' i : Int} {x y : Int × Int} {l : List Arr} : nextL at' i x y l = l ∨ (nextL at' i x y l = l ++ [((x.1, y.1), at', i)] ∧ x.1 ≠ -1 ∧ y.1 ≠ -1) := by
 unfold nextL
 split
 ·rename_i h; exact .inr ⟨rfl, h.1, h.2.1⟩
 ·exact .inl rfl
theorem nextL_in {at' i : Int} {x y : Int × Int} {l : List Arr} (h1 : x.1 ≠ -1) (h2 : y.1 ≠ -1) (h3 : nextL at' i x y l = l) : ∃ (k : Nat) (q : Arr), l[k]? = some q ∧ q.1 = (x.1, y.1) := by
 by_cases hm : (x.1, y.1) ∈ l.map (·.1)
 ·obtain ⟨q, hq, he⟩ := List.mem_map.1 hm
  obtain ⟨k, hk, rfl⟩ := List.getElem_of_mem hq
  exact ⟨k, _, List.getElem?_eq_getElem hk, he⟩
 ·unfold nextL at h3
  rw [if_pos ⟨h1, h2, hm⟩] at h3
  have := congrArg List.length h3
  simp at this
theorem mul_gap {k r s : Nat} (h : r < s) : k * r + k ≤ k * s := by
 have := Nat.mul_le_mul_left k (show r + 1 ≤ s from h)
 rwa [Nat.mul_add, Nat.mul_one] at this
section
variable {a b : Mach} {l : List Arr} {W : Nat → List Int} {at' i : Nat}
theorem BInv.bound (h : BInv a b l W at' i) {j : Nat} (hj : j < l.length) (hat : at' < l.length) : rank a.ins.toNat (W j) < a.ins.toNat * rank a.ins.toNat (W at') + (i + 1) := by
 by_cases h0 : j = 0
 ·subst h0; rw [h.z]; simp only [rank]; omega
 obtain ⟨q, c, _, _, h1, h2, h3, h4⟩ := h.par j _ (by omega) (List.getElem?_eq_getElem hj)
 rw [h4, rank_snoc, Int.toNat_natCast]
 rcases h3 with h3 | ⟨rfl, h3⟩
 ·have := mul_gap (k := a.ins.toNat) (h.mono q at' h3 hat); omega
 ·omega
theorem BInv.step (ha : Valid a) (h : BInv a b l W at' i) {p : Arr} (hp : l[at']? = some p) (hi : i < a.ins.toNat) (ho : (stepR a p.1.1 i).2 = (stepR b p.1.2 i).2) :
  ∃ W', BInv a b (nextL at' i (stepR a p.1.1 i) (stepR b p.1.2 i) l) W' at' (i + 1) ∧ W' at' = W at' := by
 have hat := (List.getElem?_eq_some_iff.1 hp).1
 have hw : ∀ {j c : Nat} {x : Nat}, (j < at' ∨ (j = at' ∧ c < i)) → (j < at' ∨ (j = at' ∧ c < i + 1)) := fun h => by omega
 rcases nextL_new (at' := at') (i := i) (x := stepR a p.1.1 i) (y := stepR b p.1.2 i) (l := l) with e | ⟨e, n1, n2⟩
 ·have hin := nextL_in (at' := at') (i := i) (x := stepR a p.1.1 i) (y := stepR b p.1.2 i) (l := l)
  rw [e]
  refine ⟨W, ⟨h.z, h.z0, fun j q hj hq => ?_, h.ok, h.mono, h.path, fun j q hq c hc hd => ?_⟩, rfl⟩
  ·obtain ⟨u, c, h1, h2, h3, h4, h5, h6⟩ := h.par j q hj hq
   exact ⟨u, c, h1, h2, h3, h4, by omega, h6⟩
  ·by_cases hd' : j < at' ∨ (j = at' ∧ c < i)
   ·exact h.done j q hq c hc hd'
   ·obtain ⟨rfl, rfl⟩ : j = at' ∧ c = i := by omega
    rw [hp] at hq; cases hq
    refine ⟨ho, fun k1 k2 => ?_⟩
    obtain ⟨k, q, hk, hq⟩ := hin k1 k2 e
    exact ⟨k, q, hk, hq, Nat.le_of_lt (h.bound (List.getElem?_eq_some_iff.1 hk).1 hat)⟩
 ·rw [e]
  have hold : ∀ {j : Nat} {q : Arr}, l[j]? = some q → (l ++ [(((stepR a p.1.1 i).1, (stepR b p.1.2 i).1), (at' : Int), (i : Int))])[j]? = some q := fun hq => by
   rw [List.getElem?_append_left (List.getElem?_eq_some_iff.1 hq).1]; exact hq
  have hnew : ∀ {j : Nat} {q : Arr}, (l ++ [(((stepR a p.1.1 i).1, (stepR b p.1.2 i).1), (at' : Int), (i : Int))])[j]? = some q → (j < l.length ∧ l[j]? = some q) ∨ (j = l.length ∧ q = (((stepR a p.1.1 i).1, (stepR b p.1.2 i).1), (at' : Int), (i : Int))) := fun {j q} hq => by
   by_cases hj : j < l.length
   ·rw [List.getElem?_append_left hj] at hq; exact .inl ⟨hj, hq⟩
   ·have h1 := (List.getElem?_eq_some_iff.1 hq).1
    simp only [List.length_append, List.length_cons, List.length_nil] at h1
    obtain rfl : j = l.length := by omega
    rw [List.getElem?_append_right (Nat.le_refl _), Nat.sub_self] at hq
    simp only [List.getElem?_cons_zero, Option.some.injEq] at hq
    exact .inr ⟨rfl, hq.symm⟩
  obtain ⟨p1, p2, p3⟩ := h.path at' p hp
  have hV : ∀ j, j < l.length → (if j = l.length then W at' ++ [(i : Int)] else W j) = W j := fun j hj => if_neg (by omega)
  have hVl : (if l.length = l.length then W at' ++ [(i : Int)] else W l.length) = W at' ++ [(i : Int)] := if_pos rfl
  refine ⟨fun j => if j = l.length then W at' ++ [(i : Int)] else W j, ⟨?_, ?_, fun j q hj hq => ?_, fun j hj => ?_, fun j k hjk hk => ?_, fun j q hq => ?_, fun j q hq c hc hd => ?_⟩, hV _ hat⟩
  ·simp only [hV 0 (by omega)]; exact h.z
  ·obtain ⟨c, hc⟩ := h.z0; exact ⟨c, hold hc⟩
  ·rcases hnew hq with ⟨h1, h2⟩ | ⟨rfl, rfl⟩
   ·obtain ⟨u, c, k1, k2, k3, k4, k5, k6⟩ := h.par j q hj h2
    exact ⟨u, c, k1, k2, k3, k4, by omega, by simp only [hV j h1, hV u (by omega)]; exact k6⟩
   ·exact ⟨at', i, rfl, rfl, hat, hi, .inr ⟨rfl, by omega⟩, by simp only [if_true, hV at' hat]⟩
  ·simp only [List.length_append, List.length_cons, List.length_nil] at hj
   by_cases e2 : j = l.length
   ·subst e2; simp only [if_true]
    intro x hx
    rcases List.mem_append.1 hx with hx | hx
    ·exact h.ok at' hat x hx
    ·simp only [List.mem_singleton] at hx; omega
   ·simp only [hV j (by omega)]; exact h.ok j (by omega)
  ·simp only [List.length_append, List.length_cons, List.length_nil] at hk
   by_cases e2 : k = l.length
   ·subst e2; simp only [if_true, hV j (by omega), rank_snoc, Int.toNat_natCast]
    exact h.bound (by omega) hat
   ·simp only [hV j (by omega), hV k (by omega)]; exact h.mono j k hjk (by omega)
  ·rcases hnew hq with ⟨h1, h2⟩ | ⟨rfl, rfl⟩
   ·simp only [hV j h1]; exact h.path j q h2
   ·simp only [if_true, afterR_app, runR_app, p1, p2, p3, afterR, runR, ho, and_self]
  ·by_cases hd' : j < at' ∨ (j = at' ∧ c < i)
   ·rcases hnew hq with ⟨h1, h2⟩ | ⟨rfl, rfl⟩
    ·obtain ⟨k1, k2⟩ := h.done j q h2 c hc hd'
     refine ⟨k1, fun k3 k4 => ?_⟩
     obtain ⟨k, q', k5, k6, k7⟩ := k2 k3 k4
     exact ⟨k, q', hold k5, k6, by simp only [hV j h1, hV k (List.getElem?_eq_some_iff.1 k5).1]; exact k7⟩
    ·omega
   ·obtain ⟨rfl, rfl⟩ : j = at' ∧ c = i := by omega
    rcases hnew hq with ⟨h1, h2⟩ | ⟨h1, _⟩
    ·rw [hp] at h2; cases h2
     refine ⟨ho, fun _ _ => ⟨l.length, (((stepR a p.1.1 c).1, (stepR b p.1.2 c).1), (j : Int), (c : Int)), ?_, rfl, ?_⟩⟩
     ·rw [List.getElem?_append_right (Nat.le_refl _), Nat.sub_self]; rfl
     ·simp only [if_true, hV j h1, rank_snoc, Int.toNat_natCast]; exact Nat.le_refl _
    ·omega
end
open Go Go.Proofs Go.Shelf Go.RowKit
def sh_lays156_ren : Go.Shelf.Ren := ⟨fun | 156 => 59 | 165 => 97 | 166 => 98 | 169 => 99 | 240 => 138 | 241 => 139 | 276 => 167 | 277 => 168 | n => n, fun | 31 => 77 | 9 => 9 | 3 => 3 | 4 => 4 | 0 => 0 | 20 => 20 | 72 => 164 | 76 => 168 | 70 => 162 | 37 => 30 | 75 => 167 | 127 => 221 | 164 => 252 | 5 => 5 | 80 => 170 | n => n, fun | n => n⟩
theorem sh_lays156 : Go.Proofs.Lays.n156 Tryz.prog sh_lays156_ren := {
 mixed := by kernel_rfl
 f156 := Tryz.func59.trans (congrArg some (by kernel_rfl))
 f165 := Tryz.func97.trans (congrArg some (by kernel_rfl))
 f166 := Tryz.func98.trans (congrArg some (by kernel_rfl))
 f169 := Tryz.func99.trans (congrArg some (by kernel_rfl))
 f240 := Tryz.func138.trans (congrArg some (by kernel_rfl))
 f241 := Tryz.func139.trans (congrArg some (by kernel_rfl))
 f276 := Tryz.func167.trans (congrArg some (by kernel_rfl))
 f277 := Tryz.func168.trans (congrArg some (by kernel_rfl))
 t0 := Tryz.underlying0
 a0 := Tryz.isAgg0
 z0 := Tryz.sizeOf0
 v0 := Tryz.zeroValue0
 t3 := Tryz.underlying3
 a3 := Tryz.isAgg3
 z3 := Tryz.sizeOf3
 v3 := Tryz.zeroValue3
 t4 := Tryz.underlying4
 a4 := Tryz.isAgg4
 z4 := Tryz.sizeOf4
 v4 := Tryz.zeroValue4
 t9 := Tryz.underlying9
 a9 := Tryz.isAgg9
 z9 := Tryz.sizeOf9
 v9 := Tryz.zeroValue9
 t20 := Tryz.underlying20
 a20 := Tryz.isAgg20
 z20 := Tryz.sizeOf20
 v20 := Tryz.zeroValue20
 t31 := Tryz.underlying77
 a31 := Tryz.isAgg77
 z31 := Tryz.sizeOf77
 v31 := Tryz.zeroValue77
 t37 := Tryz.underlying30
 a37 := Tryz.isAgg30
 z37 := Tryz.sizeOf30
 v37 := Tryz.zeroValue30
 t70 := Tryz.underlying162
 a70 := Tryz.isAgg162
 z70 := Tryz.sizeOf162
 v70 := Tryz.zeroValue162
 t72 := Tryz.underlying164
 a72 := Tryz.isAgg164
 z72 := Tryz.sizeOf164
 v72 := Tryz.zeroValue164
 t75 := Tryz.underlying167
 a75 := Tryz.isAgg167
 z75 := Tryz.sizeOf167
 v75 := Tryz.zeroValue167
 t76 := Tryz.underlying168
 a76 := Tryz.isAgg168
 z76 := Tryz.sizeOf168
 v76 := Tryz.zeroValue168
 t127 := Tryz.underlying221
 a127 := Tryz.isAgg221
 z127 := Tryz.sizeOf221
 v127 := Tryz.zeroValue221
 t164 := Tryz.underlying252
 a164 := Tryz.isAgg252
 z164 := Tryz.sizeOf252
 v164 := Tryz.zeroValue252 }
theorem sh_Builder_Extra_156 : Builder.Extra Tryz.prog sh_lays156_ren := {
 sizeBuilder := by kernel_rfl
 liesBuilder := by kernel_rfl
 t5 := Tryz.underlying5
 a5 := Tryz.isAgg5
 z5 := Tryz.sizeOf5
 v5 := Tryz.zeroValue5
 infoByte := by kernel_rfl
 cellsByte := by kernel_rfl
 sizeByte := by kernel_rfl
 neB5 := by decide }
theorem sh_strings_Join_none (a : Option Addr) (c : Nat) (sep : ByteArray) (w : World) :
 Calls Tryz.prog 59 #[.slice a 0 c, .string sep] w fun e w' => e = .returned (.string ⟨#[]⟩) ∧ w' = w := Any.strings_Join_none sh_lays156 sh_Builder_Extra_156 a c sep w
theorem sh_strings_Join (bk o c : Nat) (xs : List ByteArray) (sep : ByteArray) (w : World) (hcells : ∀ (j : Nat) x, xs[j]? = some x → w.cell? ⟨bk, o + j, none⟩ = some (.string x)) (hbk : bk < w.heap.size) (hN : xs.length ≤ 140737488355328) (hcap : xs.length ≤ c) (hlen : (Lib.join (xs.map (·.data.toList)) sep.data.toList).length ≤ 140737488355328) :
 Calls Tryz.prog 59 #[.slice (some ⟨bk, o, none⟩) xs.length c, .string sep] w fun e w' => e = .returned (.string ⟨(Lib.join (xs.map (·.data.toList)) sep.data.toList).toArray⟩) ∧ Below w.heap.size w w' := Any.strings_Join sh_lays156 sh_Builder_Extra_156 bk o c xs sep w hcells hbk hN hcap hlen
def sh_lays137_ren : Go.Shelf.Ren := ⟨fun | 137 => 93 | 217 => 133 | 266 => 160 | n => n, fun | 9 => 9 | 5 => 5 | 3 => 3 | n => n, fun | n => n⟩
theorem sh_lays137 : Go.Proofs.Lays.n137 Tryz.prog sh_lays137_ren := {
 mixed := by kernel_rfl
 f137 := Tryz.func93.trans (congrArg some (by kernel_rfl))
 f217 := Tryz.func133.trans (congrArg some (by kernel_rfl))
 f266 := Tryz.func160.trans (congrArg some (by kernel_rfl))
 t3 := Tryz.underlying3
 a3 := Tryz.isAgg3
 z3 := Tryz.sizeOf3
 v3 := Tryz.zeroValue3
 t5 := Tryz.underlying5
 a5 := Tryz.isAgg5
 z5 := Tryz.sizeOf5
 v5 := Tryz.zeroValue5
 t9 := Tryz.underlying9
 a9 := Tryz.isAgg9
 z9 := Tryz.sizeOf9
 v9 := Tryz.zeroValue9 }
theorem sh_strings_IndexByte (s : ByteArray) (c : Int) (w : World) :
 Calls Tryz.prog 93 #[.string s, .int .u8 c] w fun e w' => e = .returned (.int .i64 (Lib.indexByte s.data.toList c.toNat.toUInt8)) ∧ w' = w := Any.strings_IndexByte sh_lays137 s c w
def sh_lays138_ren : Go.Shelf.Ren := ⟨fun | 138 => 53 | 195 => 89 | 218 => 90 | 143 => 91 | 219 => 132 | 217 => 133 | 225 => 157 | 224 => 158 | 267 => 159 | 266 => 160 | 314 => 175 | n => n, fun | 9 => 9 | 3 => 3 | 4 => 4 | 5 => 5 | 0 => 0 | 46 => 209 | 146 => 238 | 51 => 237 | n => n, fun | 1 => 0 | n => n⟩
theorem sh_lays138 : Go.Proofs.Lays.n138 Tryz.prog sh_lays138_ren := {
 mixed := by kernel_rfl
 f138 := Tryz.func53.trans (congrArg some (by kernel_rfl))
 f143 := Tryz.func91.trans (congrArg some (by kernel_rfl))
 f195 := Tryz.func89.trans (congrArg some (by kernel_rfl))
 f217 := Tryz.func133.trans (congrArg some (by kernel_rfl))
 f218 := Tryz.func90.trans (congrArg some (by kernel_rfl))
 f219 := Tryz.func132.trans (congrArg some (by kernel_rfl))
 f224 := Tryz.func158.trans (congrArg some (by kernel_rfl))
 f225 := Tryz.func157.trans (congrArg some (by kernel_rfl))
 f266 := Tryz.func160.trans (congrArg some (by kernel_rfl))
 f267 := Tryz.func159.trans (congrArg some (by kernel_rfl))
 f314 := Tryz.func175.trans (congrArg some (by kernel_rfl))
 t0 := Tryz.underlying0
 a0 := Tryz.isAgg0
 z0 := Tryz.sizeOf0
 v0 := Tryz.zeroValue0
 t3 := Tryz.underlying3
 a3 := Tryz.isAgg3
 z3 := Tryz.sizeOf3
 v3 := Tryz.zeroValue3
 t4 := Tryz.underlying4
 a4 := Tryz.isAgg4
 z4 := Tryz.sizeOf4
 v4 := Tryz.zeroValue4
 t5 := Tryz.underlying5
 a5 := Tryz.isAgg5
 z5 := Tryz.sizeOf5
 v5 := Tryz.zeroValue5
 t9 := Tryz.underlying9
 a9 := Tryz.isAgg9
 z9 := Tryz.sizeOf9
 v9 := Tryz.zeroValue9
 t46 := Tryz.underlying209
 a46 := Tryz.isAgg209
 z46 := Tryz.sizeOf209
 v46 := Tryz.zeroValue209
 t51 := Tryz.underlying237
 a51 := Tryz.isAgg237
 z51 := Tryz.sizeOf237
 v51 := Tryz.zeroValue237
 t146 := Tryz.underlying238
 a146 := Tryz.isAgg238
 z146 := Tryz.sizeOf238
 v146 := Tryz.zeroValue238
 g1 := by kernel_rfl }
open Go.RowKit Go.Lib in
theorem sh_strings_Count_one (s : ByteArray) (c : UInt8) (w : World) :
 Calls Tryz.prog 53 #[.string s, .string ⟨#[c]⟩] w fun e w' => e = .returned (.int .i64 (Lib.countByte s.data.toList c)) ∧ w' = w := Any.strings_Count_one sh_lays138 s c w
def sh_lays149_ren : Go.Shelf.Ren := ⟨fun | 149 => 54 | 222 => 92 | n => n, fun | 9 => 9 | 5 => 5 | 3 => 3 | 4 => 4 | n => n, fun | n => n⟩
theorem sh_lays149 : Go.Proofs.Lays.n149 Tryz.prog sh_lays149_ren := {
 mixed := by kernel_rfl
 f149 := Tryz.func54.trans (congrArg some (by kernel_rfl))
 f222 := Tryz.func92.trans (congrArg some (by kernel_rfl))
 t3 := Tryz.underlying3
 a3 := Tryz.isAgg3
 z3 := Tryz.sizeOf3
 v3 := Tryz.zeroValue3
 t4 := Tryz.underlying4
 a4 := Tryz.isAgg4
 z4 := Tryz.sizeOf4
 v4 := Tryz.zeroValue4
 t5 := Tryz.underlying5
 a5 := Tryz.isAgg5
 z5 := Tryz.sizeOf5
 v5 := Tryz.zeroValue5
 t9 := Tryz.underlying9
 a9 := Tryz.isAgg9
 z9 := Tryz.sizeOf9
 v9 := Tryz.zeroValue9 }
theorem sh_strings_LastIndexByte (s : ByteArray) (c : Int) (hs : s.size < 4611686018427387904) (w : World) :
 Calls Tryz.prog 54 #[.string s, .int .u8 c] w fun e w' => e = .returned (.int .i64 (Lib.lastIndexByte s c)) ∧ w' = w := Any.strings_LastIndexByte sh_lays149 s c hs w
end Go.Avl
