/-
  The evaluator: what an iterator hands to yield.
  The evaluator: sound.
  The evaluator: calls and code; sound.
  The evaluator: code; whole calls.
  The evaluator: whole calls.
  The table of contracts.
  The evaluator: a body that defers a closure that does nothing.
  The evaluator: a function that defers a closure that does nothing.
-/
import Derived.Test.YtnolphljopdomaaGreatDoorPart7
set_option linter.unusedSimpArgs false
set_option linter.unusedVariables false
set_option linter.unnecessarySimpa false
set_option linter.deprecated false
namespace Go.Avl
open Go
def YSl (fr : Fr) (l : Nat) (y : List Nat) (st : St) : Prop := ∀ i ∈ y, st.get fr i = .sc (yv l)
inductive FAbs (base sz : Nat) : List (Exit × ES) → List (Exit × St) → Prop
 | nil : FAbs base sz [] []
 | cons {e : Exit} {s : ES} {st : St} {l : List (Exit × ES)} {l' : List (Exit × St)} (h : Abs (allF base sz) s st) (k : FAbs base sz l l') : FAbs base sz ((e, s) :: l) ((e, st) :: l')
theorem FAbs.append {base sz : Nat} {l1 l2 : List (Exit × ES)} {k1 k2 : List (Exit × St)} (h1 : FAbs base sz l1 k1) (h2 : FAbs base sz l2 k2) : FAbs base sz (l1 ++ l2) (k1 ++ k2) := by
 induction h1 with
 | nil => exact h2
 | cons h k ih => exact .cons h ih
theorem FAbs.map {base sz : Nat} {l1 : List (Exit × ES)} {k1 : List (Exit × St)} (f : Exit → Exit) (h1 : FAbs base sz l1 k1) : FAbs base sz (l1.map fun p => (f p.1, p.2)) (k1.map fun p => (f p.1, p.2)) := by
 induction h1 with
 | nil => exact .nil
 | cons h k ih => exact .cons h ih
def YOut (e : Exit) (st : St) (k : Nat) (l : List (Exit × St)) : Exit → St → Option Nat → Prop := fun e' st' k' => (e' = e ∧ st' = st ∧ k' = some k) ∨ (k' = none ∧ (e', st') ∈ l)
theorem mem_delN {i : Nat} {d : Option Nat} {y : List Nat} (h : i ∈ delN d y) : i ∈ y ∧ d ≠ some i := by
 cases d with
 | none => exact ⟨h, by simp⟩
 | some d =>
   simp only [delN, List.mem_filter, Bool.not_eq_true', beq_dec, decide_eq_false_iff_not] at h
   exact ⟨h.1, fun e => h.2 (by cases e; rfl)⟩
theorem mem_delNs {i : Nat} : ∀ {l : List Oper} {y : List Nat}, i ∈ l.foldl (fun y o => delN o.dst y) y → i ∈ y ∧ ∀ o ∈ l, o.dst ≠ some i
 | [], y, h => ⟨h, fun o ho => by cases ho⟩
 | o :: l, y, h => by
   obtain ⟨h1, h2⟩ := mem_delNs (l := l) h
   obtain ⟨h3, h4⟩ := mem_delN h1
   refine ⟨h3, fun o' ho => ?_⟩
   rcases List.mem_cons.1 ho with rfl | ho
   ·exact h4
   ·exact h2 o' ho
section
variable {P : Program} {base sz : Nat} {call : CallF} {all : List Oper}
theorem Abs.putJ {s : ES} {st : St} (h : Abs (allF base sz) s st) {d : Nat} (hlt : d < sz) (v : AV) : Abs (allF base sz) (s.put (some d) .junk) (st.put (allF base sz) (some d) v) := by
 have h1 := h.put (d := some d) (decide_eq_true hlt) .junk
 have h2 := h.put (d := some d) (decide_eq_true hlt) v
 refine ⟨h2.tmps, fun k => ?_, by rw [St.put_mem]; exact h.mem, by rw [St.put_nx]; exact h.nx⟩
 rcases T.get_put .junk .junk s.tm d k with hp | hp
 ·exact .inl hp
 ·show T.get .junk (T.put s.tm .junk d) k = .junk ∨ _ = T.get .junk (T.put s.tm .junk d) k
  rw [hp]
  by_cases hk : k = d
  ·rw [if_pos hk]; exact .inl rfl
  ·rw [if_neg hk, St.get_put, if_neg hk]; exact h.slot k
theorem isMove {o : Oper} {y : List Nat} (h : (match o.op with
  | .move (.tmp k) => memB k y
  | _ => false) = true) : ∃ k, o.op = .move (.tmp k) ∧ k ∈ y := by
 split at h
 ·rename_i k hk; exact ⟨k, hk, memB_ok.1 h⟩
 ·cases h
theorem isYield {o : Oper} {y : List Nat} {ar : Array Operand} (h : (match o.op with
  | .call ⟨.value (.tmp k), args, _⟩ => bif memB k y then some args else none
  | _ => none) = some ar) : ∃ k tys, o.op = .call ⟨.value (.tmp k), ar, tys⟩ ∧ k ∈ y := by
 split at h
 ·rename_i k args tys hk
  cases hb : memB k y with
  | true => rw [hb] at h; cases h; exact ⟨k, tys, hk, memB_ok.1 hb⟩
  | false => rw [hb] at h; cases h
 ·cases h
theorem evOpsY_ok (hc : CallOk P call) : ∀ (l : List Oper) (t t' : YS) (fs : List ES) (st : St) (lp : Nat), Abs (allF base sz) t.s st → YSl (allF base sz) lp t.y st → evOpsY P call sz all l t = .ok (t', fs) →
  ∃ st' fs', Abs (allF base sz) t'.s st' ∧ YSl (allF base sz) lp t'.y st' ∧ t.acc <+: t'.acc ∧ FAbs base sz (fs.map fun s => (.normal, s)) fs' ∧
    ∀ h0 J xs, Stable J → Yields P J lp xs → t'.acc <+: xs → XRY P (allF base sz) none h0 J all.toArray l st (some t.acc.length) (YOut .normal st' t'.acc.length fs')
 | [], t, t', fs, st, lp, A, hy, h => by
   simp only [evOpsY] at h; cases h
   exact ⟨st, [], A, hy, List.prefix_refl _, .nil, fun h0 J xs _ _ _ => .nil (.inl ⟨rfl, rfl, rfl⟩)⟩
 | o :: rest, t, t', fs, st, lp, A, hy, h => by
   simp only [evOpsY] at h
   split at h
   ·rename_i hmv
    obtain ⟨k, hop, hk⟩ := isMove hmv
    split at h
    ·rename_i d hg hd
     rw [blt_dec, bif_inv] at h
     split at h
     ·rename_i hlt
      have hn : Nat.add t.s.nx 1 = st.nx + 1 := by rw [A.nx]
      have A1 : Abs (allF base sz) ⟨t.s.tm, t.s.mem, Nat.add t.s.nx 1⟩ ⟨st.vars, st.tmps, st.mem, st.nx + 1⟩ := ⟨A.tmps, A.slot, A.mem, hn⟩
      obtain ⟨st', fs', A', hy', hp, hf, hx⟩ := evOpsY_ok hc rest _ _ _ _ lp (A1.putJ hlt (.sc (yv lp))) (fun i hi => by
       rcases List.mem_cons.1 hi with rfl | hi
       ·rw [St.get_put, if_pos rfl]
       ·rw [St.get_put]
        split
        ·rfl
        ·exact hy i hi) h
      refine ⟨st', fs', A', hy', hp, hf, fun h0 J xs hJ hY hpx => .pre 1 hJ fun {L} => ?_⟩
      simp only [List.take_succ_cons, List.take_zero, List.drop_succ_cons, List.drop_zero]
      refine XR.goT (.inl hg) fun _ _ _ _ _ _ _ _ S sm K hK => ?_
      have he : st.eff (allF base sz) o.dst (xop P (allF base sz) st true st.nx o) = some (true, (⟨st.vars, st.tmps, st.mem, st.nx + 1⟩ : St).put (allF base sz) o.dst (.sc (yv lp))) := by
       obtain ⟨dst, op, ty, pos, after, guard⟩ := o
       simp only at hop
       subst hop
       simp only [xop, St.eff, od, opnd, hy k hk]
       rfl
      have hto : OpTo P (allF base sz) ⟨h0, none, some L⟩ _ _ st _ _ o ((⟨st.vars, st.tmps, st.mem, st.nx + 1⟩ : St).put (allF base sz) o.dst (.sc (yv lp))) := sm.oper he rfl (by rw [hd]; intro k hk; cases hk; exact hlt)
      refine hto.wp (by rw [hop]; intro c h; cases h) fun G' F' a' w' s' S' => hK _ _ ?_
      rw [hd] at s' S'
      exact ⟨G', F', _, s', S.trans (S'.mono fun _ _ => trivial), rfl, hx h0 J xs hJ hY hpx⟩
     ·cases h
    ·cases h
   ·rename_i hmv
    split at h
    ·rename_i args hyl
     obtain ⟨k, tys, hop, hk⟩ := isYield hyl
     split at h
     ·rename_i vs hg hvs
      cases hd : dokT sz o.dst
      ·rw [hd] at h; cases h
      ·rw [hd] at h
       have hd : dok (allF base sz) o.dst = true := dokT_ok hd
       simp only [cond_true] at h
       split at h
       ·rename_i vs' m' hz
        split at h
        ·rename_i sf hsf
         split at h
         ·rename_i t2 fs2 hrest
          cases h
          obtain ⟨M1, hM1, hzz⟩ := frzArgs_ok (P := P) hz A.mem
          have hn : Nat.add t.s.nx 1 = st.nx + 1 := by rw [A.nx]
          have A1 : Abs (allF base sz) ⟨t.s.tm, m', Nat.add t.s.nx 1⟩ ⟨st.vars, st.tmps, M1, st.nx + 1⟩ := ⟨A.tmps, A.slot, hM1, hn⟩
          obtain ⟨stf, Af, _, hxf⟩ := evOps_ok hc _ _ _ (A1.put hd (.sc (.bool false))) hsf
          obtain ⟨st', fs', A', hy', hp, hf, hx⟩ := evOpsY_ok hc rest _ _ _ _ lp (A1.put hd (.sc (.bool true))) (fun i hi => by
           obtain ⟨h1, h2⟩ := mem_delN hi
           rw [put_keep (st := st) i h2]; exact hy i h1) hrest
          have hp' : t.acc ++ [vs'] <+: t'.acc := hp
          refine ⟨st', (.normal, stf) :: fs', A', hy', (List.prefix_append _ _).trans hp', .cons Af hf, fun h0 J xs hJ hY hpx => ?_⟩
          have hxs : xs[t.acc.length]? = some vs' := by
           obtain ⟨r, hr⟩ := hp'.trans hpx
           rw [← hr, List.append_assoc, List.getElem?_append_right (Nat.le_refl _)]
           simp
          have hvs := evs_ok A.ev hvs
          refine .yieldF (M1 := M1) (ys := vs') hJ hxs hY hg hop hd (by simp only [od, opnd, hy k hk]; rfl) (by rw [show bodyArgs (allF base sz) st args = vs from hvs]; exact hzz) fun b => ?_
          cases b with
          | true =>
            have h1 := hx h0 J xs hJ hY hpx
            simp only [List.length_append, List.length_cons, List.length_nil, Nat.zero_add] at h1
            refine h1.mono fun e st2 k2 h => ?_
            rcases h with h | ⟨h2, h3⟩
            ·exact .inl h
            ·exact .inr ⟨h2, List.mem_cons_of_mem _ h3⟩
          | false => exact .lift hJ fun {L} => hxf none ⟨h0, none, some L⟩ (fun e st2 => e = .normal ∧ YOut .normal st' t'.acc.length ((.normal, stf) :: fs') .normal st2 none) ⟨rfl, .inr ⟨rfl, List.mem_cons_self⟩⟩
         ·cases h
        ·cases h
       ·cases h
     ·cases h
    ·split at h
     ·rename_i s' hs'
      obtain ⟨st1, A1, hkp, hx1⟩ := evOps_ok hc _ _ _ A hs'
      obtain ⟨st', fs', A', hy', hp, hf, hx⟩ := evOpsY_ok hc rest _ _ _ _ lp A1 (fun i hi => by
       obtain ⟨h1, h2⟩ := mem_delN hi
       rw [hkp i fun o' ho' => by rw [List.mem_singleton.1 ho']; exact h2]; exact hy i h1) h
      refine ⟨st', fs', A', hy', hp, hf, fun h0 J xs hJ hY hpx => .pre 1 hJ fun {L} => ?_⟩
      simp only [List.take_succ_cons, List.take_zero, List.drop_succ_cons, List.drop_zero]
      exact hx1 none ⟨h0, none, some L⟩ (fun e st2 => e = .normal ∧ XRY P (allF base sz) none h0 J all.toArray rest st2 (some t.acc.length) (YOut .normal st' t'.acc.length fs')) ⟨rfl, hx h0 J xs hJ hY hpx⟩
     ·cases h
theorem evFs_ok {k : ES → X (Exit × ES)} {R : St → Exit → St → Prop} (hk : ∀ s st e s', Abs (allF base sz) s st → k s = .ok (e, s') → ∃ st', Abs (allF base sz) s' st' ∧ R st e st') : ∀ {fs : List (Exit × ES)} {l : List (Exit × St)} {fs' : List (Exit × ES)}, FAbs base sz fs l → evFs k fs = .ok fs' →
  ∃ l', FAbs base sz fs' l' ∧ ∀ p ∈ l, (p.1 = .normal → ∃ q ∈ l', R p.2 q.1 q.2) ∧ (p.1 ≠ .normal → p ∈ l') := by
 intro fs l fs' hf
 induction hf generalizing fs' with
 | nil => intro h; simp only [evFs] at h; cases h; exact ⟨[], .nil, fun p hp => by cases hp⟩
 | cons h kk ih =>
   rename_i e s st l l'
   intro hev
   simp only [evFs] at hev
   split at hev
   ·rename_i l2 hl2
    obtain ⟨q, hq, hall⟩ := ih hl2
    have more : ∀ (r : Exit × St) (p : Exit × St), p ∈ l' → (p.1 = .normal → ∃ q' ∈ r :: q, R p.2 q'.1 q'.2) ∧ (p.1 ≠ .normal → p ∈ r :: q) := fun r p hp =>
     ⟨fun h => let ⟨q', h1, h2⟩ := (hall p hp).1 h; ⟨q', List.mem_cons_of_mem _ h1, h2⟩, fun h => List.mem_cons_of_mem _ ((hall p hp).2 h)⟩
    split at hev
    ·split at hev
     ·rename_i r hr
      cases hev
      obtain ⟨e1, s1⟩ := r
      obtain ⟨st1, A1, r1⟩ := hk _ _ _ _ h hr
      refine ⟨(e1, st1) :: q, .cons A1 hq, fun p hp => ?_⟩
      rcases List.mem_cons.1 hp with rfl | hp
      ·exact ⟨fun _ => ⟨_, List.mem_cons_self, r1⟩, fun h => absurd rfl h⟩
      ·exact more _ p hp
     ·cases hev
    ·rename_i hne
     cases hev
     refine ⟨(e, st) :: q, .cons h hq, fun p hp => ?_⟩
     rcases List.mem_cons.1 hp with rfl | hp
     ·exact ⟨fun h => absurd h (by intro e; exact hne e), fun _ => List.mem_cons_self⟩
     ·exact more _ p hp
   ·cases hev
def KOk (P : Program) (rg : Bool) (k : Nat → Code → ES → X (Exit × ES)) : Prop := ∀ sz c s e s' base st, Abs (allF base sz) s st → k sz c s = .ok (e, s') → ∃ st', Abs (allF base sz) s' st' ∧ CTo P rg (allF base sz) c st e st' ∧ ∀ c', c = .loop c' → LTo P rg (allF base sz) c' st e st'
theorem bound_all {α : Type} {p : α → Nat → Prop} (hm : ∀ x m m', m ≤ m' → p x m → p x m') : ∀ {l : List α}, (∀ x ∈ l, ∃ m, p x m) → ∃ m, ∀ x ∈ l, p x m
 | [], _ => ⟨0, fun x hx => by cases hx⟩
 | x :: l, h => by
   obtain ⟨m1, h1⟩ := h x List.mem_cons_self
   obtain ⟨m2, h2⟩ := bound_all hm (l := l) fun y hy => h y (List.mem_cons_of_mem _ hy)
   refine ⟨max m1 m2, fun y hy => ?_⟩
   rcases List.mem_cons.1 hy with rfl | hy
   ·exact hm _ _ _ (Nat.le_max_left _ _) h1
   ·exact hm _ _ _ (Nat.le_max_right _ _) (h2 y hy)
theorem evY_ok {k : Nat → Code → ES → X (Exit × ES)} (hc : CallOk P call) (hk : KOk P false k) (hmix : P.follows .mixedOrders = true) : ∀ (n sz : Nat) (c : Code) (t : YS) (r : YR) (base : Nat) (st : St) (lp : Nat), evY P call k n sz c t = .ok r → Abs (allF base sz) t.s st → YSl (allF base sz) lp t.y st →
  ∃ st' fs', Abs (allF base sz) r.t.s st' ∧ YSl (allF base sz) lp r.t.y st' ∧ t.acc <+: r.t.acc ∧ FAbs base sz r.fs fs' ∧
    (∀ h0 J xs, Stable J → Yields P J lp xs → r.t.acc <+: xs → EvY P (allF base sz) none h0 J c st (some t.acc.length) (YOut r.e st' r.t.acc.length fs')) ∧
    ∀ c', c = .loop c' → ∃ m, ∀ h0 J xs, Stable J → Yields P J lp xs → r.t.acc <+: xs → RY P (allF base sz) h0 J c' m st (some t.acc.length) (YOut r.e st' r.t.acc.length fs')
 | 0, _, _, _, _, _, _, _, h, _, _ => by cases h
 | n + 1, sz, c, t, r, base, st, lp, h, A, hy => by
   have ih := evY_ok hc hk hmix n
   have one : ∀ {e : Exit}, (r = ⟨e, t, []⟩) → (∀ h0 J, EvY P (allF base sz) none h0 J c st (some t.acc.length) fun e' st' k' => e' = e ∧ st' = st ∧ k' = some t.acc.length) → (∀ c', c ≠ .loop c') →
     ∃ st' fs', Abs (allF base sz) r.t.s st' ∧ YSl (allF base sz) lp r.t.y st' ∧ t.acc <+: r.t.acc ∧ FAbs base sz r.fs fs' ∧
       (∀ h0 J xs, Stable J → Yields P J lp xs → r.t.acc <+: xs → EvY P (allF base sz) none h0 J c st (some t.acc.length) (YOut r.e st' r.t.acc.length fs')) ∧
       ∀ c', c = .loop c' → ∃ m, ∀ h0 J xs, Stable J → Yields P J lp xs → r.t.acc <+: xs → RY P (allF base sz) h0 J c' m st (some t.acc.length) (YOut r.e st' r.t.acc.length fs') := by
    rintro e rfl h1 h2
    exact ⟨st, [], A, hy, List.prefix_refl _, .nil, fun h0 J xs _ _ _ => (h1 h0 J).mono fun e' st' k' h => .inl h, fun c' hc' => absurd hc' (h2 c')⟩
   cases c
   case skip => simp only [evY] at h; cases h; exact one rfl (fun _ _ => .skip ⟨rfl, rfl, rfl⟩) (fun _ h => by cases h)
   case exit => simp only [evY] at h; cases h; exact one rfl (fun _ _ => .exit ⟨rfl, rfl, rfl⟩) (fun _ h => by cases h)
   case ret => simp only [evY] at h; cases h; exact one rfl (fun _ _ => .ret ⟨rfl, rfl, rfl⟩) (fun _ h => by cases h)
   case seq x y =>
    simp only [evY] at h
    split at h
    ·rename_i r1 h1
     obtain ⟨st1, l1, A1, hy1, hp1, hf1, hx1, _⟩ := ih _ _ _ _ _ _ lp h1 A hy
     split at h
     ·rename_i fs hfs
      obtain ⟨l2, hf2, hl2⟩ := evFs_ok (R := CTo P false (allF base sz) y) (fun s st e s' A hs => let ⟨st', h1, h2, _⟩ := hk _ _ _ _ _ _ _ A hs; ⟨st', h1, h2⟩) hf1 hfs
      split at h
      ·rename_i he
       split at h
       ·rename_i r2 h2
        cases h
        obtain ⟨st2, l3, A2, hy2, hp2, hf3, hx2, _⟩ := ih _ _ _ _ _ _ lp h2 A1 hy1
        refine ⟨st2, l2 ++ l3, A2, hy2, hp1.trans hp2, hf2.append hf3, fun h0 J xs hJ hY hpx => .seq ((hx1 h0 J xs hJ hY (hp2.trans hpx)).mono fun e' st' k' ho => ?_), fun _ h => by cases h⟩
        rcases ho with ⟨rfl, rfl, rfl⟩ | ⟨rfl, hmem⟩
        ·rw [he]
         refine (hx2 h0 J xs hJ hY hpx).mono fun e' st' k' ho => ?_
         rcases ho with ho | ⟨ho1, ho2⟩
         ·exact .inl ho
         ·exact .inr ⟨ho1, List.mem_append_right _ ho2⟩
        ·obtain ⟨q1, q2⟩ := hl2 _ hmem
         cases e' with
         | normal =>
           obtain ⟨q, hq1, hq2⟩ := q1 rfl
           exact hq2.yl hJ (.inr ⟨rfl, List.mem_append_left _ hq1⟩)
         | _ => exact .inr ⟨rfl, List.mem_append_left _ (q2 (by simp))⟩
       ·cases h
      ·rename_i he
       cases h
       refine ⟨st1, l2, A1, hy1, hp1, hf2, fun h0 J xs hJ hY hpx => .seq ((hx1 h0 J xs hJ hY hpx).mono fun e' st' k' ho => ?_), fun _ h => by cases h⟩
       rcases ho with ⟨rfl, rfl, rfl⟩ | ⟨rfl, hmem⟩
       ·have : thenY (fun st' k' => EvY P (allF base sz) none h0 J y st' k' (YOut r1.e st' r1.t.acc.length l2)) (YOut r1.e st' r1.t.acc.length l2) r1.e st' (some r1.t.acc.length) ↔ YOut r1.e st' r1.t.acc.length l2 r1.e st' (some r1.t.acc.length) := by
          cases hre : r1.e with
          | normal => exact absurd hre he
          | _ => exact Iff.rfl
        cases hre : r1.e with
        | normal => exact absurd hre he
        | _ => exact .inl ⟨rfl, rfl, rfl⟩
       ·obtain ⟨q1, q2⟩ := hl2 _ hmem
        cases e' with
        | normal =>
          obtain ⟨q, hq1, hq2⟩ := q1 rfl
          exact hq2.yl hJ (.inr ⟨rfl, hq1⟩)
        | _ => exact .inr ⟨rfl, q2 (by simp)⟩
     ·cases h
    ·cases h
   case cond o x y =>
    simp only [evY] at h
    split at h
    ·rename_i ho
     obtain ⟨st1, l1, A1, hy1, hp1, hf1, hx1, _⟩ := ih _ _ _ _ _ _ lp h A hy
     exact ⟨st1, l1, A1, hy1, hp1, hf1, fun h0 J xs hJ hY hpx => .cond_true (A.op ho) (hx1 h0 J xs hJ hY hpx), fun _ h => by cases h⟩
    ·rename_i ho
     obtain ⟨st1, l1, A1, hy1, hp1, hf1, hx1, _⟩ := ih _ _ _ _ _ _ lp h A hy
     exact ⟨st1, l1, A1, hy1, hp1, hf1, fun h0 J xs hJ hY hpx => .cond_false (A.op ho) (hx1 h0 J xs hJ hY hpx), fun _ h => by cases h⟩
    ·cases h
   case block id c =>
    simp only [evY] at h
    split at h
    ·rename_i r1 h1
     cases h
     obtain ⟨st1, l1, A1, hy1, hp1, hf1, hx1, _⟩ := ih _ _ _ _ _ _ lp h1 A hy
     have blk : ∀ (Q : Exit → St → Option Nat → Prop) (e : Exit) (st : St) (k : Option Nat), Q (blkE id e) st k → inBlockY id Q e st k := fun Q e st k h => by
      cases e <;> try exact h
      rename_i id'
      simp only [blkE, beq_dec, bif_inv] at h
      simp only [inBlockY]
      split
      ·rename_i hi; rw [if_pos hi] at h; exact h
      ·rename_i hi; rw [if_neg hi] at h; exact h
     refine ⟨st1, l1.map fun p => (blkE id p.1, p.2), A1, hy1, hp1, hf1.map _, fun h0 J xs hJ hY hpx => .block ((hx1 h0 J xs hJ hY hpx).mono fun e' st' k' ho => blk _ _ _ _ ?_), fun _ h => by cases h⟩
     rcases ho with ⟨rfl, rfl, rfl⟩ | ⟨rfl, hmem⟩
     ·exact .inl ⟨rfl, rfl, rfl⟩
     ·exact .inr ⟨rfl, List.mem_map.2 ⟨_, hmem, rfl⟩⟩
    ·cases h
   case loop c =>
    simp only [evY] at h
    split at h
    ·rename_i r1 h1
     obtain ⟨st1, l1, A1, hy1, hp1, hf1, hx1, _⟩ := ih _ _ _ _ _ _ lp h1 A hy
     split at h
     ·rename_i fs hfs
      obtain ⟨l2, hf2, hl2⟩ := evFs_ok (R := LTo P false (allF base sz) c) (fun s st e s' A hs => let ⟨st', h1, _, h2⟩ := hk _ _ _ _ _ _ _ A hs; ⟨st', h1, h2 _ rfl⟩) hf1 hfs
      obtain ⟨m1, hm1⟩ : ∃ m, ∀ p ∈ l1, p.1 = .normal → ∀ h0 J (Q : Exit → St → Option Nat → Prop), Stable J → (∀ q ∈ l2, Q q.1 q.2 none) → RY P (allF base sz) h0 J c m p.2 none Q := bound_all (p := fun (p : Exit × St) m => p.1 = .normal → ∀ h0 J (Q : Exit → St → Option Nat → Prop), Stable J → (∀ q ∈ l2, Q q.1 q.2 none) → RY P (allF base sz) h0 J c m p.2 none Q)
       (fun x m m' hm h he h0 J Q hJ hq => (h he h0 J Q hJ hq).more hm fun _ _ _ h => h) fun p hp => by
        by_cases he : p.1 = .normal
        ·obtain ⟨q, hq1, hq2⟩ := (hl2 p hp).1 he
         obtain ⟨m, hm⟩ := hq2
         refine ⟨m, fun _ h0 J Q hJ hq => ?_⟩
         intro R a w ⟨X, L, G, F, hx, hk', s, hj⟩
         exact rounds_mono (fun _ _ _ ⟨G', F', st', h1, h2, h3⟩ => ⟨st', none, .step hJ hx hk' hj h1 (fun _ h => h) h2, h3⟩) (Nat.le_refl _) (hm none ⟨h0, none, some L⟩ (fun e st' => Q e st' none) rfl (fun h => by cases h) (hq q hq1) G F p.2.mem w G F a w .refl s)
        ·exact ⟨0, fun h => absurd h he⟩
      split at h
      ·rename_i he
       split at h
       ·rename_i r2 h2
        cases h
        obtain ⟨st2, l3, A2, hy2, hp2, hf3, hx2, hr2⟩ := ih _ _ _ _ _ _ lp h2 A1 hy1
        obtain ⟨m2, hm2⟩ := hr2 c rfl
        have hry : ∀ h0 J xs, Stable J → Yields P J lp xs → r2.t.acc <+: xs → RY P (allF base sz) h0 J c (max m1 m2 + 1) st (some t.acc.length) (YOut r2.e st2 r2.t.acc.length (l2 ++ l3)) := fun h0 J xs hJ hY hpx => .round ((hx1 h0 J xs hJ hY (hp2.trans hpx)).mono fun e' st' k' ho => by
         rcases ho with ⟨rfl, rfl, rfl⟩ | ⟨rfl, hmem⟩
         ·rw [he]
          exact (hm2 h0 J xs hJ hY hpx).more (Nat.le_max_right _ _) fun e' st' k' ho => by
           rcases ho with ho | ⟨ho1, ho2⟩
           ·exact .inl ho
           ·exact .inr ⟨ho1, List.mem_append_right _ ho2⟩
         ·obtain ⟨q1, q2⟩ := hl2 _ hmem
          cases e' with
          | normal => exact (hm1 _ hmem rfl h0 J _ hJ fun q hq => .inr ⟨rfl, List.mem_append_left _ hq⟩).more (Nat.le_max_left _ _) fun _ _ _ h => h
          | _ => exact .inr ⟨rfl, List.mem_append_left _ (q2 (by simp))⟩)
        exact ⟨st2, l2 ++ l3, A2, hy2, hp1.trans hp2, hf2.append hf3, fun h0 J xs hJ hY hpx => (hry h0 J xs hJ hY hpx).to, fun c' hc' => by cases hc'; exact ⟨_, hry⟩⟩
       ·cases h
      ·rename_i he
       cases h
       have hry : ∀ h0 J xs, Stable J → Yields P J lp xs → r1.t.acc <+: xs → RY P (allF base sz) h0 J c (m1 + 1) st (some t.acc.length) (YOut r1.e st1 r1.t.acc.length l2) := fun h0 J xs hJ hY hpx => .round ((hx1 h0 J xs hJ hY hpx).mono fun e' st' k' ho => by
        rcases ho with ⟨rfl, rfl, rfl⟩ | ⟨rfl, hmem⟩
        ·cases hre : r1.e with
         | normal => exact absurd hre he
         | _ => exact .inl ⟨rfl, rfl, rfl⟩
        ·obtain ⟨q1, q2⟩ := hl2 _ hmem
         cases e' with
         | normal => exact hm1 _ hmem rfl h0 J _ hJ fun q hq => .inr ⟨rfl, hq⟩
         | _ => exact .inr ⟨rfl, q2 (by simp)⟩)
       exact ⟨st1, l2, A1, hy1, hp1, hf2, fun h0 J xs hJ hY hpx => (hry h0 J xs hJ hY hpx).to, fun c' hc' => by cases hc'; exact ⟨_, hry⟩⟩
     ·cases h
    ·cases h
   case region id ops dr =>
    cases dr
    ·simp only [evY] at h
     split at h
     ·rename_i t' fs hops
      cases h
      obtain ⟨st1, l1, A1, hy1, hp1, hf1, hx1⟩ := evOpsY_ok hc _ _ _ _ _ lp A hy hops
      have e : Code.region id ops false = .region id ops.toList.toArray false := by rw [Array.toArray_toList]
      have clrs : ∀ p ∈ l1, p.2.clr = p.2 := by
       have : ∀ {fs : List (Exit × ES)} {l : List (Exit × St)}, FAbs base sz fs l → ∀ p ∈ l, p.2.clr = p.2 := fun h => by
        induction h with
        | nil => intro p hp; cases hp
        | cons h k ih =>
          intro p hp
          rcases List.mem_cons.1 hp with rfl | hp
          ·exact h.clr
          ·exact ih p hp
       exact this hf1
      refine ⟨st1, l1, A1, hy1, hp1, hf1, fun h0 J xs hJ hY hpx => ?_, fun _ h => by cases h⟩
      rw [e]
      refine .region ?_
      rw [A.clr]
      refine (hx1 h0 J xs hJ hY hpx).mono fun e' st' k' ho => ?_
      rcases ho with ⟨rfl, rfl, rfl⟩ | ⟨rfl, hmem⟩
      ·rw [A1.clr]; exact .inl ⟨rfl, rfl, rfl⟩
      ·rw [clrs _ hmem]; exact .inr ⟨rfl, hmem⟩
     ·cases h
    ·simp only [evY] at h
     split at h
     ·rename_i its s' hops
      cases hcf : confU its 0 its
      ·rw [hcf] at h; cases h
      ·rw [hcf] at h; cases h
       obtain ⟨st1, A1, hkp, htr⟩ := drOps_ok hc _ _ _ _ _ A hops
       have e : Code.region id ops true = .region id ops.toList.toArray true := by rw [Array.toArray_toList]
       refine ⟨st1, [], A1, fun i hi => ?_, List.prefix_refl _, .nil, fun h0 J xs hJ hY hpx => ?_, fun _ h => by cases h⟩
       ·obtain ⟨h1, h2⟩ := mem_delNs hi
        rw [hkp i h2]; exact hy i h1
       ·rw [e]
        exact .lift hJ fun {L} => .drawU hmix (by rw [A.clr]; exact htr _ _) hcf (.inl ⟨rfl, rfl, rfl⟩)
     ·cases h
   all_goals (simp only [evY] at h; cases h)
end
theorem tmsOf_get : ∀ (xs : List AV) (i : Nat) (t : T AV) (k : Nat), T.get .junk (tmsOf xs i t) k = .junk ∨ (k < i + xs.length ∧ T.get .junk (tmsOf xs i t) k = alook (vars0 i xs) k) ∨ T.get .junk (tmsOf xs i t) k = T.get .junk t k
 | [], _, _, _ => .inr (.inr rfl)
 | x :: xs, i, t, k => by
   simp only [tmsOf, vars0, alook, List.length_cons]
   rcases tmsOf_get xs (Nat.succ i) (T.put t x i) k with h | ⟨h1, h2⟩ | h
   ·exact .inl h
   ·by_cases hk : k = i
    ·subst hk
     rcases alook_vars0 xs (k + 1) k with h3 | ⟨_, h3, _⟩
     ·rw [h2]; exact .inl h3
     ·omega
    ·rw [if_neg hk]; exact .inr (.inl ⟨by omega, h2⟩)
   ·rw [h]
    rcases T.get_put .junk x t i k with h3 | h3
    ·exact .inl h3
    ·rw [h3]
     by_cases hk : k = i
     ·rw [if_pos hk, if_pos hk]; exact .inr (.inl ⟨by omega, rfl⟩)
     ·rw [if_neg hk, if_neg hk]; exact .inr (.inr rfl)
section
variable {P : Program} {base sz : Nat}
theorem es0_abs {xs : List AV} {m : ML} {M : Mem} {nx : Nat} (hm : MOk m M) (hl : xs.length ≤ sz) : Abs (allF base sz) (es0 xs m nx) ⟨vars0 0 xs, [], M, nx⟩ := by
 refine ⟨rfl, fun k => ?_, hm, rfl⟩
 rcases tmsOf_get xs 0 (T.mk .junk 8) k with h | ⟨h1, h2⟩ | h
 ·exact .inl h
 ·right
  rw [St.get, if_pos (allF_isG (by omega))]; exact h2.symm
 ·rw [T.get_mk] at h; exact .inl h
theorem es0_abs1 {xs : List AV} {m : ML} {M : Mem} {nx : Nat} (v : AV) (hm : MOk m M) (hl : xs.length + 1 ≤ sz) : Abs (allF base sz) (es0 (.junk :: xs) m nx) ⟨vars0 0 (v :: xs), [], M, nx⟩ := by
 have A := es0_abs (base := base) (xs := .junk :: xs) (nx := nx) hm hl
 refine ⟨rfl, fun k => ?_, hm, rfl⟩
 rcases A.slot k with h | h
 ·exact .inl h
 ·by_cases hk : k = 0
  ·subst hk
   left
   rw [← h, St.get]
   split <;> simp [vars0, alook]
  ·right
   rw [← h]
   simp only [St.get, vars0, alook, if_neg hk]
theorem resT1_ok {s : ES} {st : St} (A : Abs (allF base sz) s st) {x : ResultVar} {v : AV} (h : resT1 P s x = some v) : resOneR P (allF base sz) st x = some v := by
 cases x with
 | tmp t =>
   simp only [resT1] at h
   rcases A.slot t with hs | hs
   ·rw [hs] at h; cases h
   ·split at h
    ·cases h
    ·simp only [resOneR, hs]; exact h
 | cell a t =>
   simp only [resT1] at h
   split at h
   ·rename_i ti hti
    rcases A.slot a with hs | hs
    ·rw [hs] at h; cases h
    ·split at h
     ·rename_i i off hrf
      split at h
      ·rename_i cs hcs
       generalize hb : (Nat.ble (off + ti.size) cs.length && (ti.agg || Nat.beq ti.size 1)) = b at h
       cases b
       ·cases h
       ·simp only [Bool.and_eq_true, Bool.or_eq_true, ble_dec, beq_dec, decide_eq_true_eq] at hb
        simp only [resOneR, resOne, hs, hrf, hti, A.look hcs, if_pos hb]; exact h
      ·cases h
     ·cases h
   ·cases h
theorem resTs_ok {s : ES} {st : St} (A : Abs (allF base sz) s st) : ∀ {l : List ResultVar} {vs : List AV}, resTs P s l = some vs → resAllR P (allF base sz) st l = some vs
 | [], _, h => h
 | x :: l, vs, h => by
   simp only [resTs] at h
   split at h
   ·rename_i v hv
    split at h
    ·rename_i ws hws; simp only [resAllR, resT1_ok A hv, resTs_ok A hws]; exact h
    ·cases h
   ·cases h
def TabOk (P : Program) (B : Tab) : Prop := ∀ f xs r, B.H f xs = some r → PureIs P f xs r
def NoNum (P : Program) : Prop := ∀ (f : Nat) (fn : Func), P.funcs[f]? = some fn → (fn.name == "runtime.NumGoroutine") = false
theorem Abs.bind {ps : List Nat} : ∀ {x : List AV} {tm : T AV} {m : ML} {n : Nat} {st : St}, (∀ p ∈ ps, p < sz) → Abs (allF base sz) ⟨tm, m, n⟩ st → Abs (allF base sz) ⟨bindT ps x tm, m, n⟩ (bindP (allF base sz) ps x st) := by
 induction ps with
 | nil => intro x tm m n st _ A; exact A
 | cons p ps ih =>
   intro x tm m n st hp A
   cases x with
   | nil => exact A
   | cons v x =>
     simp only [bindT, bindP]
     exact ih (fun q hq => hp q (List.mem_cons_of_mem _ hq)) (A.put (d := some p) (decide_eq_true (hp p List.mem_cons_self)) v)
theorem evRng_ok {k : Nat → Code → ES → X (Exit × ES)} {assign body : Code} {ps : List Nat} {tm : T AV} {st : St} {nx0 : Nat} (hk : ∀ sz c s e s' st, Abs (allF nx0 sz) s st → k sz c s = .ok (e, s') → ∃ st', Abs (allF nx0 sz) s' st' ∧ CTo P true (allF nx0 sz) c st e st' ∧ ∀ c', c = .loop c' → LTo P true (allF nx0 sz) c' st e st')
  (hp : ∀ p ∈ ps, p < sz) (htm : ∀ k, T.get .junk tm k = .junk ∨ (⟨st.vars, [], [], 0⟩ : St).get (allF base sz) k = T.get .junk tm k) : ∀ (xs : List (List AV)) (m : ML) (n : Nat) (M : Mem) (e : Exit) (s' : ES), MOk m M → evRng k sz ps assign body tm xs m n = .ok (e, s') →
  ∃ (inv : Nat → Mem → Nat → Prop) (st' : St), Abs (allF base sz) s' st' ∧ inv 0 M n ∧ (∀ M' n', inv xs.length M' n' → e = .normal ∧ ⟨st.vars, [], M', n'⟩ = st') ∧
    ∀ j M' n' lp, (hj : j < xs.length) → inv j M' n' → EvC P (allF nx0 sz) (some lp) ⟨0, some lp, true⟩ assign (bindP (allF nx0 sz) ps xs[j] ⟨st.vars, [], M', n'⟩) fun e1 st1 => e1 = .normal ∧
      EvC P (allF nx0 sz) (some lp) ⟨0, some lp, true⟩ body st1 fun e2 st2 => match e2 with
       | .normal => inv (j + 1) st2.mem st2.nx
       | .ret => e = .ret ∧ ⟨st.vars, [], st2.mem, st2.nx⟩ = st'
       | .exit id => e = .exit id ∧ ⟨st.vars, [], st2.mem, st2.nx⟩ = st'
       | _ => False
 | [], m, n, M, e, s', hM, h => by
   simp only [evRng] at h; cases h
   exact ⟨fun j M' n' => j = 0 ∧ M' = M ∧ n' = n, ⟨st.vars, [], M, n⟩, ⟨rfl, htm, hM, rfl⟩, ⟨rfl, rfl, rfl⟩, fun M' n' ⟨_, h1, h2⟩ => ⟨rfl, by rw [h1, h2]⟩, fun j M' n' lp hj => absurd hj (Nat.not_lt_zero _)⟩
 | x :: xs, m, n, M, e, s', hM, h => by
   simp only [evRng] at h
   rw [beq_dec, bif_inv] at h
   split at h
   ·rename_i hlen
    split at h
    ·rename_i s1 h1
     have A0 : Abs (allF nx0 sz) ⟨bindT ps x tm, m, n⟩ (bindP (allF nx0 sz) ps x ⟨st.vars, [], M, n⟩) := Abs.bind (st := ⟨st.vars, [], M, n⟩) hp ⟨rfl, htm, hM, rfl⟩
     obtain ⟨st1, A1, c1, _⟩ := hk _ _ _ _ _ _ A0 h1
     split at h
     ·rename_i e2 s2 h2
      obtain ⟨st2, A2, c2, _⟩ := hk _ _ _ _ _ _ A1 h2
      have base1 : ∀ (Q : Exit → St → Prop) lp, Q e2 st2 → EvC P (allF nx0 sz) (some lp) ⟨0, some lp, true⟩ assign (bindP (allF nx0 sz) ps x ⟨st.vars, [], M, n⟩) fun e1 st1 => e1 = .normal ∧ EvC P (allF nx0 sz) (some lp) ⟨0, some lp, true⟩ body st1 Q := fun Q lp hq =>
       c1 _ _ _ rfl (fun _ h => by cases h) ⟨rfl, c2 _ _ _ rfl (fun _ h => by cases h) hq⟩
      split at h
      ·obtain ⟨inv, st', A', hi0, hdone, hround⟩ := evRng_ok hk hp htm xs _ _ st2.mem _ _ A2.mem h
       rw [A2.nx] at hi0
       refine ⟨fun j M' n' => (j = 0 ∧ M' = M ∧ n' = n) ∨ ∃ j', j = j' + 1 ∧ inv j' M' n', st', A', .inl ⟨rfl, rfl, rfl⟩, fun M' n' hi => ?_, fun j M' n' lp hj hi => ?_⟩
       ·rcases hi with ⟨h0, _⟩ | ⟨j', hj', hi⟩
        ·simp at h0
        ·have : j' = xs.length := by simpa using hj'.symm
         subst this
         exact hdone M' n' hi
       ·rcases hi with ⟨rfl, rfl, rfl⟩ | ⟨j', rfl, hi⟩
        ·refine (base1 _ lp ?_)
         exact .inr ⟨0, rfl, hi0⟩
        ·have := hround j' M' n' lp (by simpa using hj) hi
         refine this.mono fun e1 st1 ⟨a1, a2⟩ => ⟨a1, a2.mono fun e2 st2 a3 => ?_⟩
         cases e2 with
         | normal => exact .inr ⟨_, rfl, a3⟩
         | _ => exact a3
      ·cases h
       refine ⟨fun j M' n' => j = 0 ∧ M' = M ∧ n' = n, ⟨st.vars, [], st2.mem, st2.nx⟩, ⟨rfl, htm, A2.mem, A2.nx⟩, ⟨rfl, rfl, rfl⟩, fun M' n' hi => by have := hi.1; simp at this, fun j M' n' lp hj hi => ?_⟩
       ·obtain ⟨rfl, rfl, rfl⟩ := hi
        exact base1 _ lp ⟨rfl, rfl⟩
      ·cases h
       refine ⟨fun j M' n' => j = 0 ∧ M' = M ∧ n' = n, ⟨st.vars, [], st2.mem, st2.nx⟩, ⟨rfl, htm, A2.mem, A2.nx⟩, ⟨rfl, rfl, rfl⟩, fun M' n' hi => by have := hi.1; simp at this, fun j M' n' lp hj hi => ?_⟩
       ·obtain ⟨rfl, rfl, rfl⟩ := hi
        exact base1 _ lp ⟨rfl, rfl⟩
      ·cases h
     ·cases h
    ·cases h
    ·cases h
   ·cases h
end
section
variable {P : Program} {base sz : Nat} {call : CallF}
theorem FAbs.mem {fs : List (Exit × ES)} {l : List (Exit × St)} (h : FAbs base sz fs l) {e : Exit} {st : St} (hm : (e, st) ∈ l) : ∃ s, (e, s) ∈ fs := by
 induction h with
 | nil => cases hm
 | cons h k ih =>
   rcases List.mem_cons.1 hm with h1 | h1
   ·cases h1; exact ⟨_, List.mem_cons_self⟩
   ·obtain ⟨s, hs⟩ := ih h1; exact ⟨s, List.mem_cons_of_mem _ hs⟩
theorem endT_ok {e : Exit} (h : endT e = true) : e = .ret ∨ e = .normal := by
 cases e <;> first
  | exact .inl rfl
  | exact .inr rfl
  | cases h
theorem evSeq_ok {k : Nat → Code → ES → X (Exit × ES)} (hc : CallOk P call) (hk : KOk P false k) (hmix : P.follows .mixedOrders = true) (hN : NoNum P) {n f : Nat} {caps : List AV} {xs : List (List AV)} (h : evSeq P call k n f caps = .ok xs) : AV.norefs caps = true ∧ SeqIs P f caps xs := by
 unfold evSeq at h
 cases hn : AV.norefs caps
 ·rw [hn] at h; cases h
 ·rw [hn] at h
  simp only [cond_true] at h
  refine ⟨rfl, ?_⟩
  split at h
  ·rename_i fn hf
   split at h
   ·rename_i b hb
    rw [ble_dec, beq_dec, blt_dec, ← Bool.decide_and, ← Bool.decide_and, bif_inv] at h
    split at h
    ·rename_i hsz
     split at h
     ·rename_i r hr
      cases he : (endT r.e && r.fs.all fun p => endT p.1)
      ·rw [he] at h; cases h
      ·rw [he] at h
       simp only [cond_true] at h
       cases h
       simp only [Bool.and_eq_true, List.all_eq_true] at he
       have hlt := hsz.2.2
       refine .of (nv := fn.ntmps) (hid := List.range fn.ntmps) hf hb (hN _ _ hf) hsz.1 (Array.eq_empty_of_size_eq_zero hsz.2.1) fun l J h0 hJ hY => ?_
       have hM : MOk (T.mk none 16) [] := fun i => .inl (T.get_mk none 16 i)
       have A : Abs (allF 0 fn.ntmps) (es0 (.junk :: caps) (T.mk none 16) 0) ⟨vars0 0 (.sc (yv l) :: caps), [], [], 0⟩ := es0_abs1 (.sc (yv l)) hM hsz.1
       have hy : YSl (allF 0 fn.ntmps) l [0] ⟨vars0 0 (.sc (yv l) :: caps), [], [], 0⟩ := fun i hi => by
        have : i = 0 := by simpa using hi
        subst this
        rw [St.get, if_pos (allF_isG (by omega))]
        simp [vars0, alook]
       obtain ⟨st', fs', _, _, _, hfa, hev, _⟩ := evY_ok hc hk hmix _ _ _ _ _ 0 _ l hr A hy
       refine (hev h0 J r.t.acc hJ hY (List.prefix_refl _)).mono fun e st k hq => ?_
       rcases hq with ⟨rfl, rfl, rfl⟩ | ⟨rfl, hmem⟩
       ·exact ⟨endT_ok he.1, .inl rfl⟩
       ·obtain ⟨s, hs⟩ := hfa.mem hmem
        exact ⟨endT_ok (he.2 _ hs), .inr rfl⟩
     ·cases h
    ·cases h
   ·cases h
  ·cases h
theorem evCall_ok {B : Tab} (hB : TabOk P B) (hN : NoNum P) {k : Nat → Nat → Code → ES → X (Exit × ES)} (hk : ∀ (b sz : Nat) (c : Code) (s : ES) (e : Exit) (s' : ES) (st : St), Abs (allF b sz) s st → k b sz c s = .ok (e, s') → ∃ st', Abs (allF b sz) s' st' ∧ CTo P true (allF b sz) c st e st') : CallOk P (evCall P B k) := by
 intro f xs m nx r m' nx' M hM h
 unfold evCall at h
 cases hi : B.isH f
 ·rw [hi] at h
  simp only [cond_false] at h
  split at h
  ·rename_i fn hf
   split at h
   ·rename_i b hb
    rw [ble_dec, blt_dec, ← Bool.decide_and, bif_inv] at h
    split at h
    ·rename_i hl
     obtain ⟨hl, hlt⟩ := hl
     split at h
     ·rename_i e s2 h2
      cases he : endT e
      ·rw [he] at h; cases h
      ·rw [he] at h
       simp only [cond_true] at h
       split at h
       ·rename_i rs hrs
        cases h
        obtain ⟨st2, A2, k2⟩ := hk _ _ _ _ _ _ _ (es0_abs hM hl) h2
        exact ⟨st2.mem, A2.mem, .body (nv := fn.ntmps) (hid := List.range fn.ntmps) hf hb (hN _ _ hf) hl fun h0 => k2 _ _ _ rfl (fun _ _ => rfl) ⟨endT_ok he, _, resTs_ok A2 hrs, rfl, rfl, A2.nx.symm⟩⟩
       ·cases h
     ·cases h
    ·cases h
   ·cases h
  ·cases h
 ·rw [hi] at h
  simp only [cond_true] at h
  split at h
  ·rename_i ys m1 hz
   split at h
   ·rename_i r0 hr0
    cases h
    exact CallTo.pure (hB _ _ _ hr0) hz hM
   ·cases h
  ·cases h
theorem frzK_ok {caps caps' : List AV} {s s1 : ES} {st : St} {k gf : Nat} (hk : k < sz) (A : Abs (allF base sz) s st) (hs : T.get .junk s.tm k = .fn gf caps) (h : frzCaps caps s = some (caps', s1)) :
  ∃ st2, Abs (allF base sz) ⟨T.put s1.tm (.fn gf caps') k, s1.mem, s1.nx⟩ st2 ∧ st2.nx = st.nx ∧ st2.get (allF base sz) k = .fn gf caps' ∧ (∀ c ro ds Q, EvC P (allF base sz) ro ds c st2 Q → EvC P (allF base sz) ro ds c st Q) := by
 obtain ⟨st1, A1, hnx, hz⟩ := frzCaps_ok caps s caps' s1 st A h
 have A2 := A1.put (d := some k) (decide_eq_true hk) (.fn gf caps')
 refine ⟨_, A2, by rw [St.put_nx]; exact hnx, by rw [St.get_put, if_pos rfl], fun c ro ds Q hc => .conv ?_ hc⟩
 intro G F a w sA
 have hst : st.get (allF base sz) k = .fn gf caps := by
  rcases A.slot k with h | h
  ·rw [hs] at h; cases h
  ·rw [h, hs]
 obtain ⟨F', hm, hsl, S, hno, hi⟩ := hz G F st.nx w (fun k => a.tmps.getD k undef) sA.sim.mem sA.sim.slots
 have hf := sA.sim.slots k
 rw [hst] at hf
 obtain ⟨vs, hv, hvl, hvs⟩ := hf.inv_fn
 have hi := hi vs ⟨hvl, hvs⟩
 refine ⟨G, F', ⟨⟨by rw [St.put_mem, St.put_nx, hnx]; exact hm, fun i => ?_, sA.sim.size⟩, by rw [St.put_nx, hnx]; exact sA.fresh, sA.defers⟩, by rw [St.put_mem]; exact S.mono fun _ _ => trivial⟩
 rw [St.get_put, St.put_mem]
 by_cases h : i = k
 ·subst h
  rw [if_pos rfl, hv]
  exact .imm (.fn gf vs caps' hi.1 hi.2)
 ·rw [if_neg h]; exact hsl i
end
section
variable {P : Program}
theorem evC_ok {B : Tab} (hB : TabOk P B) (hN : NoNum P) (hmix : P.follows .mixedOrders = true) : ∀ (n : Nat) (rg : Bool) (b sz : Nat) (c : Code) (s : ES) (e : Exit) (s' : ES) (base : Nat) (st : St), (rg = true → b = base) → Abs (allF base sz) s st → evC P B n rg b sz c s = .ok (e, s') →
  ∃ st', Abs (allF base sz) s' st' ∧ CTo P rg (allF base sz) c st e st' ∧ ∀ c', c = .loop c' → LTo P rg (allF base sz) c' st e st'
 | 0, _, _, _, _, _, _, _, _, _, _, _, h => by cases h
 | n + 1, rg, b, sz, c, s, e, s', base, st, hb, A, h => by
   have ih := evC_ok hB hN hmix n
   have hcall : CallOk P (evCall P B (evC P B n true)) := evCall_ok hB hN fun b sz c s e s' st A h => by
    obtain ⟨st', A', k, _⟩ := ih true b sz c s e s' b st (fun _ => rfl) A h
    exact ⟨st', A', k⟩
   cases c
   case skip => simp only [evC] at h; cases h; exact ⟨st, A, fun _ _ _ _ _ hq => .skip hq, fun _ hc => by cases hc⟩
   case exit => simp only [evC] at h; cases h; exact ⟨st, A, fun _ _ _ _ _ hq => .exit hq, fun _ hc => by cases hc⟩
   case ret => simp only [evC] at h; cases h; exact ⟨st, A, fun _ _ _ _ _ hq => .ret hq, fun _ hc => by cases hc⟩
   case label => simp only [evC] at h; cases h; exact ⟨st, A, fun _ _ _ _ _ hq => .label hq, fun _ hc => by cases hc⟩
   case seq x y =>
    simp only [evC] at h
    split at h
    ·rename_i s1 h1
     obtain ⟨st1, A1, k1, _⟩ := ih _ _ _ _ _ _ _ _ _ hb A h1
     obtain ⟨st2, A2, k2, _⟩ := ih _ _ _ _ _ _ _ _ _ hb A1 h
     exact ⟨st2, A2, fun ro ds Q e1 e2 hq => .seq (k1 ro ds _ e1 e2 (k2 ro ds Q e1 e2 hq)), fun _ hc => by cases hc⟩
    ·rename_i hne
     obtain ⟨st1, A1, k1, _⟩ := ih _ _ _ _ _ _ _ _ _ hb A h
     refine ⟨st1, A1, fun ro ds Q e1 e2 hq => .seq (k1 ro ds _ e1 e2 ?_), fun _ hc => by cases hc⟩
     cases e <;> first
      | exact hq
      | exact (hne _ h).elim
   case cond o x y =>
    simp only [evC] at h
    split at h
    ·rename_i ho
     obtain ⟨st1, A1, k1, _⟩ := ih _ _ _ _ _ _ _ _ _ hb A h
     exact ⟨st1, A1, fun ro ds Q e1 e2 hq => .cond_true (A.op ho) (k1 ro ds Q e1 e2 hq), fun _ hc => by cases hc⟩
    ·rename_i ho
     obtain ⟨st1, A1, k1, _⟩ := ih _ _ _ _ _ _ _ _ _ hb A h
     exact ⟨st1, A1, fun ro ds Q e1 e2 hq => .cond_false (A.op ho) (k1 ro ds Q e1 e2 hq), fun _ hc => by cases hc⟩
    ·cases h
   case block id c =>
    simp only [evC] at h
    split at h
    ·rename_i id' s1 h1
     obtain ⟨st1, A1, k1, _⟩ := ih _ _ _ _ _ _ _ _ _ hb A h1
     rw [beq_dec, bif_inv] at h
     split at h <;> rename_i hid <;> cases h
     ·exact ⟨st1, A1, fun ro ds Q e1 e2 hq => .block (k1 ro ds _ e1 e2 (by simp only [inBlockE, if_pos hid]; exact hq)), fun _ hc => by cases hc⟩
     ·exact ⟨st1, A1, fun ro ds Q e1 e2 hq => .block (k1 ro ds _ e1 e2 (by simp only [inBlockE, if_neg hid]; exact hq)), fun _ hc => by cases hc⟩
    ·rename_i hne
     obtain ⟨st1, A1, k1, _⟩ := ih _ _ _ _ _ _ _ _ _ hb A h
     refine ⟨st1, A1, fun ro ds Q e1 e2 hq => .block (k1 ro ds _ e1 e2 ?_), fun _ hc => by cases hc⟩
     cases e <;> first
      | exact hq
      | exact (hne _ _ h).elim
   case loop c =>
    simp only [evC] at h
    split at h
    ·rename_i s1 h1
     obtain ⟨st1, A1, k1, _⟩ := ih _ _ _ _ _ _ _ _ _ hb A h1
     obtain ⟨st2, A2, k2, l2⟩ := ih _ _ _ _ _ _ _ _ _ hb A1 h
     have l : LTo P rg (allF base sz) c st e st2 := .next k1 (l2 c rfl)
     exact ⟨st2, A2, l.to, fun c' hc => by cases hc; exact l⟩
    ·rename_i hne
     obtain ⟨st1, A1, k1, _⟩ := ih _ _ _ _ _ _ _ _ _ hb A h
     have l : LTo P rg (allF base sz) c st e st1 := .last k1 (fun he => by subst he; exact hne _ h)
     exact ⟨st1, A1, l.to, fun c' hc => by cases hc; exact l⟩
   case scope c =>
    simp only [evC] at h
    split at h
    ·cases h
    ·rename_i hne
     obtain ⟨st1, A1, k1, _⟩ := ih _ _ _ _ _ _ _ _ _ hb A h
     refine ⟨st1, A1, fun ro ds Q e1 e2 hq => .scope (k1 ro ds _ e1 e2 ?_), fun _ hc => by cases hc⟩
     cases e <;> first
      | exact hq
      | exact (hne _ _ h).elim
   case region id ops dr =>
    have e : ∀ d, Code.region id ops d = .region id ops.toList.toArray d := fun d => by rw [Array.toArray_toList]
    cases dr
    ·simp only [evC] at h
     split at h
     ·rename_i s1 h1
      cases h
      obtain ⟨st1, A1, _, k1⟩ := evOps_ok hcall _ _ _ A h1
      exact ⟨st1, A1, fun ro ds Q _ _ hq => by rw [e]; exact .region (by rw [A.clr]; exact k1 ro ds Q hq), fun _ hc => by cases hc⟩
     ·cases h
    ·simp only [evC] at h
     split at h
     ·rename_i its s1 h1
      cases hcf : confU its 0 its
      ·rw [hcf] at h; cases h
      ·rw [hcf] at h
       cases h
       obtain ⟨st1, A1, _, k1⟩ := drOps_ok hcall _ _ _ _ _ A h1
       exact ⟨st1, A1, fun ro ds Q _ _ hq => by rw [e]; exact .drawU hmix (by rw [A.clr]; exact k1 ro ds) hcf hq, fun _ hc => by cases hc⟩
     ·cases h
   case rangeFunc g ps assign body =>
    simp only [evC] at h
    cases hrg : rg
    ·rw [hrg] at h; cases h
    ·subst hrg
     have hb := hb rfl
     subst hb
     cases hps : (true && (ps.all (fun p => Nat.blt p sz) && Nat.ble b s.nx))
     ·rw [hps] at h; cases h
     ·rw [hps] at h
      simp only [cond_true] at h
      simp only [Bool.true_and, Bool.and_eq_true, Array.all_eq_true', blt_dec, ble_dec, decide_eq_true_eq] at hps
      split at h
      ·rename_i k
       split at h
       ·rename_i gf caps hfn
        split at h
        ·rename_i caps' s1 hz
         rw [blt_dec, bif_inv] at h
         split at h
         ·rename_i hk
          split at h
          ·rename_i xs hxs
           cases hall : xs.all (fun x => Nat.beq x.length ps.size)
           ·rw [hall] at h; cases h
           ·rw [hall] at h
            simp only [cond_true] at h
            simp only [List.all_eq_true, beq_dec, decide_eq_true_eq] at hall
            obtain ⟨hno, hseq⟩ := evSeq_ok hcall (fun sz c s e s' base st A h => ih false 0 sz c s e s' base st (fun h => by cases h) A h) hmix hN hxs
            obtain ⟨st2, A2, hnx, hget, hconv⟩ := frzK_ok hk A hfn hz
            have hn1 : s1.nx = st2.nx := A2.nx
            have hslot : ∀ i, T.get .junk (T.put s1.tm (.fn gf caps') k) i = .junk ∨ (⟨st2.vars, [], [], 0⟩ : St).get (allF b sz) i = T.get .junk (T.put s1.tm (.fn gf caps') k) i := fun i => by
             have h1 := A2.slot i
             unfold St.get at h1 ⊢
             rw [A2.tmps] at h1
             exact h1
            obtain ⟨inv, st', A', hi0, hdone, hround⟩ := evRng_ok (base := b) (nx0 := s1.nx) (st := st2) (fun sz c s e s' st A h => ih true s1.nx sz c s e s' s1.nx st (fun _ => rfl) A h) (fun p hp => hps.1 p (by simpa using hp)) hslot xs s1.mem s1.nx st2.mem e s' A2.mem h
            refine ⟨st', A', fun ro ds Q e1 e2 hq => hconv _ _ _ _ (.rangeG e1 (e2 rfl) (by rw [A2.clr]; exact hget) hno hseq hall (fun p hp => hps.1 p hp) (by rw [← hn1, A2.nx, hnx, ← A.nx]; exact hps.2) inv (by rw [← hn1]; exact hi0) ?_ ?_), fun _ hc => by cases hc⟩
            ·intro j M nx lp hj hi
             rw [← hn1]
             refine (hround j M nx lp hj hi).mono fun e1 st1 ⟨h1, h2⟩ => ⟨h1, h2.mono fun e2 st2 h3 => ?_⟩
             cases e2 with
             | normal => exact h3
             | ret => obtain ⟨h4, h5⟩ := h3; subst h4; rw [← h5] at hq; exact hq
             | exit id => obtain ⟨h4, h5⟩ := h3; subst h4; rw [← h5] at hq; exact hq
             | goto _ => exact h3
             | panic _ => exact h3
             | outgrown => exact h3
            ·intro M nx hi
             obtain ⟨h4, h5⟩ := hdone M nx hi
             rw [h5, ← h4]; exact hq
          ·cases h
         ·cases h
        ·cases h
       ·cases h
      ·cases h
   all_goals (simp only [evC] at h; cases h)
theorem evF_ok {B : Tab} (hB : TabOk P B) (hN : NoNum P) (hmix : P.follows .mixedOrders = true) (n : Nat) : CallOk P (evCall P B (evC P B n true)) := evCall_ok hB hN fun b sz c s e s' st A h => by
 obtain ⟨st', A', k, _⟩ := evC_ok hB hN hmix n true b sz c s e s' b st (fun _ => rfl) A h
 exact ⟨st', A', k⟩
end
noncomputable def evP (P : Program) (B : Tab) (n d f : Nat) (xs : List AV) : Option AV :=
 match evF P B n d f xs with
 | .ok (r, m, _) => match frzV 20 m r with
   | some (y, _) => some y
   | none => none
 | .er _ _ => none
theorem CallTo.pureIs {P : Program} {f : FuncId} {xs : List AV} {r y : AV} {M' : Mem} {nx' n : Nat} {m' m2 : ML} (h : CallTo P f xs [] 0 r M' nx') (hM : MOk m' M') (hz : frzV n m' r = some (y, m2)) : PureIs P f xs y := by
 obtain ⟨M2, _, hz⟩ := frzV_ok (P := P) n _ _ _ _ _ hz hM
 refine ⟨h.1, fun F w vals hF hi => ?_⟩
 have hm : SimM P (fun _ => none) F [] 0 w := ⟨fun id o h => (by cases h), fun id id' v v' b h => absurd rfl h, hF.1, hF.2⟩
 refine (h.2 _ F w vals hm (fun _ _ => rfl) ⟨hi.1, fun i h1 h2 => .imm (hi.2 i h1 h2)⟩).mono ?_
 rintro e w2 ⟨u, G', F', rfl, hu, hm2, _, S⟩
 obtain ⟨F2, hm3, S2, hr⟩ := hz G' F' nx' w2 hm2
 have T := S.trans S2
 exact ⟨u, F2, rfl, hr.2 u hu, ⟨T.size, fun b hb => T.out b hb (fun ⟨_, _, _, h, _⟩ => by cases h), T.F1, (fun b o h => by
  rcases T.F3 b o h with h | h | ⟨_, _, _, h, _⟩
  ·exact .inl h
  ·exact .inr h
  ·cases h), hm3.inF, T.kept⟩⟩
theorem mOk_nil (d : Nat) : MOk (T.mk none d) [] := fun i => .inl (T.get_mk none d i)
theorem PureIs.ev {P : Program} {B : Tab} {n d f : Nat} {xs : List AV} {r : AV} (hB : TabOk P B) (hN : NoNum P) (hmix : P.follows .mixedOrders = true) (h : evP P B n d f xs = some r) : PureIs P f xs r := by
 unfold evP at h
 split at h
 ·rename_i r0 m' nx' hc
  split at h
  ·rename_i y m2 hz
   cases h
   obtain ⟨M', hM, hct⟩ := evF_ok hB hN hmix n _ _ _ _ _ _ _ [] (mOk_nil d) hc
   exact hct.pureIs hM hz
  ·cases h
 ·cases h
open Go Go.Proofs Go.RowKit
theorem grown_below {F : Nat → Nat → Prop} {w w' : World} (hF : FOk F w) (h : Below w.heap.size w w') : Grown F w F w' :=
 ⟨h.size, h.block, fun _ _ h => h, fun _ _ h => .inl h, fun b o hb => Nat.lt_of_lt_of_le (hF.1 b o hb) h.size, ⟨h.os, h.tape, h.output, fun b es c hb => ⟨es, c, by rw [h.block b (Array.getElem?_eq_some_iff.1 hb).1]; exact hb, List.prefix_refl _⟩⟩⟩
def strsOf : List (List AV) → Option (List ByteArray)
 | [] => some []
 | [.sc (.string b)] :: r => match strsOf r with
   | some l => some (b :: l)
   | none => none
 | _ => none
theorem strsOf_ok : ∀ {es : List (List AV)} {xs : List ByteArray}, strsOf es = some xs → es = xs.map fun b => [.sc (.string b)]
 | [], xs, h => by simp only [strsOf] at h; cases h; rfl
 | e :: r, xs, h => by
   unfold strsOf at h
   split at h
   ·cases ‹_ :: _ = []›
   ·rename_i b r' he
    cases he
    split at h
    ·rename_i l hl; cases h; rw [strsOf_ok hl]; rfl
    ·cases h
   ·cases h
theorem imms2 {F : Nat → Nat → Prop} {w : World} {vals : List Value} {x y : AV} (h : Imms F w vals [x, y]) : ∃ v u, vals = [v, u] ∧ Imm F w v x ∧ Imm F w u y := by
 match vals, h with
 | [v, u], h => exact ⟨v, u, rfl, h.2 0 (by simp) (by simp), h.2 1 (by simp) (by simp)⟩
 | [], h => exact absurd h.1 (by simp)
 | [_], h => exact absurd h.1 (by simp)
 | _ :: _ :: _ :: _, h => exact absurd h.1 (by simp)
theorem imm_sc {F : Nat → Nat → Prop} {w : World} {v u : Value} (h : Imm F w v (.sc u)) : v = u := by cases h; rfl
def joinS (xs : List ByteArray) (sep : ByteArray) : List UInt8 := Lib.join (xs.map (·.data.toList)) sep.data.toList
theorem join_is {nl : Bool} {es : List (List AV)} {cap : Cp} {xs : List ByteArray} {sep : ByteArray} (hx : strsOf es = some xs) (h1 : xs.length ≤ 140737488355328) (h2 : (joinS xs sep).length ≤ 140737488355328) :
  PureIs Tryz.prog 59 [.sl nl es cap, .sc (.string sep)] (.sc (.string ⟨(joinS xs sep).toArray⟩)) := by
 have he := strsOf_ok hx
 refine ⟨callable_of Tryz.func59 (by kernel_rfl) (by kernel_rfl), fun F w vals hF hi => ?_⟩
 obtain ⟨v, u, rfl, hv, hu⟩ := imms2 hi
 cases imm_sc hu
 have none : ∀ (a : Option Addr) (c : Nat), es = [] → v = .slice a 0 c → CallsIn Fence.wide 0 Tryz.prog 59 #[v, .string sep] w fun e w' => ∃ v F', e = .returned v ∧ Imm F' w' v (.sc (.string ⟨(joinS xs sep).toArray⟩)) ∧ Grown F w F' w' := fun a c hn hv => by
  subst hv
  have hxs : xs = [] := by rw [he] at hn; simpa using hn
  subst hxs
  refine callsIn_wide.2 ((sh_strings_Join_none a c sep w).mono ?_)
  rintro e w' ⟨rfl, rfl⟩
  exact ⟨_, F, rfl, .sc _, grown_below hF (.refl _ _)⟩
 cases hv with
 | nil cap hc => exact none _ _ rfl rfl
 | sz a cap hc => exact none _ _ rfl rfl
 | sl b off c esz es cap vs hc hcap hes hFs his =>
   by_cases hn : es = []
   ·exact none _ _ hn (by rw [hn]; rfl)
   ·have hl : es.length = xs.length := by rw [he]; simp
    have hrow : ∀ i (h : i < es.length) (h' : i < xs.length), es[i] = [.sc (.string xs[i])] := fun i h h' => by subst he; simp
    have hpos : 0 < es.length := List.length_pos_iff.2 hn
    have hz : esz = 1 := by
     rw [← hes 0 hpos, hrow 0 hpos (by omega)]; rfl
    subst hz
    rw [hl]
    refine callsIn_wide.2 ((sh_strings_Join b off c xs sep w (fun j x hj => ?_) ?_ h1 (by omega) h2).mono ?_)
    ·obtain ⟨hj1, hj2⟩ := List.getElem?_eq_some_iff.1 hj
     have hj3 : j < es.length := by omega
     obtain ⟨_, k2, _⟩ := hFs j 0 hj3 (by omega)
     have k3 := his j 0 hj3 (by rw [hrow j hj3 hj1]; simp)
     have e1 : es[j][0]'(by rw [hrow j hj3 hj1]; simp) = .sc (.string xs[j]) := by simp only [hrow j hj3 hj1]; rfl
     rw [e1] at k3
     rw [imm_sc k3, hj2] at k2
     rw [← k2]; simp
    ·have := (hFs 0 0 hpos (by omega)).1
     exact hF.1 _ _ this
    ·rintro e w' ⟨rfl, hb⟩
     exact ⟨_, F, rfl, .sc _, grown_below hF hb⟩
theorem count_is {s : ByteArray} {c : UInt8} : PureIs Tryz.prog 53 [.sc (.string s), .sc (.string ⟨#[c]⟩)] (.sc (.int .i64 (Lib.countByte s.data.toList c))) := by
 refine ⟨callable_of Tryz.func53 (by kernel_rfl) (by kernel_rfl), fun F w vals hF hi => ?_⟩
 obtain ⟨v, u, rfl, hv, hu⟩ := imms2 hi
 cases imm_sc hv; cases imm_sc hu
 refine callsIn_wide.2 ((sh_strings_Count_one s c w).mono ?_)
 rintro e w' ⟨rfl, rfl⟩
 exact ⟨_, F, rfl, .sc _, grown_below hF (.refl _ _)⟩
theorem last_is {s : ByteArray} {c : Int} (hs : s.size < 4611686018427387904) : PureIs Tryz.prog 54 [.sc (.string s), .sc (.int .u8 c)] (.sc (.int .i64 (Lib.lastIndexByte s c))) := by
 refine ⟨callable_of Tryz.func54 (by kernel_rfl) (by kernel_rfl), fun F w vals hF hi => ?_⟩
 obtain ⟨v, u, rfl, hv, hu⟩ := imms2 hi
 cases imm_sc hv; cases imm_sc hu
 refine callsIn_wide.2 ((sh_strings_LastIndexByte s c hs w).mono ?_)
 rintro e w' ⟨rfl, rfl⟩
 exact ⟨_, F, rfl, .sc _, grown_below hF (.refl _ _)⟩
theorem index_is {s : ByteArray} {c : Int} : PureIs Tryz.prog 93 [.sc (.string s), .sc (.int .u8 c)] (.sc (.int .i64 (Lib.indexByte s.data.toList c.toNat.toUInt8))) := by
 refine ⟨callable_of Tryz.func93 (by kernel_rfl) (by kernel_rfl), fun F w vals hF hi => ?_⟩
 obtain ⟨v, u, rfl, hv, hu⟩ := imms2 hi
 cases imm_sc hv; cases imm_sc hu
 refine callsIn_wide.2 ((sh_strings_IndexByte s c w).mono ?_)
 rintro e w' ⟨rfl, rfl⟩
 exact ⟨_, F, rfl, .sc _, grown_below hF (.refl _ _)⟩
def CloseOk (P : Program) (g : FuncId) (n : Nat) : Prop := callable P g ∧ ∀ (vs : Array Value) (w : World), vs.size = n → CallsDIn Fence.wide 0 P g vs .returning w fun e u w' => (∃ v, e = .returned v) ∧ u = .returning ∧ ∃ c t, w' = { w with heap := w.heap.push (.cells c t (0, 0)) }
def defO (o : Oper) : Option Nat := match o.op with
 | .defer ⟨.value (.tmp k), args, _⟩ => match o.guard, o.dst with
   | none, none => bif Nat.beq args.size 0 then some k else none
   | _, _ => none
 | _ => none
def defOf : Code → Option (Oper × Oper × Nat)
 | .region _ ops false => match ops.toList with
   | [o1, o2] => match defO o2 with
     | some k => some (o1, o2, k)
     | none => none
   | _ => none
 | _ => none
theorem defO_ok {o : Oper} {k : Nat} (h : defO o = some k) : o.guard = none ∧ o.dst = none ∧ ∃ tys, o.op = .defer ⟨.value (.tmp k), #[], tys⟩ := by
 unfold defO at h
 split at h
 ·rename_i k' args tys hop
  split at h
  ·rename_i hg hd
   rw [beq_dec, bif_inv] at h
   split at h
   ·rename_i hs
    cases h
    have : args = #[] := Array.eq_empty_of_size_eq_zero hs
    subst this
    exact ⟨hg, hd, tys, hop⟩
   ·cases h
  ·cases h
 ·cases h
theorem defOf_ok {c : Code} {o1 o2 : Oper} {k : Nat} (h : defOf c = some (o1, o2, k)) : (∃ id, c = .region id [o1, o2].toArray false) ∧ defO o2 = some k := by
 unfold defOf at h
 split at h
 ·rename_i id ops
  split at h
  ·rename_i p1 p2 hl
   split at h
   ·rename_i k' hk
    cases h
    exact ⟨⟨id, by rw [← hl, Array.toArray_toList]⟩, hk⟩
   ·cases h
  ·cases h
 ·cases h
noncomputable def evDefer (P : Program) (B : Tab) (n sz : Nat) : Nat → Code → ES → X (Exit × ES × Nat × Nat)
 | 0, _, _ => .er 9 none
 | m + 1, c, st => match c with
   | .seq x y => match defOf x with
     | some (o1, o2, k) => match evOps P (evCall P B (evC P B n true)) sz [o1, o2] [o1] st with
       | .ok s1 => match T.get .junk s1.tm k with
         | .fn g caps => bif Nat.blt g 1000000 then match evC P B n false 0 sz y s1 with
           | .ok (e, s2) => .ok (e, s2, g, caps.length)
           | .er n x => .er n x
           else .er 83 none
         | _ => .er 80 none
       | .er n x => .er n x
     | none => match evC P B n false 0 sz x st with
       | .ok (.normal, s1) => evDefer P B n sz m y s1
       | .ok _ => .er 81 none
       | .er n x => .er n x
   | _ => .er 82 none
section
variable {P : Program} {sz : Nat}
theorem evDefer_ok {B : Tab} (hB : TabOk P B) (hN : NoNum P) (hmix : P.follows .mixedOrders = true) (n : Nat) : ∀ (m : Nat) (c : Code) (s : ES) (e : Exit) (s2 : ES) (g nc : Nat) (st : St), Abs (allF 0 sz) s st → evDefer P B n sz m c s = .ok (e, s2, g, nc) →
  ∃ st2, Abs (allF 0 sz) s2 st2 ∧ ∀ (h0 : Nat) G0 F0 M0 w0 G F a w, Step (· < 0) G0 F0 M0 w0 G F st.mem w → SimA P (allF 0 sz) ⟨h0, none, some []⟩ G F st a w →
    c.wpIn (fc none) 0 P (fun e' a' w' => e' = e ∧ ∃ (vs : Array Value) (G' : Nat → Option Value) (F' : Nat → Nat → Prop), vs.size = nc ∧ SimA P (allF 0 sz) ⟨⟨h0, some (.func g, vs)⟩, none, some [{ target := .fn (.func g) vs, args := #[] }]⟩ G' F' st2 a' w' ∧ Step (· < 0) G0 F0 M0 w0 G' F' st2.mem w') a w
 | 0, _, _, _, _, _, _, _, _, h => by cases h
 | m + 1, c, s, e, s2, g, nc, st, A, h => by
   have hev := evC_ok hB hN hmix n
   cases c
   case seq x y =>
    simp only [evDefer] at h
    split at h
    ·rename_i o1 o2 k hd
     obtain ⟨⟨id, rfl⟩, hdo⟩ := defOf_ok hd
     obtain ⟨hg2, hd2, tys, hop⟩ := defO_ok hdo
     split at h
     ·rename_i s1 h1
      split at h
      ·rename_i g' caps hfn
       cases hlt : Nat.blt g' 1000000
       ·rw [hlt] at h; cases h
       rw [hlt] at h
       rw [blt_dec, decide_eq_true_eq] at hlt
       simp only [cond_true] at h
       split at h
       ·rename_i e' s2' h2
        cases h
        obtain ⟨st1, A1, _, k1⟩ := evOps_ok (evF_ok hB hN hmix n) _ _ _ A h1
        obtain ⟨st2, A2, k2, _⟩ := hev false 0 sz y s1 e s2 0 st1 (fun h => by cases h) A1 h2
        refine ⟨st2, A2, fun h0 G0 F0 M0 w0 G F a w S sA => ?_⟩
        refine wpIn_seq (wpIn_mono (Q := fun e1 a1 w1 => e1 = .normal ∧ ∃ (vs : Array Value) (G' : Nat → Option Value) (F' : Nat → Nat → Prop), vs.size = caps.length ∧ SimA P (allF 0 sz) ⟨⟨h0, some (.func g, vs)⟩, none, some [{ target := .fn (.func g) vs, args := #[] }]⟩ G' F' st1 a1 w1 ∧ Step (· < 0) G0 F0 M0 w0 G' F' st1.mem w1) (wpIn_region_lit ?_) ?_)
        ·have x1 := k1 none ⟨h0, none, some []⟩ (fun e' st' => e' = .normal ∧ st' = st1) ⟨rfl, rfl⟩ G0 F0 M0 w0 G F a w S sA
         refine wpListIn_append (l1 := [o1]) (l2 := [o2]) ?_ ?_ x1
         ·rintro a1 w1 ⟨G1, F1, st', s1A, S1, _, rfl⟩
          refine wpListIn_plain hg2 fun K hK => ?_
          refine ⟨fun _ _ => trivial, ?_⟩
          have hst : st'.get (allF 0 sz) k = .fn g caps := by
           rcases A1.slot k with h | h
           ·rw [hfn] at h; cases h
           ·rw [h, hfn]
          have hv := s1A.sim.slots k
          rw [hst] at hv
          obtain ⟨vs, hvv, hvl, _⟩ := hv.inv_fn0 hlt
          have hrun : (o2.semAt (fc none).round a1.eval).run P w1 = .ok (.defer { target := .fn (.func g) vs.toArray, args := #[] }) w1 := by
           have : a1.eval (.tmp k) = .func (.func g) #[] vs.toArray := hvv
           show (o2.semAt none a1.eval).run P w1 = _
           rw [Oper.semAt_none]
           obtain ⟨dst, op, ty, pos, after, guard⟩ := o2
           simp only at hop
           subst hop
           show (do let d ← Deferred.ofValue (a1.eval (.tmp k)) (Array.map a1.eval #[]); pure (.defer d) : Sem Next).run P w1 = _
           rw [this]
           simp only [Deferred.ofValue, Sem.run_bind, Sem.run_pure, Result.andThen_ok]
           simp
          rw [hrun, Oper.uponIn_defer]
          refine hK _ _ (wpListIn_nil ?_)
          have hdf : a1.defers = [] := s1A.defers.2.2.1 [] rfl
          rw [hd2]
          refine ⟨rfl, vs.toArray, G1, F1, by simpa using hvl, ⟨⟨s1A.sim.mem, s1A.sim.slots, s1A.sim.size⟩, s1A.fresh, ?_⟩, S1⟩
          show Marks _ (_ :: a1.defers) w1
          rw [hdf]
          exact ⟨⟨[], rfl, .nil, fun _ h => by cases h⟩, fun _ h => (by cases h), fun L h => by cases h; rfl, s1A.defers.2.2.2⟩
         ·rintro e1 a1 w1 he ⟨_, _, _, _, _, h3, _⟩
          exact absurd h3 he
        ·rintro e1 a1 w1 ⟨rfl, vs, G1, F1, hvl, s1A, S1⟩
         refine wpIn_mono (k2 none _ (fun e' st' => e' = e ∧ st' = st2) rfl (fun h => by cases h) ⟨rfl, rfl⟩ G0 F0 M0 w0 G1 F1 a1 w1 S1 s1A) ?_
         rintro e2 a2 w2 ⟨G2, F2, st', s2A, S2, rfl, rfl⟩
         exact ⟨rfl, vs, G2, F2, hvl, s2A, S2⟩
       ·cases h
      ·cases h
     ·cases h
    ·split at h
     ·rename_i s1 h1
      obtain ⟨st1, A1, k1, _⟩ := hev false 0 sz x s .normal s1 0 st (fun h => by cases h) A h1
      obtain ⟨st2, A2, k2⟩ := evDefer_ok hB hN hmix n m y s1 e s2 g nc st1 A1 h
      refine ⟨st2, A2, fun h0 G0 F0 M0 w0 G F a w S sA => wpIn_seq (wpIn_mono (k1 none ⟨h0, none, some []⟩ (fun e' st' => e' = .normal ∧ st' = st1) rfl (fun h => by cases h) ⟨rfl, rfl⟩ G0 F0 M0 w0 G F a w S sA) ?_)⟩
      rintro e1 a1 w1 ⟨G1, F1, st', s1A, S1, rfl, rfl⟩
      exact k2 h0 G0 F0 M0 w0 G1 F1 a1 w1 S1 s1A
     ·cases h
     ·cases h
   all_goals (simp only [evDefer] at h; cases h)
end
noncomputable def evPD (P : Program) (B : Tab) (n m d f : Nat) (xs : List AV) : Option (AV × Nat × Nat) := match P.funcs[f]? with
 | some fn => match fn.body with
   | some b => bif Nat.ble xs.length fn.ntmps && Nat.blt f 1000000 then match evDefer P B n fn.ntmps m b (es0 xs (T.mk none d) 0) with
     | .ok (e, s2, g, nc) => bif endT e then match resTs P s2 fn.results.toList with
       | some rs => match frzV 20 s2.mem (mkRes rs) with
         | some (y, _) => some (y, g, nc)
         | none => none
       | none => none
       else none
     | .er _ _ => none
     else none
   | none => none
 | none => none
theorem PureIs.evD {P : Program} {B : Tab} {n m d f g nc : Nat} {xs : List AV} {r : AV} (hB : TabOk P B) (hN : NoNum P) (hmix : P.follows .mixedOrders = true) (h : evPD P B n m d f xs = some (r, g, nc)) (hcl : CloseOk P g nc) : PureIs P f xs r := by
 unfold evPD at h
 split at h
 ·rename_i fn hf
  split at h
  ·rename_i c hb
   rw [ble_dec, blt_dec, ← Bool.decide_and, bif_inv] at h
   split at h
   ·rename_i hsz
    obtain ⟨hsz, hlt⟩ := hsz
    split at h
    ·rename_i e s2 g' nc' hev
     cases he : endT e
     ·rw [he] at h; cases h
     ·rw [he] at h
      simp only [cond_true] at h
      split at h
      ·rename_i rs hrs
       split at h
       ·rename_i y m2 hz
        cases h
        have hnm := hN _ _ hf
        obtain ⟨st2, A2, hgo⟩ := evDefer_ok hB hN hmix n m c _ _ _ _ _ ⟨vars0 0 xs, [], [], 0⟩ (es0_abs (base := 0) (sz := fn.ntmps) (mOk_nil d) hsz) hev
        refine CallTo.pureIs (M' := st2.mem) (nx' := st2.nx) ?_ A2.mem hz
        refine ⟨callable_of hf hnm (by rw [hb]; rfl), fun G F w vals hm hfr hi => ?_⟩
        have s0 : SimA P (allF 0 fn.ntmps) ⟨w.heap.size, none, some []⟩ G F ⟨vars0 0 xs, [], [], 0⟩ { tmps := vals.toArray ++ Array.replicate (fn.ntmps - vals.toArray.size) undef, defers := [] } w := by
         refine ⟨⟨hm, fun k => ?_, by have := hi.1; simp [allF]; omega⟩, hfr, Marks.none w.heap.size true w (Nat.le_refl _)⟩
         have key : ∀ x, (x = .junk ∨ ∃ h : k < xs.length, x = xs[k]) → RV G F [] w ((vals.toArray ++ Array.replicate (fn.ntmps - vals.toArray.size) undef).getD k undef) x := by
          rintro x (rfl | ⟨hk, rfl⟩)
          ·exact .imm (.junk _)
          ·have hl := hi.1
           have : (vals.toArray ++ Array.replicate (fn.ntmps - vals.toArray.size) undef).getD k undef = vals[k]'(by omega) := by
            rw [Array.getD_eq_getD_getElem?, Array.getElem?_append_left (by simp; omega)]
            simp [List.getElem?_eq_getElem (show k < vals.length by omega)]
           rw [this]
           exact hi.2 k (by omega) hk
         refine key _ ?_
         unfold St.get
         split
         ·rcases alook_vars0 xs 0 k with h | ⟨h1, h2, h3⟩
          ·exact .inl h
          ·exact .inr ⟨by simpa using h1, by simpa using h3⟩
         ·exact .inl rfl
        refine callsIn_of_wp_marks (F := Fence.wide) hf hb trivial (wpIn_mono (hgo w.heap.size G F [] w G F _ w .refl s0) ?_)
        rintro e' a' w' ⟨rfl, vs, G', F', hvs, s', S'⟩
        have SA := S'.all hfr
        have hdf : a'.defers = [{ target := .fn (.func g) vs, args := #[] }] := s'.defers.2.2.1 _ rfl
        have hlv : LeavesInM Fence.wide 0 P fn a'.tmps (fun e w2 => ∃ u G' F', e = .returned u ∧ RV G' F' st2.mem w2 u (mkRes rs) ∧ SimM P G' F' st2.mem st2.nx w2 ∧ (∀ j, st2.nx ≤ j → G' j = none) ∧ Step All G F [] w G' F' st2.mem w2) a'.defers .returning w' := by
         rw [hdf]
         refine ⟨(by intro h; cases h), .inr ⟨fun h => by simp [Fence.wide] at h, .func g, vs, g, vs, rfl, ?_, fun _ _ => trivial, ?_⟩⟩
         ·have := hcl.1.2 vs w'
          simp only [invoke]
          simpa using this
         ·refine (hcl.2 vs w' hvs).mono ?_
          rintro e1 u1 w1 ⟨⟨v, rfl⟩, rfl, cc, t, rfl⟩
          have hk : ∀ (b : Nat) (o : Obj), w'.heap[b]? = some o → isData o = true → ({ w' with heap := w'.heap.push (.cells cc t (0, 0)) } : World).heap[b]? = some o := fun b o hb ho => by
           have := (Array.getElem?_eq_some_iff.1 hb).1
           show (w'.heap.push _)[b]? = _
           rw [Array.getElem?_push_lt this, ← Array.getElem?_eq_getElem this, hb]
          have hsz2 : w'.heap.size ≤ ({ w' with heap := w'.heap.push (.cells cc t (0, 0)) } : World).heap.size := by simp
          have hm2 := s'.sim.mem.keepData hk hsz2
          have s2A : SimA P (allF 0 fn.ntmps) ⟨w.heap.size, none, false⟩ G' F' st2 { a' with defers := [] } { w' with heap := w'.heap.push (.cells cc t (0, 0)) } :=
           ⟨⟨hm2, fun k => (s'.sim.slots k).keepData hk, s'.sim.size⟩, s'.fresh, Marks.none w.heap.size false _ (Nat.le_trans SA.size hsz2)⟩
          obtain ⟨u, hu, hru⟩ := resultsR_ok s2A (resTs_ok A2 hrs)
          exact ⟨u, hu, u, G', F', rfl, hru, hm2, s'.fresh, SA.allocs hsz2 (fun b hb => by
           show (w'.heap.push _)[b]? = _
           rw [Array.getElem?_push_lt hb, ← Array.getElem?_eq_getElem hb]) s'.sim.mem.inF (.push rfl)⟩
        rcases endT_ok he with rfl | rfl
        ·exact hlv
        ·exact hlv
       ·cases h
      ·cases h
    ·cases h
   ·cases h
  ·cases h
 ·cases h
end Go.Avl
