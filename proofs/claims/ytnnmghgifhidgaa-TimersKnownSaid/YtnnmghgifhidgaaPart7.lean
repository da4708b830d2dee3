/-
  The unfolded machine is closed: what its rows say.
  TimersPlain: the law's contract.
  Replies are what the unfolded machine answers; machines that do not differ answer alike.
  TimersUnfold: the law's contract.
  TimersEqual: the law's contract.
  TimersErrors: the law's contract.
  TimersKnown: closed facts of the plain specs.
  A call by its body: the callee works on the caller's own objects, and may hand back new ones.
  Functions whose result is read from new cells alone; calls that lend objects.
  Contracts with a result in new cells, from a body.
-/
import Derived.Test.YtnnmghgifhidgaaPart6
set_option linter.unusedSimpArgs false
set_option linter.unusedVariables false
set_option linter.unnecessarySimpa false
set_option linter.deprecated false
namespace Go.Avl
open Go Go.Proofs.Try
set_option maxRecDepth 10000
set_option linter.unusedSimpArgs false

theorem stepR_end {m : Mach} (hv : Valid m) {s a : Int} (h0 : 0 ≤ s) (hs : s < m.rows.length) (ha : 0 ≤ a ∧ a < m.ins) : ((stepR m s a).1 = -1 ∧ (stepR m s a).2 = -1) ∨ (0 ≤ (stepR m s a).1 ∧ (stepR m s a).1 < m.rows.length) := by
  obtain ⟨r, e, _, _, h3, h4⟩ := stepR_get hv h0 hs ha
  rw [h3]
  rcases fits_none h4 with h | h
  · exact .inl h
  · exact .inr ⟨h.1, h.2.1⟩

/-- An entry of a row, against a list of configurations. -/
def Ent (x : Timed) (L : List Cfg) (c : Cfg) (i : Int) (e : Int × Int) : Prop :=
  e.2 = (cfgStep x c i).2 ∧ (((cfgStep x c i).1.1 < 0 ∧ e.1 = -1) ∨ (0 ≤ (cfgStep x c i).1.1 ∧ 0 ≤ e.1 ∧ L[e.1.toNat]? = some (cfgStep x c i).1))
def Pre (l L : List Cfg) : Prop := ∀ (j : Nat) d, l[j]? = some d → L[j]? = some d
theorem Pre.refl (l : List Cfg) : Pre l l := fun _ _ h => h
theorem Pre.trans {a b c : List Cfg} (h : Pre a b) (k : Pre b c) : Pre a c := fun j d hd => k j d (h j d hd)
theorem Ent.pre {x : Timed} {l L : List Cfg} {c : Cfg} {i : Int} {e : Int × Int} (h : Ent x l c i e) (p : Pre l L) : Ent x L c i e :=
  ⟨h.1, h.2.imp id fun h => ⟨h.1, h.2.1, p _ _ h.2.2⟩⟩
theorem addC_nd {c : Cfg} {l : List Cfg} (h : l.Nodup) : (addC c l).Nodup := by
  unfold addC
  split
  · exact h
  · rename_i hc
    rw [List.nodup_append]
    refine ⟨h, by simp, fun a ha b hb e => ?_⟩
    simp only [List.mem_singleton] at hb
    subst hb; subst e
    exact hc ha
theorem idxC_out {c : Cfg} : ∀ {l : List Cfg}, c ∉ l → idxC c l = l.length
  | [], _ => rfl
  | d :: l, h => by
    simp only [List.mem_cons, not_or] at h
    simp only [idxC, List.length_cons]
    rw [if_neg (fun e => h.1 e.symm), idxC_out h.2]
theorem addC_idx (c : Cfg) (l : List Cfg) : (addC c l)[idxC c l]? = some c := by
  unfold addC
  split
  · rename_i h; exact idxC_get h
  · rename_i h
    rw [idxC_out h, List.getElem?_append_right (Nat.le_refl _), Nat.sub_self]; rfl
theorem entU_ok {x : Timed} (c : Cfg) (i : Int) (l : List Cfg) : Ent x (entU x c i l).2 c i (entU x c i l).1 ∧ Pre l (entU x c i l).2 ∧ (l.Nodup → (entU x c i l).2.Nodup) := by
  unfold entU
  split
  · rename_i h; exact ⟨⟨rfl, .inl ⟨h, rfl⟩⟩, .refl _, id⟩
  · rename_i h
    exact ⟨⟨rfl, .inr ⟨by omega, by simp, by simpa using addC_idx _ l⟩⟩, fun j d hd => addC_get hd, addC_nd⟩
theorem rowU_ok {x : Timed} (c : Cfg) : ∀ (n i : Nat) (l : List Cfg), Pre l (rowU x c n i l).2 ∧ (l.Nodup → (rowU x c n i l).2.Nodup) ∧ ∀ k, k < n → ∃ e, (rowU x c n i l).1[k]? = some e ∧ Ent x (rowU x c n i l).2 c ((i + k : Nat) : Int) e
  | 0, _, l => ⟨.refl _, id, fun k h => by omega⟩
  | n + 1, i, l => by
    obtain ⟨h1, h2, h3⟩ := entU_ok (x := x) c i l
    obtain ⟨k1, k2, k3⟩ := rowU_ok (x := x) c n (i + 1) (entU x c i l).2
    simp only [rowU]
    refine ⟨h2.trans k1, fun h => k2 (h3 h), fun k hk => ?_⟩
    cases k with
    | zero => exact ⟨_, rfl, by simpa using h1.pre k1⟩
    | succ k =>
      obtain ⟨e, q1, q2⟩ := k3 k (by omega)
      exact ⟨e, by simpa using q1, by rw [show i + (k + 1) = i + 1 + k by omega]; exact q2⟩
theorem unfR_ok {x : Timed} (hv : ValidT x) (hB : ∀ l, l.Nodup → GoodCs x l → l.length ≤ 64) : ∀ (f n : Nat) (l : List Cfg), f + n = 100 → n ≤ l.length → l.Nodup → GoodCs x l →
    Pre l (unfR x f n l).2 ∧ (unfR x f n l).2.Nodup ∧ GoodCs x (unfR x f n l).2 ∧ (unfR x f n l).1.length + n = (unfR x f n l).2.length ∧
      ∀ k, k < (unfR x f n l).1.length → ∃ row c, (unfR x f n l).1[k]? = some row ∧ (unfR x f n l).2[n + k]? = some c ∧ row.length = x.m.ins.toNat + 1 ∧
        ∀ i : Nat, i < x.m.ins.toNat + 1 → ∃ e, row[i]? = some e ∧ Ent x (unfR x f n l).2 c i e
  | 0, n, l, hf, hn, hd, hg => by have := hB l hd hg; omega
  | f + 1, n, l, hf, hn, hd, hg => by
    have hlen := hB l hd hg
    simp only [unfR]
    cases hc : l[n]? with
    | none =>
      have : l.length ≤ n := by simpa using hc
      exact ⟨.refl _, hd, hg, by simp; omega, fun k h => by simp at h⟩
    | some c =>
      have hnl := (List.getElem?_eq_some_iff.1 hc).1
      simp only [if_neg (show ¬ 64 < l.length by omega)]
      obtain ⟨h1, h2, h3⟩ := rowU_ok (x := x) c (x.m.ins.toNat + 1) 0 l
      have h4 := rowU_len x c (x.m.ins.toNat + 1) 0 l
      have hgc : GoodC x c := hg c (List.mem_of_getElem? hc)
      obtain ⟨k1, k2, k3, k4, k5⟩ := unfR_ok hv hB f (n + 1) (rowU x c (x.m.ins.toNat + 1) 0 l).2 (by omega) (by omega) (h2 hd) (hg.row hv hgc _ _ _)
      refine ⟨h1.trans k1, k2, k3, by simp only [List.length_cons]; omega, fun k hk => ?_⟩
      cases k with
      | zero =>
        refine ⟨_, c, rfl, k1 _ _ (h1 _ _ (by simpa using hc)), h4.2.2, fun i hi => ?_⟩
        obtain ⟨e, q1, q2⟩ := h3 i hi
        exact ⟨e, q1, by simpa using q2.pre k1⟩
      | succ k =>
        obtain ⟨row, c', q1, q2, q3, q4⟩ := k5 k (by simpa using hk)
        exact ⟨row, c', by simpa using q1, by rw [show n + (k + 1) = n + 1 + k by omega]; exact q2, q3, q4⟩

/-- Bounded: the configurations are few. -/
def Few (x : Timed) : Prop := ∀ l : List Cfg, l.Nodup → GoodCs x l → l.length ≤ 64
theorem unf_ok {x : Timed} (hv : ValidT x) (hB : Few x) : (unfAll x).2[0]? = some (0, 0) ∧ (unfAll x).2.length ≤ 64 ∧ GoodCs x (unfAll x).2 ∧ (unfAll x).1.length = (unfAll x).2.length ∧
    ∀ (j : Nat) c, (unfAll x).2[j]? = some c → ∃ row, (unfAll x).1[j]? = some row ∧ row.length = x.m.ins.toNat + 1 ∧ ∀ i : Nat, i < x.m.ins.toNat + 1 → ∃ e, row[i]? = some e ∧ Ent x (unfAll x).2 c i e := by
  obtain ⟨h1, h2, h3, h4, h5⟩ := unfR_ok hv hB 100 0 [(0, 0)] rfl (by simp) (by simp) (fun c hc => by rw [List.mem_singleton.1 hc]; exact .zero hv)
  refine ⟨h1 0 _ rfl, hB _ h2 h3, h3, by simpa [unfAll] using h4, fun j c hc => ?_⟩
  have hj := (List.getElem?_eq_some_iff.1 hc).1
  have h40 : (unfAll x).1.length = (unfAll x).2.length := by simpa [unfAll] using h4
  have hj1 : j < (unfAll x).1.length := by omega
  obtain ⟨row, c', q1, q2, q3, q4⟩ := h5 j hj1
  rw [Nat.zero_add] at q2
  have : c' = c := Option.some.inj (q2.symm.trans hc)
  subst this
  exact ⟨row, q1, q3, q4⟩

/-- What the configurations answer: None for ever behind an end. -/
def runCf (x : Timed) : Option Cfg → List Int → List Int
  | _, [] => []
  | none, _ :: w => -1 :: runCf x none w
  | some c, a :: w => (cfgStep x c a).2 :: runCf x (if (cfgStep x c a).1.1 < 0 then none else some (cfgStep x c a).1) w
theorem unf_step {x : Timed} (hv : ValidT x) (hB : Few x) {j : Nat} {c : Cfg} (hj : (unfAll x).2[j]? = some c) {a : Int} (ha : 0 ≤ a ∧ a ≤ x.m.ins) :
    Ent x (unfAll x).2 c a (stepR (unfMach x) j a) := by
  obtain ⟨row, h1, h2, h3⟩ := (unf_ok hv hB).2.2.2.2 j c hj
  obtain ⟨e, k1, k2⟩ := h3 a.toNat (by omega)
  rw [show ((a.toNat : Nat) : Int) = a by omega] at k2
  have : stepR (unfMach x) j a = e := by
    unfold stepR
    rw [if_neg (by omega)]
    simp only [unfMach, Int.toNat_natCast, List.getElem?_map, h1, Option.map_some, Option.getD_some, k1]
  rw [this]; exact k2
theorem runR_neg (m : Mach) : ∀ (w : List Int), runR m (-1) w = w.map fun _ => -1
  | [] => rfl
  | a :: w => by
    have : stepR m (-1) a = (-1, -1) := by unfold stepR; rw [if_pos (by omega)]
    simp only [runR, this, runR_neg m w, List.map_cons]
theorem runCf_none (x : Timed) : ∀ w, runCf x none w = w.map fun _ => -1
  | [] => rfl
  | _ :: w => by simp only [runCf, runCf_none x w, List.map_cons]
theorem runR_unf {x : Timed} (hv : ValidT x) (hB : Few x) : ∀ (w : List Int) (j : Nat) (c : Cfg), (∀ a ∈ w, 0 ≤ a ∧ a ≤ x.m.ins) → (unfAll x).2[j]? = some c → runR (unfMach x) j w = runCf x (some c) w
  | [], _, _, _, _ => rfl
  | a :: w, j, c, hw, hj => by
    have ha := hw a List.mem_cons_self
    obtain ⟨h1, h2⟩ := unf_step hv hB hj ha
    simp only [runR, runCf, h1]
    rcases h2 with ⟨h2, h3⟩ | ⟨h2, h3, h4⟩
    · rw [h3, if_pos h2, runR_neg, runCf_none]
    · rw [if_neg (by omega)]
      have := runR_unf hv hB w (stepR (unfMach x) j a).1.toNat _ (fun a ha => hw a (List.mem_cons_of_mem _ ha)) h4
      rw [show ((stepR (unfMach x) j a).1.toNat : Int) = (stepR (unfMach x) j a).1 by omega] at this
      rw [this]
theorem unf_valid {x : Timed} (hv : ValidT x) (hB : Few x) (hi : x.m.ins ≤ 15) (ho : x.m.outs ≤ 15) : checkM (unfMach x) = 0 := by
  obtain ⟨h1, h2, h3, h4, h5⟩ := unf_ok hv hB
  have hl : (unfMach x).rows.length = (unfAll x).2.length := by simp [unfMach, h4]
  have h0 : 0 < (unfAll x).2.length := (List.getElem?_eq_some_iff.1 h1).1
  have hi1 := hv.m.ins
  have ho1 := hv.m.outs
  have e1 : (unfMach x).ins = x.m.ins + 1 := rfl
  have e2 : (unfMach x).outs = x.m.outs + 1 := rfl
  unfold checkM
  rw [if_neg (by omega), if_neg (by omega), if_pos]
  rw [List.all_eq_true]
  intro r hr
  obtain ⟨r', hr', rfl⟩ := List.mem_map.1 (show r ∈ (unfAll x).1.map fun r => (false, r) from hr)
  obtain ⟨j, hj, rfl⟩ := List.getElem_of_mem hr'
  obtain ⟨row, k1, k2, k3⟩ := h5 j _ (List.getElem?_eq_getElem (show j < (unfAll x).2.length by omega))
  rw [List.getElem?_eq_getElem hj] at k1
  cases k1
  simp only [rowOk, Bool.and_eq_true, decide_eq_true_eq, Bool.not_eq_true', List.any_eq_false]
  refine ⟨by rw [e1, k2]; omega, fun e he => ?_⟩
  obtain ⟨i, hi, rfl⟩ := List.getElem_of_mem he
  obtain ⟨e', q1, q2, q3⟩ := k3 i (by omega)
  rw [List.getElem?_eq_getElem hi] at q1
  cases q1
  have hg := cfgStep_good hv (h3 _ (List.getElem_mem (show j < (unfAll x).2.length by omega))) (i := (i : Int)) (by omega)
  rw [hl, e2]
  unfold fitsR
  rcases q3 with ⟨q3, q4⟩ | ⟨q3, q4, q5⟩
  · rcases hg with hg | hg
    · have := hg.1.st.1; omega
    · simp [q4, q2, hg.2.1]
  · have hlt := (List.getElem?_eq_some_iff.1 q5).1
    rcases hg with hg | hg
    · simp [q4, q2, hg.2.1]; omega
    · omega
end Go.Avl
namespace Go.Avl
open Go Go.Proofs.Try
set_option maxRecDepth 10000
set_option linter.unusedSimpArgs false

/-- A machine without timers. -/
def LM.plain (x : LM) : LT := ⟨x, true, [], .zer⟩
theorem LM.plain_ok {x : LM} (h : x.Ok) : x.plain.Ok := ⟨h, fun t ht => by cases ht⟩
theorem LM.plain_tim (x : LM) (s : Int) : timAt x.plain.timed s = (0, 0, 0) := by
  unfold timAt
  cases h : x.plain.timed.ts[s.toNat]? with
  | none => rfl
  | some t =>
    have := List.mem_of_getElem? h
    obtain ⟨k, _, rfl⟩ := List.mem_map.1 (show t ∈ (List.range x.n).map x.plain.tim from this)
    rfl
def plainP (m : Mach) : List Evt → Int → Int → List Rep
  | [], _, _ => []
  | e :: es, s, now => if (stepR m s e.2).1 = -1 then [(now + e.1, (stepR m s e.2).2)] else (now + e.1, (stepR m s e.2).2) :: plainP m es (stepR m s e.2).1 (now + e.1)
theorem ticksP_plain {x : Timed} (h : ∀ s, timAt x s = (0, 0, 0)) : ∀ (k : Nat) (c : Cfg) (now : Int) (out : List Rep), ticksP x k c now out = (c, out)
  | 0, _, _, _ => rfl
  | k + 1, c, now, out => by
    have e : tick1 x c now out = (c, out) := by unfold tick1; rw [h]; rfl
    rw [ticksP, e]; exact ticksP_plain h k c _ out
theorem runP_plain {x : Timed} (h : ∀ s, timAt x s = (0, 0, 0)) : ∀ (es : List Evt) (s now : Int) (out : List Rep), runP x es (s, 0) now out = out ++ plainP x.m es s now
  | [], _, _, out => by simp [runP, plainP]
  | e :: es, s, now, out => by
    simp only [runP, plainP, ticksP_plain h]
    split
    · rfl
    · rw [runP_plain h es]; simp
def nowAt (es : List Evt) : Nat → Int
  | 0 => 0
  | i + 1 => nowAt es i + ((es[i]?).getD (0, 0)).1
theorem nowAt_cons (e : Evt) (es : List Evt) : ∀ i, nowAt (e :: es) (i + 1) = e.1 + nowAt es i
  | 0 => by simp [nowAt]
  | i + 1 => by rw [nowAt, nowAt_cons e es i, nowAt]; simp only [List.getElem?_cons_succ]; omega
def lastR (r : List Rep) : Int := ((r.getLast?).getD (0, 0)).2
theorem plainP_len (m : Mach) : ∀ (es : List Evt) (s now : Int), (plainP m es s now).length ≤ es.length
  | [], _, _ => Nat.le_refl _
  | e :: es, s, now => by
    have := plainP_len m es (stepR m s e.2).1 (now + e.1)
    simp only [plainP]; split <;> simp <;> omega
theorem plainP_ok {m : Mach} (hv : Valid m) : ∀ (es : List Evt) (s now : Int), 0 ≤ s → s < m.rows.length → (∀ e ∈ es, 0 ≤ e.2 ∧ e.2 < m.ins) → ∀ i, i < es.length →
    (i < (plainP m es s now).length → (plainP m es s now)[i]? = some (now + nowAt es (i + 1), ((runR m s (es.map (·.2)))[i]?).getD 0)) ∧ ((plainP m es s now).length ≤ i → lastR (plainP m es s now) = -1)
  | [], _, _, _, _, _, i, hi => by simp at hi
  | e :: es, s, now, h0, hs, he, i, hi => by
    have h1 := stepR_end hv h0 hs (he e List.mem_cons_self)
    simp only [plainP, List.map_cons, runR]
    by_cases hq : (stepR m s e.2).1 = -1
    · rw [if_pos hq]
      have h2 : (stepR m s e.2).2 = -1 := by omega
      cases i with
      | zero => simp [nowAt]
      | succ i => simp [lastR, h2]
    · rw [if_neg hq]
      cases i with
      | zero => simp [nowAt]
      | succ i =>
        have ih := plainP_ok hv es (stepR m s e.2).1 (now + e.1) (by omega) (by omega) (fun e' h' => he e' (List.mem_cons_of_mem _ h')) i (by simpa using hi)
        simp only [List.length_cons, List.getElem?_cons_succ, Nat.add_lt_add_iff_right, Nat.add_le_add_iff_right, nowAt_cons e es (i + 1)]
        refine ⟨fun h => by rw [ih.1 h, Int.add_assoc], fun h => ?_⟩
        have h3 := ih.2 h
        unfold lastR at h3 ⊢
        rw [List.getLast?_cons]
        cases hl : (plainP m es (stepR m s e.2).1 (now + e.1)).getLast? with
        | none => rw [hl] at h3; simp at h3
        | some r => rw [hl] at h3; simpa using h3
theorem runR_len (m : Mach) : ∀ (w : List Int) (s : Int), (runR m s w).length = w.length
  | [], _ => rfl
  | a :: w, s => by simp [runR, runR_len m w]
theorem nowAt_ok {es : List Evt} (h : ∀ e ∈ es, 0 ≤ e.1 ∧ e.1 < 20) : ∀ i, 0 ≤ nowAt es i ∧ nowAt es i ≤ 20 * i
  | 0 => by simp [nowAt]
  | i + 1 => by
    have ih := nowAt_ok h i
    rw [nowAt]
    cases he : es[i]? with
    | none => simp; omega
    | some e => have := h e (List.mem_of_getElem? he); simp; omega

theorem timersPlain_is {x : LM} (h : x.Ok) {l : List (Int × Int)} (hl : U8s l) (nl : Bool) (c : Cp) : PureIs prog 6 [.ag x.cells, .sl nl (l.map u8C2) c] (.sc (.bool true)) := by
  refine PureIs.of (nv := 3) (hid := [4, 5, 6, 7, 8, 9, 10, 11, 12, 13, 14, 15, 27, 56, 60, 71, 115]) func6 rfl (by kernel_rfl) (by simp [ntmps6]) fun _ => ?_
  rw [ntmps6, results6]
  have hP := LM.plain_ok h
  obtain ⟨b1, b2, b3, b4, b5, b6, b7, b8⟩ := LM.bounds h
  obtain ⟨q1, _, _⟩ := run_plain hP hl
  have hv : Valid x.mach := (ValidT.of (LT.timed_ok hP)).m
  have hin : x.mach.ins = x.i := rfl
  have hmr : x.mach.rows.length = x.n := by simp [LM.mach]
  have he := evsOf_ok (ins := x.i) (by omega) hl
  have hlen := evsOf_len x.i l
  have k1 := tOf_is hP
  have k2 := evsOf_is nl l c x.i (by omega) hl
  have e1 : (x.plain.m.i : Int) = x.i := rfl
  rw [e1] at q1
  generalize evsOf x.i l = es at q1 he hlen k2
  have k3 := run_is x.plain.timed (LT.small hP).1 (LT.small hP).2 es.isEmpty es .unk (by omega)
  rw [q1, runP_plain (LM.plain_tim x)] at k3
  have hpm : x.plain.timed.m = x.mach := rfl
  rw [hpm, List.nil_append] at k3
  generalize x.plain.timed = pt at k1 k3 hpm
  have hok := plainP_ok hv es 0 0 (Int.le_refl _) (by omega) (fun e h' => by rw [hin]; have := he e h'; omega)
  have hT := plainP_len x.mach es 0 0
  have k4 := run04_is hv 0 (by omega) (es.length == 0) (es.map (·.2)) .unk (fun a ha => by obtain ⟨e, h', rfl⟩ := List.mem_map.1 ha; rw [hin]; have := he e h'; omega) (by simp; omega)
  have hO : (runR x.mach 0 (es.map (·.2))).length = es.length := by simp [runR_len]
  have hnow := nowAt_ok (es := es) fun e h' => ⟨(he e h').1, (he e h').2.1⟩
  generalize plainP x.mach es 0 0 = T at hok hT k3
  generalize runR x.mach 0 (es.map (·.2)) = O at hok hO k4
  refine EvC.seq (EvC.rg (by (simp only [go_sem, LM.cells]) <;> rfl) (by simp) ?_)  -- R0
  refine EvC.frzB 0 (by (simp only [go_sem]) <;> rfl) ?_
  apply EvC.seq  -- R1
  apply EvC.tr
  · apply Tr.run
    · (simp only [go_sem]) <;> rfl
    · simp
    apply Tr.cons
    · exact .call rfl rfl (by (simp only [go_sem]) <;> rfl) (by (simp only [go_sem]) <;> rfl) (by (simp only [go_sem]) <;> rfl) (by (simp only [go_sem]) <;> rfl) (by (simp only [go_sem]) <;> rfl) (by simpa [LT.cells, LM.plain, LM.cells] using k1)
    apply Tr.done
    · (simp only [go_sem, Timed.cells]) <;> rfl
    · simp
  apply EvC.seq  -- R2
  apply EvC.tr
  · apply Tr.run
    · (simp only [go_sem]) <;> rfl
    · simp
    apply Tr.cons
    · exact .call rfl rfl (by (simp only [go_sem]) <;> rfl) (by (simp only [go_sem]) <;> rfl) (by (simp only [go_sem]) <;> rfl) (by (simp only [go_sem]) <;> rfl) (by (simp only [go_sem]) <;> rfl) (by simpa [hpm, hin] using k2)
    apply Tr.done
    · (simp only [go_sem]) <;> rfl
    · simp
  refine EvC.seq (EvC.rg (by (simp only [go_sem]) <;> rfl) (by simp) ?_)  -- R3
  refine EvC.seq ?_
  refine EvC.seq (EvC.rg (by (simp only [go_sem]) <;> rfl) (by simp) ?_)  -- R4
  refine EvC.block ?_  -- 0
  refine EvC.loopS (σ := Nat) (fun i => ⟨[(5, .rf 0 0), (6, .sl es.isEmpty (es.map edgeC) .unk), (7, .tl 1 i (i == 0)), (8, .sc (.int .i64 i))], [],
      [(0, .cells [.sc (.int .i64 pt.m.ins), .sc (.int .i64 pt.m.outs), .sl pt.m.nl (pt.m.rows.map rowC) .unk, .sl pt.tnl (pt.ts.map timC) .unk]), (1, .arr 1 (((es.take i).map (·.2)).map intC) true)], 2⟩) (fun i => es.length - i)
    (fun i => i ≤ es.length) [5, 6, 7, 8] 2 ?_ ?_
  · refine ⟨[(5, 0), (13, 1)], 0, rfl, (by (simp only [go_sem]) <;> rfl), Nat.zero_le _⟩
  intro i hi
  have hli : (((es.take i).map (·.2)).map intC).length = i := by simp; omega
  have hi0 : (i + 1 == 0) = false := rfl
  refine EvC.seq ?_
  refine EvC.seq (EvC.rg (by (simp only [go_sem]) <;> rfl) (by simp) ?_)  -- R5
  refine EvC.cond (by (simp only [go_sem]) <;> rfl) (fun hc => ?_) (fun hc => ?_)
  rotate_left
  · -- else
    refine EvC.exit ?_  -- 0
    have hil : i = es.length := by simp at hc; omega
    subst hil
    have e0 : es.take es.length = es := List.take_length
    refine EvC.frz 1 (by (simp only [go_sem, hli]) <;> rfl) ?_
    apply EvC.seq  -- R8
    apply EvC.tr
    · apply Tr.run
      · (simp only [go_sem]) <;> rfl
      · simp
      apply Tr.cons
      · exact .call rfl rfl (by (simp only [go_sem]) <;> rfl) (by (simp only [go_sem]) <;> rfl) (by (simp only [go_sem]) <;> rfl) (by (simp only [go_sem]) <;> rfl) (by (simp only [go_sem]) <;> rfl) (by simpa [Timed.cells] using k3)
      apply Tr.done
      · (simp only [go_sem]) <;> rfl
      · simp
    apply EvC.seq  -- R9
    apply EvC.tr
    · apply Tr.run
      · (simp only [go_sem]) <;> rfl
      · simp
      apply Tr.cons
      · exact .call rfl rfl (by (simp only [go_sem]) <;> rfl) (by (simp only [go_sem]) <;> rfl) (by (simp only [go_sem]) <;> rfl) (by (simp only [go_sem]) <;> rfl) (by (simp only [go_sem]) <;> rfl) (by simpa [Mach.cells, hpm, e0] using k4)
      apply Tr.done
      · (simp only [go_sem]) <;> rfl
      · simp
    refine EvC.seq ?_
    apply EvC.seq  -- R10
    apply EvC.trd
    · (simp only [go_sem]) <;> rfl
    · simp
    refine EvC.cond (by (simp only [go_sem]) <;> rfl) (fun hc => ?_) (fun hc => ?_)
    · -- then
      exfalso
      simp at hc
      omega
    refine EvC.skip ?_
    refine EvC.seq (EvC.rg (by (simp only [go_sem]) <;> rfl) (by simp) ?_)  -- R12
    refine EvC.seq ?_
    refine EvC.seq (EvC.rg (by (simp only [go_sem]) <;> rfl) (by simp) ?_)  -- R13
    refine EvC.block ?_  -- 2
    refine EvC.loopS (σ := Nat) (fun i => ⟨[(6, .sl es.isEmpty (es.map edgeC) .unk), (9, .sl T.isEmpty (T.map edgeC) .full), (11, .sl O.isEmpty (O.map intC) .unk), (12, .sc (.int .i64 0)), (13, .sc (.int .i64 (lastR (T.take i)))), (14, .sc (.int .i64 i))], [], [], 0⟩) (fun i => T.length - i)
      (fun i => i ≤ T.length) [6, 9, 11, 12, 13, 14] 0 ?_ ?_
    · refine ⟨[], 0, rfl, (by (simp only [go_sem, lastR, List.take_zero, List.getLast?_nil, Option.getD_none]) <;> rfl), Nat.zero_le _⟩
    intro i hi
    refine EvC.seq ?_
    refine EvC.seq (EvC.rg (by (simp only [go_sem]) <;> rfl) (by simp) ?_)  -- R14
    refine EvC.cond (by (simp only [go_sem]) <;> rfl) (fun hc => ?_) (fun hc => ?_)
    rotate_left
    · -- else
      refine EvC.exit ?_  -- 2
      have hiT : i = T.length := by simp at hc; omega
      subst hiT
      rw [List.take_length]
      refine EvC.seq ?_
      refine EvC.seq (EvC.rg (by (simp only [go_sem]) <;> rfl) (by simp) ?_)  -- R17
      refine EvC.block ?_  -- 4
      refine EvC.loopS (σ := Nat) (fun i => ⟨[(6, .sl es.isEmpty (es.map edgeC) .unk), (9, .sl T.isEmpty (T.map edgeC) .full), (11, .sl O.isEmpty (O.map intC) .unk), (12, .sc (.int .i64 (nowAt es i))), (13, .sc (.int .i64 (lastR T))), (15, .sc (.int .i64 i))], [], [], 0⟩) (fun i => es.length - i)
        (fun i => i ≤ es.length) [6, 9, 11, 12, 13, 15] 0 ?_ ?_
      · refine ⟨[], 0, rfl, (by (simp only [go_sem, nowAt]) <;> rfl), Nat.zero_le _⟩
      intro i hi
      refine EvC.seq ?_
      refine EvC.seq (EvC.rg (by (simp only [go_sem]) <;> rfl) (by simp) ?_)  -- R18
      refine EvC.cond (by (simp only [go_sem]) <;> rfl) (fun hc => ?_) (fun hc => ?_)
      rotate_left
      · -- else
        refine EvC.exit ?_  -- 4
        apply EvC.seq  -- R23
        apply EvC.tr
        · apply Tr.run
          · (simp only [go_sem]) <;> rfl
          · simp
          apply Tr.cons
          · exact .call rfl rfl (by (simp only [go_sem]) <;> rfl) (by (simp only [go_sem]) <;> rfl) (by (simp only [go_sem]) <;> rfl) (by (simp only [go_sem]) <;> rfl) (by (simp only [go_sem]) <;> rfl) lives_is
          apply Tr.done
          · (simp only [go_sem]) <;> rfl
          · simp
        refine EvC.ret ⟨.inl rfl, _, (by (simp only [go_sem]) <;> rfl), ?_, rfl⟩
        simp only [go_sem]
      have hil : i < es.length := by simp [hO] at hc; omega
      have hei : es[i]? = some es[i] := List.getElem?_eq_getElem hil
      have hek := he _ (List.getElem_mem hil)
      have hoi : O[i]? = some (O[i]'(by omega)) := List.getElem?_eq_getElem _
      have hok1 := hok i hil
      have hn1 := hnow (i + 1)
      have hn0 := hnow i
      have hna : nowAt es (i + 1) = nowAt es i + (es[i]).1 := by rw [nowAt, hei]; rfl
      rw [hoi] at hok1
      generalize es[i] = e at hei hek hna
      generalize O[i]'(by omega) = o at hoi hok1
      refine EvC.skip ?_
      refine EvC.seq ?_
      refine EvC.block ?_  -- 5
      refine EvC.seq (EvC.rg (by (simp only [go_sem, hei, edgeC]) <;> rfl) (inI64_of (by omega) (by omega)) ?_)  -- R20
      by_cases hT' : i < T.length
      · have hti := hok1.1 hT'
        simp only [Int.zero_add, Option.getD_some] at hti
        have hTi : (i : Int) < T.length := by omega
        apply EvC.seq  -- R21
        apply EvC.drd mixed
        · (simp only [go_sem, hti, hoi, edgeC, intC, hna, decide_eq_true hTi]) <;> rfl
        · simp
        · kernel_rfl
        refine EvC.cond (by (simp only [go_sem]) <;> rfl) (fun hc => ?_) (fun hc => ?_)
        · exfalso
          simp [hna] at hc
          omega
        refine EvC.skip ?_
        refine EvC.rg (by (simp only [go_sem]) <;> rfl) (inI64_of (by omega) (by omega)) ?_  -- R19
        refine ⟨[], i + 1, rfl, ?_, by omega, by omega⟩
        (simp only [go_sem, hna]) <;> rfl
      · have hlast := hok1.2 (by omega)
        have hTi : ¬ (i : Int) < T.length := by omega
        have hTg : (T.length : Int) ≤ i := by omega
        apply EvC.seq  -- R21
        have hnone : T[i]? = none := List.getElem?_eq_none (by omega)
        apply EvC.drw mixed
        · apply Tr.run
          · (simp only [go_sem, hoi, edgeC, intC, hna, hlast, decide_eq_false hTi, decide_eq_true hTg, hnone]) <;> rfl
          · simp
          apply Tr.cons
          · exact .skipv (.ia [.sc (.int .i64 0), .sc (.int .i64 0)]) rfl rfl (by (simp only [go_sem]) <;> rfl) (by (simp only [go_sem]) <;> rfl)
          apply Tr.run
          · (simp only [go_sem, hoi, edgeC, intC, hna, hlast, decide_eq_false hTi, decide_eq_true hTg, hnone]) <;> rfl
          · simp
          apply Tr.cons
          · exact .skipv (.ia [.sc (.int .i64 0), .sc (.int .i64 0)]) rfl rfl (by (simp only [go_sem]) <;> rfl) (by (simp only [go_sem]) <;> rfl)
          apply Tr.done
          · (simp only [go_sem, hoi, edgeC, intC, hna, hlast, decide_eq_false hTi, decide_eq_true hTg, hnone]) <;> rfl
          · simp
        · kernel_rfl
        refine EvC.cond_false (by (simp only [go_sem]) <;> rfl) ?_
        refine EvC.skip ?_
        refine EvC.rg (by (simp only [go_sem]) <;> rfl) (inI64_of (by omega) (by omega)) ?_  -- R19
        refine ⟨[], i + 1, rfl, ?_, by omega, by omega⟩
        (simp only [go_sem, hna, hlast]) <;> rfl
    have hiT : i < T.length := by simpa using hc
    have hti : T[i]? = some T[i] := List.getElem?_eq_getElem hiT
    generalize T[i] = t at hti
    have htk : lastR (T.take (i + 1)) = t.2 := by rw [List.take_add_one, hti]; simp [lastR]
    refine EvC.skip ?_
    refine EvC.seq ?_
    refine EvC.block ?_  -- 3
    refine EvC.rg (by (simp only [go_sem, hti, edgeC]) <;> rfl) (by simp) ?_  -- R16
    refine EvC.rg (by (simp only [go_sem]) <;> rfl) (inI64_of (by omega) (by omega)) ?_  -- R15
    refine ⟨[], i + 1, rfl, ?_, by omega, by omega⟩
    (simp only [go_sem, htk]) <;> rfl
  have hil : i < es.length := by simpa using hc
  have hei : es[i]? = some es[i] := List.getElem?_eq_getElem hil
  have hek := he _ (List.getElem_mem hil)
  generalize es[i] = e at hei hek
  have htk : es.take (i + 1) = es.take i ++ [e] := by rw [List.take_add_one, hei]; rfl
  refine EvC.skip ?_
  refine EvC.seq ?_
  refine EvC.block ?_  -- 1
  refine EvC.rg (by (simp only [go_sem, hei, edgeC]) <;> rfl) (by simp [room_eq, AV.norefs, AV.noref]; omega) ?_  -- R7
  refine EvC.rg (by (simp only [go_sem]) <;> rfl) (inI64_of (by omega) (by omega)) ?_  -- R6
  refine ⟨[(0, 0), (1, 1)], i + 1, rfl, ?_, by omega, by omega⟩
  have hmin : min i es.length = i := by omega
  (simp only [go_sem, hi0, htk, intC, List.length_map, List.length_take, hmin]) <;> rfl
end Go.Avl
namespace Go.Avl
open Go Go.Proofs.Try
set_option maxRecDepth 10000
set_option linter.unusedSimpArgs false

/-! ### Few configurations -/
theorem LT.few {x : LT} (h : x.Ok) : Few x.timed := fun l hn hg => by
  obtain ⟨b1, b2, b3, b4, b5, b6, b7, b8⟩ := LM.bounds h.m
  have hl : x.m.mach.rows.length = x.m.n := by simp [LM.mach]
  have hv : ValidT x.timed := .of (LT.timed_ok h)
  have key : ∀ c ∈ l, 0 ≤ c.1 ∧ c.1 < 6 ∧ 0 ≤ c.2 ∧ c.2 < 8 := fun c hc => by
    have g := hg c hc
    have h1 := g.st
    have h2 : (x.timed.m.rows.length : Int) = x.m.n := by rw [← hl]; rfl
    have h3 : (timAt x.timed c.1).1 ≤ 7 := by
      unfold timAt
      cases ht : x.timed.ts[c.1.toNat]? with
      | none => simp
      | some t =>
        obtain ⟨s, _, rfl⟩ := List.mem_map.1 (show t ∈ (List.range x.m.n).map x.tim from List.mem_of_getElem? ht)
        simp only [Option.getD_some]
        unfold LT.tim
        split
        · split
          · simp only; omega
          · simp
        · simp
    have := g.ck
    omega
  have := nodup_bound 48 (l.map fun p => p.1.toNat * 8 + p.2.toNat) (by
    refine List.Pairwise.map _ (R := fun a b => a ∈ l ∧ b ∈ l ∧ a ≠ b) ?_ ?_
    · rintro ⟨a, b⟩ ⟨c, d⟩ ⟨h1, h2, h3⟩ h4
      have k1 := key _ h1
      have k2 := key _ h2
      simp only at k1 k2 h4
      exact h3 (by rw [Prod.mk.injEq]; omega)
    · exact List.Pairwise.imp_of_mem (fun h1 h2 h3 => ⟨h1, h2, h3⟩) hn) (by
    intro x hx
    obtain ⟨p, hp, rfl⟩ := List.mem_map.1 hx
    have := key p hp; omega)
  simp at this; omega

/-! ### Ticks and inputs as a word -/
/-- k ticks from a time on. -/
def tkW (ins : Int) : Nat → Int → List (Int × Int)
  | 0, _ => []
  | k + 1, now => (ins, now + 1) :: tkW ins k (now + 1)
def wW (ins : Int) : List Evt → Int → List (Int × Int)
  | [], _ => []
  | e :: es, now => tkW ins e.1.toNat now ++ (e.2, now + e.1) :: wW ins es (now + e.1)
/-- The replies among the responses. -/
def keepR (outs : Int) : Int → List Int → List (Int × Int) → List Rep
  | prev, r :: rs, a :: al => if r ≠ outs ∧ prev ≠ -1 then (a.2, r) :: keepR outs r rs al else keepR outs r rs al
  | _, _, _ => []
theorem keepR_end (outs : Int) : ∀ (rs : List Int) (al : List (Int × Int)), (∀ r ∈ rs, r = -1) → keepR outs (-1) rs al = []
  | [], _, _ => by unfold keepR; rfl
  | r :: rs, [], _ => by unfold keepR; rfl
  | r :: rs, a :: al, h => by
    have := h r List.mem_cons_self
    subst this
    simp only [keepR]
    rw [if_neg (by simp)]
    exact keepR_end outs rs al fun r hr => h r (List.mem_cons_of_mem _ hr)
theorem ticks_keep {x : Timed} (hv : ValidT x) : ∀ (k : Nat) (c : Cfg) (now prev : Int) (out : List Rep) (ws : List (Int × Int)), GoodC x c → prev ≠ -1 → ∃ prev', prev' ≠ -1 ∧
    out ++ keepR x.m.outs prev (runCf x (some c) ((tkW x.m.ins k now ++ ws).map (·.1))) (tkW x.m.ins k now ++ ws) =
      (ticksP x k c now out).2 ++ keepR x.m.outs prev' (runCf x (some (ticksP x k c now out).1) (ws.map (·.1))) ws
  | 0, c, now, prev, out, ws, _, hp => ⟨prev, hp, rfl⟩
  | k + 1, c, now, prev, out, ws, hc, hp => by
    have ho := hv.m.outs
    have ht := timOk_cases (timAt_get hv hc.st.1 hc.st.2).2
    have hg' := tick1_good hv hc now out
    have hs : cfgStep x c x.m.ins = tickR x.m.outs (timAt x c.1) c := by unfold cfgStep; rw [if_neg (by omega)]
    have hst := hc.st
    simp only [tkW, List.cons_append, List.map_cons, runCf, keepR, ticksP, hs]
    by_cases h0 : (timAt x c.1).1 = 0
    · have e1 : tickR x.m.outs (timAt x c.1) c = (c, x.m.outs) := by unfold tickR; rw [if_pos h0]
      have e2 : tick1 x c now out = (c, out) := by unfold tick1; rw [if_pos h0]
      rw [e1, e2]
      simp only
      rw [if_neg (show ¬ c.1 < 0 by omega), if_neg (show ¬ (x.m.outs ≠ x.m.outs ∧ prev ≠ -1) by simp)]
      exact ticks_keep hv k c (now + 1) x.m.outs out ws hc (by omega)
    · by_cases h1 : c.2 + 1 = (timAt x c.1).1
      · have e1 : tickR x.m.outs (timAt x c.1) c = (((timAt x c.1).2.1, 0), (timAt x c.1).2.2) := by unfold tickR; rw [if_neg h0, if_pos h1]
        have e2 : tick1 x c now out = (((timAt x c.1).2.1, 0), out ++ [(now + 1, (timAt x c.1).2.2)]) := by unfold tick1; rw [if_neg h0, if_pos h1]
        rw [e2] at hg'
        rw [e1, e2]
        simp only
        rw [if_neg (show ¬ (timAt x c.1).2.1 < 0 by omega), if_pos (show (timAt x c.1).2.2 ≠ x.m.outs ∧ prev ≠ -1 by omega)]
        obtain ⟨p', h2, h3⟩ := ticks_keep hv k _ (now + 1) (timAt x c.1).2.2 (out ++ [(now + 1, (timAt x c.1).2.2)]) ws hg' (by omega)
        exact ⟨p', h2, by rw [← h3]; simp⟩
      · have e1 : tickR x.m.outs (timAt x c.1) c = ((c.1, c.2 + 1), x.m.outs) := by unfold tickR; rw [if_neg h0, if_neg h1]
        have e2 : tick1 x c now out = ((c.1, c.2 + 1), out) := by unfold tick1; rw [if_neg h0, if_neg h1]
        rw [e2] at hg'
        rw [e1, e2]
        simp only
        rw [if_neg (show ¬ c.1 < 0 by omega), if_neg (show ¬ (x.m.outs ≠ x.m.outs ∧ prev ≠ -1) by simp)]
        exact ticks_keep hv k _ (now + 1) x.m.outs out ws hg' (by omega)
theorem run_keep {x : Timed} (hv : ValidT x) : ∀ (es : List Evt) (c : Cfg) (now prev : Int) (out : List Rep), GoodC x c → prev ≠ -1 → (∀ e ∈ es, 0 ≤ e.1 ∧ 0 ≤ e.2 ∧ e.2 < x.m.ins) →
    out ++ keepR x.m.outs prev (runCf x (some c) ((wW x.m.ins es now).map (·.1))) (wW x.m.ins es now) = runP x es c now out
  | [], c, now, prev, out, _, _, _ => by simp [wW, runCf, keepR, runP]
  | e :: es, c, now, prev, out, hc, hp, he => by
    have h1 := he e List.mem_cons_self
    have ho := hv.m.outs
    obtain ⟨p', h2, h3⟩ := ticks_keep hv e.1.toNat c now prev out ((e.2, now + e.1) :: wW x.m.ins es (now + e.1)) hc hp
    simp only [wW, runP]
    rw [h3]
    have hg := ticksP_good hv e.1.toNat hc now out
    generalize ticksP x e.1.toNat c now out = tk at hg
    obtain ⟨d, out'⟩ := tk
    simp only at hg ⊢
    have hs : cfgStep x d e.2 = (((stepR x.m d.1 e.2).1, 0), (stepR x.m d.1 e.2).2) := by unfold cfgStep; rw [if_pos h1.2.2]
    have hcase := cfgStep_good hv hg h1.2.1
    rw [hs] at hcase
    obtain ⟨_, q, _, _, h5, h6⟩ := stepR_get hv.m hg.st.1 hg.st.2 ⟨h1.2.1, h1.2.2⟩
    simp only [List.map_cons, runCf, keepR, hs]
    rw [h5] at hcase ⊢
    unfold fitsR at h6
    simp at h6
    by_cases hq : q.1 = -1
    · rw [if_pos (show q.1 < 0 by omega), if_pos (show q.2 ≠ x.m.outs ∧ p' ≠ -1 by omega), if_pos hq]
      have h7 : q.2 = -1 := by omega
      rw [h7, runCf_none, keepR_end _ _ _ fun r hr => by obtain ⟨_, _, rfl⟩ := List.mem_map.1 hr; rfl]
    · rw [if_neg (show ¬ q.1 < 0 by omega), if_pos (show q.2 ≠ x.m.outs ∧ p' ≠ -1 by omega), if_neg hq]
      rw [← run_keep hv es (q.1, 0) (now + e.1) q.2 (out' ++ [(now + e.1, q.2)]) (by rcases hcase with h | h; exact h.1; omega) (by omega) fun e he' => he e (List.mem_cons_of_mem _ he')]
      simp
theorem tkW_mem {ins : Int} : ∀ (k : Nat) (now : Int), ∀ a ∈ tkW ins k now, a.1 = ins
  | 0, _, a, h => by cases h
  | k + 1, now, a, h => by
    rcases List.mem_cons.1 h with rfl | h
    · rfl
    · exact tkW_mem k _ a h
theorem wW_mem {ins : Int} (h0 : 0 ≤ ins) : ∀ (es : List Evt) (now : Int), (∀ e ∈ es, 0 ≤ e.2 ∧ e.2 < ins) → ∀ a ∈ (wW ins es now).map (·.1), 0 ≤ a ∧ a ≤ ins
  | [], _, _, a, h => by cases h
  | e :: es, now, he, a, h => by
    simp only [wW, List.map_append, List.map_cons, List.mem_append, List.mem_cons] at h
    rcases h with h | h | h
    · obtain ⟨b, hb, rfl⟩ := List.mem_map.1 h
      have := tkW_mem _ _ b hb; omega
    · have := he e List.mem_cons_self; omega
    · exact wW_mem h0 es _ (fun e h' => he e (List.mem_cons_of_mem _ h')) a h
/-- The theorem of the unfolded machine. -/
theorem unf_replies {x : Timed} (hv : ValidT x) (hB : Few x) {es : List Evt} (he : ∀ e ∈ es, 0 ≤ e.1 ∧ 0 ≤ e.2 ∧ e.2 < x.m.ins) :
    keepR x.m.outs 0 (runR (unfMach x) 0 ((wW x.m.ins es 0).map (·.1))) (wW x.m.ins es 0) = runP x es (0, 0) 0 [] := by
  have hi := hv.m.ins
  have h := runR_unf hv hB ((wW x.m.ins es 0).map (·.1)) 0 (0, 0) (wW_mem (by omega) es 0 fun e h' => (he e h').2) (unf_ok hv hB).1
  rw [show ((0 : Nat) : Int) = 0 from rfl] at h
  rw [h]
  have := run_keep hv es (0, 0) 0 0 [] (.zero hv) (by omega) he
  simpa using this

/-! ### Machines that do not differ -/
theorem nextL_mem {at' i : Int} {x y : Int × Int} {l : List Arr} (h1 : x.1 ≠ -1) (h2 : y.1 ≠ -1) : (x.1, y.1) ∈ (nextL at' i x y l).map (·.1) := by
  unfold nextL
  split
  · simp
  · rename_i h
    by_cases hm : (x.1, y.1) ∈ l.map (·.1)
    · exact hm
    · exact absurd ⟨h1, h2, hm⟩ h
theorem inR_pre {a b : Mach} {at' s t : Int} : ∀ (n i : Nat) (l : List Arr) (j : Nat) (p : Arr), l[j]? = some p → (inR a b at' s t n i l).2[j]? = some p
  | 0, _, _, _, _, h => h
  | n + 1, i, l, j, p, h => by simp only [inR]; exact inR_pre n (i + 1) _ j p (nextL_get h)
/-- A pair of states answers alike, and leads to pairs of the list. -/
def Alike2 (a b : Mach) (L : List Arr) (p : Int × Int) : Prop :=
  ∀ i : Nat, i < a.ins.toNat → (stepR a p.1 i).2 = (stepR b p.2 i).2 ∧ ((stepR a p.1 i).1 ≠ -1 → (stepR b p.2 i).1 ≠ -1 → ((stepR a p.1 i).1, (stepR b p.2 i).1) ∈ L.map (·.1))
theorem pre_mem {l L : List Arr} (h : ∀ (j : Nat) p, l[j]? = some p → L[j]? = some p) {q : Int × Int} (hq : q ∈ l.map (·.1)) : q ∈ L.map (·.1) := by
  obtain ⟨p, hp, rfl⟩ := List.mem_map.1 hq
  obtain ⟨j, hj, rfl⟩ := List.getElem_of_mem hp
  exact List.mem_map.2 ⟨_, List.mem_of_getElem? (h j _ (List.getElem?_eq_getElem hj)), rfl⟩
theorem inR_alike {a b : Mach} {at' s t : Int} : ∀ (n i : Nat) (l : List Arr), (∀ z ∈ (inR a b at' s t n i l).1, z.x.2 = z.y.2) → ∀ k, k < n →
    (stepR a s ((i + k : Nat) : Int)).2 = (stepR b t ((i + k : Nat) : Int)).2 ∧ ((stepR a s ((i + k : Nat) : Int)).1 ≠ -1 → (stepR b t ((i + k : Nat) : Int)).1 ≠ -1 → ((stepR a s ((i + k : Nat) : Int)).1, (stepR b t ((i + k : Nat) : Int)).1) ∈ (inR a b at' s t n i l).2.map (·.1))
  | 0, _, _, _, k, hk => by omega
  | n + 1, i, l, hz, k, hk => by
    simp only [inR] at hz ⊢
    cases k with
    | zero =>
      refine ⟨hz _ List.mem_cons_self, fun h1 h2 => ?_⟩
      exact pre_mem (fun j p h => inR_pre n (i + 1) _ j p h) (nextL_mem h1 h2)
    | succ k =>
      have := inR_alike n (i + 1) _ (fun z h => hz z (List.mem_cons_of_mem _ h)) k (by omega)
      rwa [show i + 1 + k = i + (k + 1) by omega] at this
theorem Alike2.pre {a b : Mach} {l L : List Arr} {p : Int × Int} (h : Alike2 a b l p) (hp : ∀ (j : Nat) p, l[j]? = some p → L[j]? = some p) : Alike2 a b L p :=
  fun i hi => ⟨(h i hi).1, fun h1 h2 => pre_mem hp ((h i hi).2 h1 h2)⟩
theorem outR_closed {a b : Mach} (ha : Valid a) (hb : Valid b) (hab : a.ins = b.ins) : ∀ (n at' : Nat) (l : List Arr), GoodL a b l → n + at' = 5000 → at' ≤ l.length → (∀ z ∈ outR a b n at' l, z.x.2 = z.y.2) →
    (∀ j, j < at' → ∀ p, l[j]? = some p → Alike2 a b l p.1) →
    ∃ L, (∀ (j : Nat) p, l[j]? = some p → L[j]? = some p) ∧ GoodL a b L ∧ ∀ (j : Nat) p, L[j]? = some p → Alike2 a b L p.1
  | 0, at', l, hg, hn, hat, _, _ => by have := hg.len ha hb; omega
  | n + 1, at', l, hg, hn, hat, hz, hcl => by
    simp only [outR] at hz
    cases hp : l[at']? with
    | none =>
      refine ⟨l, fun _ _ h => h, hg, fun j p hj => hcl j ?_ p hj⟩
      have h1 : l.length ≤ at' := by simpa using hp
      have h2 := (List.getElem?_eq_some_iff.1 hj).1
      omega
    | some p =>
      rw [hp] at hz
      simp only at hz
      obtain ⟨_, h2, h3⟩ := inR_good ha hb hab a.ins.toNat 0 l hg hp rfl
      have hpre : ∀ (j : Nat) q, l[j]? = some q → (inR a b at' p.1.1 p.1.2 a.ins.toNat 0 l).2[j]? = some q := fun j q h => inR_pre _ _ _ j q h
      have hat' := (List.getElem?_eq_some_iff.1 h3).1
      obtain ⟨L, k1, k2, k3⟩ := outR_closed ha hb hab n (at' + 1) _ h2 (by omega) (by omega) (fun z h => hz z (List.mem_append_right _ h)) fun j hj q hq => by
        by_cases e : j = at'
        · subst e
          rw [h3] at hq; cases hq
          intro i hi
          have := inR_alike a.ins.toNat 0 l (fun z h => hz z (List.mem_append_left _ h)) i hi
          simpa using this
        · have hjl : j < l.length := by omega
          have h5 := List.getElem?_eq_getElem hjl
          have h6 := hpre j _ h5
          rw [hq] at h6; cases h6
          exact (hcl j (by omega) _ h5).pre hpre
      exact ⟨L, fun j q h => k1 j q (hpre j q h), k2, k3⟩
theorem runs_alike {a b : Mach} (ha : Valid a) (hb : Valid b) (hab : a.ins = b.ins) {L : List Arr} (hg : GoodL a b L) (hc : ∀ (j : Nat) p, L[j]? = some p → Alike2 a b L p.1) :
    ∀ (w : List Int) (p : Int × Int), p ∈ L.map (·.1) → (∀ i ∈ w, 0 ≤ i ∧ i < a.ins) → runR a p.1 w = runR b p.2 w
  | [], _, _, _ => rfl
  | i :: w, p, hp, hw => by
    have hi := hw i List.mem_cons_self
    have hw' : ∀ i ∈ w, 0 ≤ i ∧ i < a.ins := fun i h => hw i (List.mem_cons_of_mem _ h)
    obtain ⟨q, hq, rfl⟩ := List.mem_map.1 hp
    obtain ⟨j, hj, rfl⟩ := List.getElem_of_mem hq
    have hr := hg.rng _ hq
    obtain ⟨h1, h2⟩ := hc j _ (List.getElem?_eq_getElem hj) i.toNat (by omega)
    rw [show ((i.toNat : Nat) : Int) = i by omega] at h1 h2
    have f1 := stepR_end ha hr.1 hr.2.1 hi
    have f2 := stepR_end hb hr.2.2.1 hr.2.2.2 (by rw [← hab]; exact hi)
    have g1 : (stepR a L[j].1.1 i).1 ≠ -1 → 0 ≤ (stepR a L[j].1.1 i).2 := fun h => by
      obtain ⟨_, e, _, _, h3, h4⟩ := stepR_get ha hr.1 hr.2.1 hi
      rw [h3] at h ⊢
      rcases fits_none h4 with h5 | h5 <;> omega
    have g2 : (stepR b L[j].1.2 i).1 ≠ -1 → 0 ≤ (stepR b L[j].1.2 i).2 := fun h => by
      obtain ⟨_, e, _, _, h3, h4⟩ := stepR_get hb hr.2.2.1 hr.2.2.2 (by rw [← hab]; exact hi)
      rw [h3] at h ⊢
      rcases fits_none h4 with h5 | h5 <;> omega
    simp only [runR, h1]
    congr 1
    by_cases e1 : (stepR a L[j].1.1 i).1 = -1
    · have e2 : (stepR b L[j].1.2 i).1 = -1 := by
        rcases f1 with f1 | f1
        · rcases f2 with f2 | f2
          · exact f2.1
          · have := g2 (by omega); omega
        · omega
      rw [e1, e2, runR_neg, runR_neg]
    · have e2 : (stepR b L[j].1.2 i).1 ≠ -1 := fun e2 => by
        rcases f2 with f2 | f2
        · have := g1 e1; omega
        · omega
      exact runs_alike ha hb hab hg hc w _ (h2 e1 e2) hw'
theorem diff_none {a b : Mach} (ha : Valid a) (hb : Valid b) (hab : a.ins = b.ins) (h : (diffO a b).isNone = true) (w : List Int) (hw : ∀ i ∈ w, 0 ≤ i ∧ i < a.ins) : runR a 0 w = runR b 0 w := by
  have h1 : diffO a b = none := by simpa using h
  unfold diffO at h1
  rw [List.find?_eq_none] at h1
  obtain ⟨L, k1, k2, k3⟩ := outR_closed ha hb hab 5000 0 arr0 (.zero ha hb) rfl (by simp) (fun z hz => by simpa using h1 z hz) fun j hj => by omega
  have := runs_alike ha hb hab k2 k3 w (0, 0) (List.mem_map.2 ⟨_, List.mem_of_getElem? (k1 0 _ rfl), rfl⟩) hw
  exact this
end Go.Avl
namespace Go.Avl
open Go Go.Proofs.Try
set_option maxRecDepth 10000
set_option linter.unusedSimpArgs false

theorem unfoldA_ok {x : Timed} (h : checkT x = 0) (hi : x.m.ins ≤ 15) (ho : x.m.outs ≤ 15) (hl : (unfAll x).2.length ≤ 64) : unfoldA x = .tu [.ag (unfCells x), .sc (.int .i64 0)] := by
  unfold unfoldA
  rw [if_neg (by rw [h]; simp), if_neg (by omega), if_pos hl]
  rfl
theorem tkW_snoc (ins : Int) : ∀ (k : Nat) (now : Int), tkW ins (k + 1) now = tkW ins k now ++ [(ins, now + (k + 1 : Nat))]
  | 0, now => by simp [tkW]
  | k + 1, now => by
    rw [tkW, tkW_snoc ins k (now + 1), tkW]
    simp only [List.cons_append]
    congr 4
    omega
theorem wW_snoc (ins : Int) (e : Evt) : ∀ (es : List Evt) (now : Int), wW ins (es ++ [e]) now = wW ins es now ++ (tkW ins e.1.toNat (now + nowAt es es.length) ++ [(e.2, now + nowAt es es.length + e.1)])
  | [], now => by simp [wW, nowAt]
  | d :: es, now => by
    simp only [List.cons_append, wW, wW_snoc ins e es (now + d.1), List.append_assoc, List.length_cons, nowAt_cons]
    rw [Int.add_assoc now d.1]
theorem nowAt_take (es : List Evt) : ∀ (i j : Nat), j ≤ i → i ≤ es.length → nowAt (es.take i) j = nowAt es j
  | _, 0, _, _ => rfl
  | i, j + 1, h, hl => by
    rw [nowAt, nowAt, nowAt_take es i j (by omega) hl, List.getElem?_take, if_pos (by omega)]
theorem wW_take (ins : Int) {es : List Evt} {i : Nat} {e : Evt} (he : es[i]? = some e) : wW ins (es.take (i + 1)) 0 = wW ins (es.take i) 0 ++ (tkW ins e.1.toNat (nowAt es i) ++ [(e.2, nowAt es (i + 1))]) := by
  have hi := (List.getElem?_eq_some_iff.1 he).1
  rw [List.take_add_one, he]
  have hl : (es.take i).length = i := by simp; omega
  have hn : nowAt es (i + 1) = nowAt es i + e.1 := by rw [nowAt, he]; rfl
  simp only [Option.toList_some]
  rw [wW_snoc, hl, nowAt_take es i i (Nat.le_refl _) (by omega), hn, Int.zero_add]
theorem tkW_len (ins : Int) : ∀ (k : Nat) (now : Int), (tkW ins k now).length = k
  | 0, _ => rfl
  | k + 1, now => by simp [tkW, tkW_len ins k]
theorem wW_len (ins : Int) {N : Nat} : ∀ (es : List Evt) (now : Int), (∀ e ∈ es, e.1.toNat ≤ N) → (wW ins es now).length ≤ (N + 1) * es.length
  | [], _, _ => Nat.le_refl _
  | e :: es, now, h => by
    have h1 := wW_len ins (N := N) es (now + e.1) fun e h' => h e (List.mem_cons_of_mem _ h')
    have h2 := h e List.mem_cons_self
    have e0 : (N + 1) * (e :: es).length = (N + 1) * es.length + (N + 1) := by simp [Nat.mul_add]
    simp only [wW, List.length_append, List.length_cons, tkW_len] at e0 ⊢
    omega
def prevR (r : List Int) : Nat → Int
  | 0 => 0
  | i + 1 => (r[i]?).getD 0

def unfU (x : Timed) : List AV := [.sc (.int .i64 (x.m.ins + 1)), .sc (.int .i64 (x.m.outs + 1)), .sl false ((unfAll x).1.map rowF) .unk]
theorem unfM_cells (x : Timed) : (unfMach x).cells = unfU x := by unfold Mach.cells unfMach unfU; rw [rows_rowF]
theorem unfU_unk (x : Timed) : (AV.ag (unfU x)).unk = .ag (unfU x) := by simp only [unfU, AV.unk, AV.unks, unkss_rowF]
theorem unfSame_is {x : Timed} (k6 : PureIs prog 17 [.ag (unfMach x).cells, .ag (unfMach x).cells] (.sc (.bool true))) : PureIs prog 17 [.ag (unfCells x), .ag (unfU x)] (.sc (.bool true)) := by
  refine PureIs.weak ?_
  simp only [List.map_cons, List.map_nil]
  rw [unfCells_unk, unfU_unk]
  rw [unfM_cells] at k6 ⊢
  exact k6

theorem timersUnfold_is {x : LT} (h : x.Ok) {l : List (Int × Int)} (hl : U8s l) (nl : Bool) (c : Cp) : PureIs prog 4 [.ag x.cells, .sl nl (l.map u8C2) c] (.sc (.bool true)) := by
  refine PureIs.of (nv := 3) (hid := [4, 5, 6, 7, 8, 9, 10, 11, 12, 13, 14, 15, 16, 17, 18, 19, 20, 51, 69, 78, 87, 120, 144]) func4 rfl (by kernel_rfl) (by simp [ntmps4]) fun _ => ?_
  rw [ntmps4, results4]
  obtain ⟨b1, b2, b3, b4, b5, b6, b7, b8⟩ := LM.bounds h.m
  obtain ⟨q1, _, q3⟩ := run_plain h hl
  have hB := LT.few h
  have hck := LT.timed_ok h
  have hv : ValidT x.timed := .of hck
  have hin : x.timed.m.ins = x.m.i := rfl
  have hou : x.timed.m.outs = x.m.o := rfl
  obtain ⟨u1, u2, u3, u4, _⟩ := unf_ok hv hB
  have u0 : 0 < (unfAll x.timed).2.length := (List.getElem?_eq_some_iff.1 u1).1
  have hvu : Valid (unfMach x.timed) := .of (unf_valid hv hB (by omega) (by omega))
  have he := evsOf_ok (ins := x.m.i) (by omega) hl
  have hlen := evsOf_len x.m.i l
  have hkeep := unf_replies hv hB (es := evsOf x.m.i l) fun e h' => by rw [hin]; have := he e h'; omega
  have hwm := wW_mem (ins := x.m.i) (by omega) (evsOf x.m.i l) 0 fun e h' => by have := he e h'; omega
  have hwl := wW_len x.m.i (N := 19) (evsOf x.m.i l) 0 fun e h' => by have := he e h'; omega
  have k1 := tOf_is h
  have k2 := evsOf_is nl l c x.m.i (by omega) hl
  have k3 := run_is x.timed (LT.small h).1 (LT.small h).2 (evsOf x.m.i l).isEmpty (evsOf x.m.i l) .unk (by omega)
  have k4 := unfold_is x.timed (LT.small h).1 (LT.small h).2
  rw [unfoldA_ok hck (by omega) (by omega) u2] at k4
  have k5 := unfoldRef_is hv
  have k6 := same_is (unfMach x.timed) (unfMach x.timed) ⟨by simp [unfMach]; omega, unfMach_rows (by omega)⟩
  have k7 := run04_is hvu 0 (by have := hvu.rows; omega) (wW x.m.i (evsOf x.m.i l) 0).isEmpty ((wW x.m.i (evsOf x.m.i l) 0).map (·.1)) .unk (fun a ha => by have := hwm a ha; show 0 ≤ a ∧ a < x.timed.m.ins + 1; omega) (by simp; omega)
  have hrl := runR_len (unfMach x.timed) ((wW x.m.i (evsOf x.m.i l) 0).map (·.1)) 0
  rw [hin] at hkeep
  have hnow := nowAt_ok (es := evsOf x.m.i l) fun e h' => ⟨(he e h').1, (he e h').2.1⟩
  have k8 := replies_is (runP x.timed (evsOf x.m.i l) (0, 0) 0 []).isEmpty (runP x.timed (evsOf x.m.i l) (0, 0) 0 []) 0 (runP x.timed (evsOf x.m.i l) (0, 0) 0 []).isEmpty (runP x.timed (evsOf x.m.i l) (0, 0) 0 []) .unk (by omega)
  have e1 : repliesR (runP x.timed (evsOf x.m.i l) (0, 0) 0 []) 0 (runP x.timed (evsOf x.m.i l) (0, 0) 0 []) = 1 := by simp [repliesR]
  rw [e1] at k8
  rw [q1] at k3
  generalize evsOf x.m.i l = es at he hlen hkeep hwm hwl k2 k3 k7 hrl hnow k8 q3
  generalize runP x.timed es (0, 0) 0 [] = T at hkeep k3 k8 q3
  generalize runR (unfMach x.timed) 0 ((wW x.m.i es 0).map (·.1)) = r at hkeep k7 hrl
  have e6 : sameR (unfMach x.timed) (unfMach x.timed) = true := by simp [sameR]
  rw [e6] at k6
  replace k6 := unfSame_is k6
  rw [unfM_cells] at k7
  have hR1 : ¬ 64 < ((unfAll x.timed).1.length : Int) := by omega
  have hR2 : ¬ ((unfAll x.timed).1.length : Int) = 0 := by omega
  have hI1 : ¬ 15 < x.timed.m.ins := by omega
  have hO1 : ¬ 15 < x.timed.m.outs := by omega
  generalize x.timed = pt at *
  refine EvC.seq (EvC.rg (by (simp only [go_sem, LT.cells]) <;> rfl) (by simp) ?_)  -- R0
  refine EvC.frzB 0 (by (simp only [go_sem]) <;> rfl) ?_
  apply EvC.seq  -- R1
  apply EvC.tr
  · apply Tr.run
    · (simp only [go_sem]) <;> rfl
    · simp
    apply Tr.cons
    · exact .call rfl rfl (by (simp only [go_sem]) <;> rfl) (by (simp only [go_sem]) <;> rfl) (by (simp only [go_sem]) <;> rfl) (by (simp only [go_sem]) <;> rfl) (by (simp only [go_sem]) <;> rfl) (by simpa [LT.cells] using k1)
    apply Tr.done
    · (simp only [go_sem, Timed.cells]) <;> rfl
    · simp
  refine EvC.frzB 4 (by (simp only [go_sem]) <;> rfl) ?_
  apply EvC.seq  -- R2
  apply EvC.tr
  · apply Tr.run
    · (simp only [go_sem]) <;> rfl
    · simp
    apply Tr.cons
    · exact .call rfl rfl (by (simp only [go_sem]) <;> rfl) (by (simp only [go_sem]) <;> rfl) (by (simp only [go_sem]) <;> rfl) (by (simp only [go_sem]) <;> rfl) (by (simp only [go_sem]) <;> rfl) (by simpa [Timed.cells] using k4)
    apply Tr.done
    · (simp only [go_sem, unfCells]) <;> rfl
    · simp
  refine EvC.frzB 11 (by (simp only [go_sem]) <;> rfl) ?_
  apply EvC.seq  -- R3
  apply EvC.tr
  · apply Tr.run
    · (simp only [go_sem]) <;> rfl
    · simp
    apply Tr.cons
    · exact .call rfl rfl (by (simp only [go_sem]) <;> rfl) (by (simp only [go_sem]) <;> rfl) (by (simp only [go_sem]) <;> rfl) (by (simp only [go_sem]) <;> rfl) (by (simp only [go_sem]) <;> rfl) (by simpa [Timed.cells] using k5)
    apply Tr.done
    · (simp only [go_sem]) <;> rfl
    · simp
  refine EvC.frzB 16 (by (simp only [go_sem]) <;> rfl) ?_
  refine EvC.seq ?_
  apply EvC.seq  -- R4
  apply EvC.trd
  · (simp only [go_sem, decide_eq_false hI1, decide_eq_false hO1, decide_eq_false hR1, decide_eq_false hR2, List.length_map]) <;> rfl
  · simp
  refine EvC.cond_false (by (simp only [go_sem]) <;> rfl) ?_
  refine EvC.skip ?_
  refine EvC.seq ?_
  apply EvC.seq  -- R6
  apply EvC.tr
  · apply Tr.run
    · (simp only [go_sem]) <;> rfl
    · simp
    apply Tr.cons
    · exact .callG rfl rfl (by (simp only [go_sem]) <;> rfl) rfl (by (simp only [go_sem]) <;> rfl) (by (simp only [go_sem]) <;> rfl) (by (simp only [go_sem]) <;> rfl) (by (simp only [go_sem]) <;> rfl) (by (simp only [go_sem]) <;> rfl) (by simpa [unfCells, unfU] using k6)
    apply Tr.done
    · (simp only [go_sem]) <;> rfl
    · simp
  refine EvC.cond_false (by (simp only [go_sem]) <;> rfl) ?_
  refine EvC.skip ?_
  apply EvC.seq  -- R8
  apply EvC.tr
  · apply Tr.run
    · (simp only [go_sem]) <;> rfl
    · simp
    apply Tr.cons
    · exact .call rfl rfl (by (simp only [go_sem]) <;> rfl) (by (simp only [go_sem]) <;> rfl) (by (simp only [go_sem]) <;> rfl) (by (simp only [go_sem]) <;> rfl) (by (simp only [go_sem]) <;> rfl) (by simpa [hin] using k2)
    apply Tr.done
    · (simp only [go_sem]) <;> rfl
    · simp
  refine EvC.seq (EvC.rg (by (simp only [go_sem]) <;> rfl) (by simp) ?_)  -- R9
  refine EvC.seq (EvC.rg (by (simp only [go_sem]) <;> rfl) (by simp) ?_)  -- R10
  refine EvC.seq ?_
  refine EvC.seq (EvC.rg (by (simp only [go_sem]) <;> rfl) (by simp) ?_)  -- R11
  have hct : ∃ c5, c5 = [AV.sc (.int .i64 pt.m.ins), .sc (.int .i64 pt.m.outs), .sl pt.m.nl (pt.m.rows.map rowC) .unk, .sl pt.tnl (pt.ts.map timC) .unk] := ⟨_, rfl⟩
  obtain ⟨c5, hc5⟩ := hct
  obtain ⟨c8, hc8⟩ : ∃ c8, c8 = [AV.sc (.int .i64 (pt.m.ins + 1)), .sc (.int .i64 (pt.m.outs + 1)), .sl false ((unfAll pt).1.map rowF) .unk] := ⟨_, rfl⟩
  refine EvC.block ?_  -- 0
  refine EvC.loopS (σ := Nat × List (Int × Int)) (fun g => ⟨[(5, .ia c5), (8, .ia c8), (9, .sl es.isEmpty (es.map edgeC) .unk), (10, .tl 0 g.2.length g.2.isEmpty), (11, .tl 1 g.2.length g.2.isEmpty), (12, .sc (.int .i64 (nowAt es g.1))), (13, .sc (.int .i64 g.1))], [],
      [(0, .arr 1 ((g.2.map (·.1)).map intC) true), (1, .arr 1 ((g.2.map (·.2)).map intC) true)], 2⟩) (fun g => es.length - g.1)
    (fun g => g.1 ≤ es.length ∧ g.2 = wW x.m.i (es.take g.1) 0) [5, 8, 9, 10, 11, 12, 13] 2 ?_ ?_
  · refine ⟨[(63, 0), (64, 1)], (0, []), rfl, (by (simp only [go_sem, hc5, hc8, nowAt]) <;> rfl), Nat.zero_le _, by simp [wW]⟩
  rintro ⟨i, W⟩ ⟨hi, hW⟩
  simp only at hi hW
  refine EvC.seq ?_
  refine EvC.seq (EvC.rg (by (simp only [go_sem]) <;> rfl) (by simp) ?_)  -- R12
  refine EvC.cond (by (simp only [go_sem]) <;> rfl) (fun hc => ?_) (fun hc => ?_)
  rotate_left
  · -- else
    refine EvC.exit ?_  -- 0
    have hie : i = es.length := by simp at hc; omega
    subst hie
    rw [List.take_length] at hW
    subst hW
    generalize wW x.m.i es 0 = W at hkeep hwm hwl k7 hrl
    rw [List.length_map] at hrl
    refine EvC.frz 0 (by (simp only [go_sem]) <;> rfl) ?_
    refine EvC.frz 1 (by (simp only [go_sem]) <;> rfl) ?_
    apply EvC.seq  -- R20
    apply EvC.tr
    · apply Tr.run
      · (simp only [go_sem, hc8]) <;> rfl
      · simp
      apply Tr.cons
      · exact .call rfl rfl (by (simp only [go_sem]) <;> rfl) (by (simp only [go_sem]) <;> rfl) (by (simp only [go_sem]) <;> rfl) (by (simp only [go_sem]) <;> rfl) (by (simp only [go_sem]) <;> rfl) (by simpa [unfU] using k7)
      apply Tr.done
      · (simp only [go_sem]) <;> rfl
      · simp
    refine EvC.seq (EvC.rg (by (simp only [go_sem]) <;> rfl) (by simp) ?_)  -- R21
    refine EvC.seq ?_
    refine EvC.seq (EvC.rg (by (simp only [go_sem]) <;> rfl) (by simp) ?_)  -- R22
    refine EvC.block ?_  -- 4
    refine EvC.loopS (σ := Nat × List Rep) (fun g => ⟨[(5, .ia c5), (9, .sl es.isEmpty (es.map edgeC) .unk), (11, .sl W.isEmpty ((W.map (·.2)).map intC) .unk), (15, .sl r.isEmpty (r.map intC) .unk), (16, .tl 0 g.2.length g.2.isEmpty), (17, .sc (.int .i64 g.1))], [],
        [(0, .arr 2 (g.2.map edgeC) true)], 1⟩) (fun g => r.length - g.1)
      (fun g => g.1 ≤ r.length ∧ g.2.length ≤ g.1 ∧ g.2 ++ keepR pt.m.outs (prevR r g.1) (r.drop g.1) (W.drop g.1) = T) [5, 9, 11, 15, 16, 17] 1 ?_ ?_
    · refine ⟨[(10, 0)], (0, []), rfl, (by (simp only [go_sem]) <;> rfl), Nat.zero_le _, Nat.zero_le _, by simpa [prevR] using hkeep⟩
    rintro ⟨i, out⟩ ⟨hi, hol, hk⟩
    simp only at hi hk hol
    refine EvC.seq ?_
    refine EvC.seq (EvC.rg (by (simp only [go_sem]) <;> rfl) (by simp) ?_)  -- R23
    refine EvC.cond (by (simp only [go_sem]) <;> rfl) (fun hc => ?_) (fun hc => ?_)
    rotate_left
    · -- else
      refine EvC.exit ?_  -- 4
      have hie : i = r.length := by simp at hc; omega
      subst hie
      have hTk : keepR pt.m.outs (prevR r r.length) (r.drop r.length) (W.drop r.length) = [] := by rw [List.drop_length]; unfold keepR; rfl
      rw [hTk, List.append_nil] at hk
      subst hk
      refine EvC.frz 0 (by (simp only [go_sem]) <;> rfl) ?_
      apply EvC.seq  -- R28
      apply EvC.tr
      · apply Tr.run
        · (simp only [go_sem, hc5]) <;> rfl
        · simp
        apply Tr.cons
        · exact .call rfl rfl (by (simp only [go_sem]) <;> rfl) (by (simp only [go_sem]) <;> rfl) (by (simp only [go_sem]) <;> rfl) (by (simp only [go_sem]) <;> rfl) (by (simp only [go_sem]) <;> rfl) (by simpa [Timed.cells] using k3)
        apply Tr.done
        · (simp only [go_sem]) <;> rfl
        · simp
      apply EvC.seq  -- R29
      apply EvC.tr
      · apply Tr.run
        · (simp only [go_sem]) <;> rfl
        · simp
        apply Tr.cons
        · exact .call rfl rfl (by (simp only [go_sem]) <;> rfl) (by (simp only [go_sem]) <;> rfl) (by (simp only [go_sem]) <;> rfl) (by (simp only [go_sem]) <;> rfl) (by (simp only [go_sem]) <;> rfl) (by simpa using k8)
        apply Tr.run
        · (simp only [go_sem]) <;> rfl
        · simp
        apply Tr.cons
        · exact .callG rfl rfl (by (simp only [go_sem]) <;> rfl) rfl (by (simp only [go_sem]) <;> rfl) (by (simp only [go_sem]) <;> rfl) (by (simp only [go_sem]) <;> rfl) (by (simp only [go_sem]) <;> rfl) (by (simp only [go_sem]) <;> rfl) lives_is
        apply Tr.done
        · (simp only [go_sem]) <;> rfl
        · simp
      refine EvC.ret ⟨.inl rfl, _, (by (simp only [go_sem]) <;> rfl), ?_, rfl⟩
      simp only [go_sem]
    have hir : i < r.length := by simpa using hc
    have hiw : i < W.length := by omega
    have hdr : r.drop i = r[i] :: r.drop (i + 1) := List.drop_eq_getElem_cons hir
    have hdw : W.drop i = W[i] :: W.drop (i + 1) := List.drop_eq_getElem_cons hiw
    have hri : r[i]? = some r[i] := List.getElem?_eq_getElem hir
    have hwi : W[i]? = some W[i] := List.getElem?_eq_getElem hiw
    have hpr : prevR r (i + 1) = r[i] := by simp only [prevR, hri, Option.getD_some]
    rw [hdr, hdw] at hk
    generalize r[i] = ri at hri hk hpr
    generalize W[i] = wi at hwi hk
    simp only [keepR] at hk
    have hoz : (0 : Int) ≤ out.length := by omega
    refine EvC.skip ?_
    refine EvC.seq ?_
    refine EvC.block ?_  -- 5
    by_cases hi0 : i = 0
    · have h01 : r[((i : Int) - 1).toNat]? = some ri := by rw [show ((i : Int) - 1).toNat = i by omega]; exact hri
      have hp0 : prevR r i = 0 := by rw [hi0]; rfl
      have hd0 : ¬ (0 : Int) < (i : Int) := by omega
      rw [hp0] at hk
      apply EvC.seq  -- R25
      apply EvC.trd
      · (simp only [go_sem, h01, intC, decide_eq_false hd0]) <;> rfl
      · simp
      apply EvC.seq  -- R26
      apply EvC.drd mixed
      · (simp only [go_sem, hri, intC, hc5]) <;> rfl
      · simp
      · kernel_rfl
      refine EvC.cond (by (simp only [go_sem]) <;> rfl) (fun hc => ?_) (fun hc => ?_)
      · have hcc : ri ≠ pt.m.outs ∧ (0 : Int) ≠ -1 := by simpa using hc
        rw [if_pos hcc] at hk
        apply EvC.drd mixed  -- R27
        · (simp only [go_sem, hri, hwi, intC]) <;> rfl
        · simp [room_eq, AV.norefs, AV.noref]; omega
        · kernel_rfl
        refine EvC.rg (by (simp only [go_sem]) <;> rfl) (inI64_of (by omega) (by omega)) ?_  -- R24
        refine ⟨[(0, 0)], (i + 1, out ++ [(wi.2, ri)]), rfl, ?_, ⟨by omega, by simp only [List.length_append, List.length_cons, List.length_nil]; omega, ?_⟩, by omega⟩
        · (simp only [go_sem, edgeC, hc5]) <;> rfl
        · simp only [hpr, List.append_assoc, List.singleton_append]; exact hk
      · have hcc : ¬ (ri ≠ pt.m.outs ∧ (0 : Int) ≠ -1) := by simpa using hc
        rw [if_neg hcc] at hk
        refine EvC.skip ?_
        refine EvC.rg (by (simp only [go_sem]) <;> rfl) (inI64_of (by omega) (by omega)) ?_  -- R24
        refine ⟨[(0, 0)], (i + 1, out), rfl, ?_, ⟨by omega, by simp only; omega, ?_⟩, by omega⟩
        · (simp only [go_sem, hc5]) <;> rfl
        · simp only [hpr]; exact hk
    · obtain ⟨rj, hrj⟩ : ∃ rj, r[((i : Int) - 1).toNat]? = some rj := ⟨_, List.getElem?_eq_getElem (by omega)⟩
      have hp0 : prevR r i = rj := by
        obtain ⟨j, rfl⟩ : ∃ j, i = j + 1 := ⟨i - 1, by omega⟩
        rw [show (((j + 1 : Nat) : Int) - 1).toNat = j by omega] at hrj
        simp only [prevR, hrj, Option.getD_some]
      have hd0 : (0 : Int) < (i : Int) := by omega
      rw [hp0] at hk
      apply EvC.seq  -- R25
      apply EvC.trd
      · (simp only [go_sem, hrj, intC, decide_eq_true hd0]) <;> rfl
      · simp; exact ⟨inI64_of (by omega) (by omega), by omega⟩
      apply EvC.seq  -- R26
      apply EvC.drd mixed
      · (simp only [go_sem, hri, intC, hc5]) <;> rfl
      · simp
      · kernel_rfl
      refine EvC.cond (by (simp only [go_sem]) <;> rfl) (fun hc => ?_) (fun hc => ?_)
      · have hcc : ri ≠ pt.m.outs ∧ rj ≠ -1 := by simpa using hc
        rw [if_pos hcc] at hk
        apply EvC.drd mixed  -- R27
        · (simp only [go_sem, hri, hwi, intC]) <;> rfl
        · simp [room_eq, AV.norefs, AV.noref]; omega
        · kernel_rfl
        refine EvC.rg (by (simp only [go_sem]) <;> rfl) (inI64_of (by omega) (by omega)) ?_  -- R24
        refine ⟨[(0, 0)], (i + 1, out ++ [(wi.2, ri)]), rfl, ?_, ⟨by omega, by simp only [List.length_append, List.length_cons, List.length_nil]; omega, ?_⟩, by omega⟩
        · (simp only [go_sem, edgeC, hc5]) <;> rfl
        · simp only [hpr, List.append_assoc, List.singleton_append]; exact hk
      · have hcc : ¬ (ri ≠ pt.m.outs ∧ rj ≠ -1) := by simpa using hc
        rw [if_neg hcc] at hk
        refine EvC.skip ?_
        refine EvC.rg (by (simp only [go_sem]) <;> rfl) (inI64_of (by omega) (by omega)) ?_  -- R24
        refine ⟨[(0, 0)], (i + 1, out), rfl, ?_, ⟨by omega, by simp only; omega, ?_⟩, by omega⟩
        · (simp only [go_sem, hc5]) <;> rfl
        · simp only [hpr]; exact hk
  have hil : i < es.length := by simpa using hc
  have hei : es[i]? = some es[i] := List.getElem?_eq_getElem hil
  have hek := he _ (List.getElem_mem hil)
  have hwt := wW_take x.m.i hei
  have hna : nowAt es (i + 1) = nowAt es i + (es[i]).1 := by rw [nowAt, hei]; rfl
  have hwle := wW_len x.m.i (N := 19) (es.take i) 0 fun e h' => by have := he e (List.mem_of_mem_take h'); omega
  have htl : (es.take i).length = i := by simp; omega
  rw [htl, ← hW] at hwle
  rw [← hW] at hwt
  have hn0 := hnow i
  generalize es[i] = e at hei hek hwt hna
  generalize nowAt es i = n0 at hwt hna hn0
  refine EvC.skip ?_
  refine EvC.seq ?_
  refine EvC.block ?_  -- 1
  refine EvC.seq ?_
  refine EvC.seq (EvC.rg (by (simp only [go_sem]) <;> rfl) (by simp) ?_)  -- R14
  refine EvC.block ?_  -- 2
  refine EvC.loopS (σ := Nat × List (Int × Int)) (fun g => ⟨[(5, .ia c5), (8, .ia c8), (9, .sl es.isEmpty (es.map edgeC) .unk), (10, .tl 0 g.2.length g.2.isEmpty), (11, .tl 1 g.2.length g.2.isEmpty), (12, .sc (.int .i64 (n0 + g.1))), (13, .sc (.int .i64 i)), (14, .sc (.int .i64 g.1))], [],
      [(0, .arr 1 ((g.2.map (·.1)).map intC) true), (1, .arr 1 ((g.2.map (·.2)).map intC) true)], 2⟩) (fun g => e.1.toNat - g.1)
    (fun g => g.1 ≤ e.1.toNat ∧ g.2 = W ++ tkW x.m.i g.1 n0) [5, 8, 9, 10, 11, 12, 13, 14] 2 ?_ ?_
  · refine ⟨[(0, 0), (1, 1)], (0, W), rfl, (by (simp only [go_sem, Int.add_zero]) <;> rfl), Nat.zero_le _, by simp [tkW]⟩
  rintro ⟨k, V⟩ ⟨hk, hV⟩
  simp only at hk hV
  have hVL : V.length ≤ 20 * (i + 1) := by rw [hV]; simp only [List.length_append, tkW_len]; omega
  refine EvC.seq ?_
  refine EvC.seq (EvC.rg (by (simp only [go_sem, hei, edgeC]) <;> rfl) (by simp) ?_)  -- R15
  refine EvC.cond (by (simp only [go_sem]) <;> rfl) (fun hc => ?_) (fun hc => ?_)
  rotate_left
  · -- else
    refine EvC.exit ?_  -- 2
    have hke : k = e.1.toNat := by simp at hc; omega
    have hke2 : (k : Int) = e.1 := by omega
    have hn2 : n0 + (k : Int) = nowAt es (i + 1) := by omega
    refine EvC.rg (by (simp only [go_sem, hei, edgeC, hn2]) <;> rfl) (by simp [room_eq, AV.norefs, AV.noref]; omega) ?_  -- R19
    refine EvC.rg (by (simp only [go_sem]) <;> rfl) (inI64_of (by omega) (by omega)) ?_  -- R13
    refine ⟨[(0, 0), (1, 1)], (i + 1, V ++ [(e.2, nowAt es (i + 1))]), rfl, ?_, ⟨by omega, ?_⟩, by omega⟩
    · (simp only [go_sem, intC, hn2]) <;> rfl
    · simp only; rw [hwt, hV, hke, List.append_assoc]
  have hke : k < e.1.toNat := by simp at hc; omega
  have hn2 : n0 + ((k : Int) + ((1 : Nat) : Int)) = n0 + (k : Int) + 1 := by omega
  refine EvC.skip ?_
  refine EvC.seq ?_
  refine EvC.block ?_  -- 3
  refine EvC.seq (EvC.rg (by (simp only [go_sem]) <;> rfl) (inI64_of (by omega) (by omega)) ?_)  -- R17
  refine EvC.rg (by (simp only [go_sem, hc5, hin]) <;> rfl) (by simp [room_eq, AV.norefs, AV.noref]; omega) ?_  -- R18
  refine EvC.rg (by (simp only [go_sem]) <;> rfl) (inI64_of (by omega) (by omega)) ?_  -- R16
  refine ⟨[(0, 0), (1, 1)], (k + 1, V ++ [((x.m.i : Int), n0 + (k : Int) + 1)]), rfl, ?_, ⟨by omega, ?_⟩, by omega⟩
  · (simp only [go_sem, intC, hn2, hc5, hin]) <;> rfl
  · simp only; rw [hV, tkW_snoc, List.append_assoc, show n0 + ((k + 1 : Nat) : Int) = n0 + (k : Int) + 1 by omega]
end Go.Avl
namespace Go.Avl
open Go Go.Proofs.Try
set_option maxRecDepth 10000
set_option linter.unusedSimpArgs false

theorem timersEqual_is {x y : LT} (h : x.Ok) (h2 : y.Ok) {l : List (Int × Int)} (hl : U8s l) (nl : Bool) (c : Cp) : PureIs prog 5 [.ag x.cells, .ag y.cells, .sl nl (l.map u8C2) c] (.sc (.bool true)) := by
  refine PureIs.of (nv := 5) (hid := [6, 7, 8, 9, 10, 11, 12, 13, 14, 15, 16, 42, 77, 88]) func5 rfl (by kernel_rfl) (by simp [ntmps5]) fun _ => ?_
  rw [ntmps5, results5]
  obtain ⟨b1, b2, b3, b4, b5, b6, b7, b8⟩ := LM.bounds h.m
  obtain ⟨d1, d2, d3, d4, d5, d6, d7, d8⟩ := LM.bounds h2.m
  have k1 := tOf_is h
  have k2 := tOf_is h2
  have k3 := teq_is x.timed y.timed (LT.small h) (LT.small h2)
  have hxi : x.timed.m.ins = x.m.i := rfl
  have hxo : x.timed.m.outs = x.m.o := rfl
  have hyi : y.timed.m.ins = y.m.i := rfl
  have hyo : y.timed.m.outs = y.m.o := rfl
  have hcx := LT.timed_ok h
  have hcy := LT.timed_ok h2
  have hvx : ValidT x.timed := .of hcx
  have hvy : ValidT y.timed := .of hcy
  have hBx := LT.few h
  have hBy := LT.few h2
  obtain ⟨_, u2, _, u4, _⟩ := unf_ok hvx hBx
  obtain ⟨_, v2, _, v4, _⟩ := unf_ok hvy hBy
  by_cases hab : x.timed.m.ins ≠ y.timed.m.ins ∨ x.timed.m.outs ≠ y.timed.m.outs
  · have ht : teqR x.timed y.timed = (false, 5) := by
      unfold teqR; rw [if_neg (by rw [hcx]; simp), if_neg (by rw [hcy]; simp), if_pos hab]
    rw [ht] at k3
    generalize x.timed = px at *
    generalize y.timed = py at *
    refine EvC.seq (EvC.rg (by (simp only [go_sem, LT.cells]) <;> rfl) (by simp) ?_)  -- R0
    refine EvC.frzB 0 (by (simp only [go_sem]) <;> rfl) ?_
    refine EvC.frzB 1 (by (simp only [go_sem]) <;> rfl) ?_
    apply EvC.seq  -- R1
    apply EvC.drw mixed
    · apply Tr.run
      · (simp only [go_sem]) <;> rfl
      · simp
      apply Tr.cons
      · exact .call rfl rfl (by (simp only [go_sem]) <;> rfl) (by (simp only [go_sem]) <;> rfl) (by (simp only [go_sem]) <;> rfl) (by (simp only [go_sem]) <;> rfl) (by (simp only [go_sem]) <;> rfl) (by simpa [LT.cells] using k1)
      apply Tr.run
      · (simp only [go_sem]) <;> rfl
      · simp
      apply Tr.cons
      · exact .call rfl rfl (by (simp only [go_sem]) <;> rfl) (by (simp only [go_sem]) <;> rfl) (by (simp only [go_sem]) <;> rfl) (by (simp only [go_sem]) <;> rfl) (by (simp only [go_sem]) <;> rfl) (by simpa [LT.cells] using k2)
      apply Tr.done
      · (simp only [go_sem, Timed.cells]) <;> rfl
      · simp
    · kernel_rfl
    refine EvC.frzB 7 (by (simp only [go_sem]) <;> rfl) ?_
    refine EvC.frzB 8 (by (simp only [go_sem]) <;> rfl) ?_
    apply EvC.seq  -- R2
    apply EvC.tr
    · apply Tr.run
      · (simp only [go_sem]) <;> rfl
      · simp
      apply Tr.cons
      · exact .call rfl rfl (by (simp only [go_sem]) <;> rfl) (by (simp only [go_sem]) <;> rfl) (by (simp only [go_sem]) <;> rfl) (by (simp only [go_sem]) <;> rfl) (by (simp only [go_sem]) <;> rfl) (by simpa [Timed.cells] using k3)
      apply Tr.done
      · (simp only [go_sem]) <;> rfl
      · simp
    refine EvC.seq ?_
    apply EvC.seq  -- R3
    apply EvC.trd
    · (simp only [go_sem]) <;> rfl
    · simp
    refine EvC.cond (by (simp only [go_sem]) <;> rfl) (fun hc => ?_) (fun hc => ?_)
    rotate_left
    · exfalso
      rcases hab with h | h <;> simp [h] at hc
    apply EvC.seq  -- R4
    apply EvC.tr
    · apply Tr.run
      · (simp only [go_sem]) <;> rfl
      · simp
      apply Tr.cons
      · exact .callG rfl rfl (by (simp only [go_sem]) <;> rfl) rfl (by (simp only [go_sem]) <;> rfl) (by (simp only [go_sem]) <;> rfl) (by (simp only [go_sem]) <;> rfl) (by (simp only [go_sem]) <;> rfl) (by (simp only [go_sem]) <;> rfl) lives_is
      apply Tr.done
      · (simp only [go_sem]) <;> rfl
      · simp
    refine EvC.ret ⟨.inl rfl, _, (by (simp only [go_sem]) <;> rfl), ?_, rfl⟩
    simp only [go_sem]
  have hia : x.timed.m.ins = y.timed.m.ins := by omega
  have hoa : x.timed.m.outs = y.timed.m.outs := by omega
  have hcux := unf_valid hvx hBx (by omega) (by omega)
  have hcuy := unf_valid hvy hBy (by omega) (by omega)
  have hux : Valid (unfMach x.timed) := .of hcux
  have huy : Valid (unfMach y.timed) := .of hcuy
  have hins : (unfMach x.timed).ins = (unfMach y.timed).ins := by show x.timed.m.ins + 1 = y.timed.m.ins + 1; rw [hia]
  have hboth : bothR (unfMach x.timed) (unfMach y.timed) = 0 := by
    unfold bothR; rw [if_neg (by rw [hcux]; simp), if_neg (by rw [hcuy]; simp), if_neg (by rw [hins]; simp)]
  have ht : teqR x.timed y.timed = ((diffO (unfMach x.timed) (unfMach y.timed)).isNone, 0) := by
    unfold teqR
    rw [if_neg (by rw [hcx]; simp), if_neg (by rw [hcy]; simp), if_neg hab, if_neg (by omega), if_neg (by omega)]
    unfold equalR
    rw [hboth]; simp
  rw [ht] at k3
  have k5 := unfoldRef_is hvx
  have k6 := unfoldRef_is hvy
  have k8 := refEqual_is hux huy hins
  rw [unfM_cells, unfM_cells] at k8
  have hR1 : ¬ 64 < ((unfAll x.timed).1.length : Int) := by omega
  have hR2 : ¬ 64 < ((unfAll y.timed).1.length : Int) := by omega
  have hI1 : ¬ 15 < x.timed.m.ins := by omega
  have hO1 : ¬ 15 < x.timed.m.outs := by omega
  have hmi : (y.m.i : Int) = x.m.i := by rw [← hxi, ← hyi, hia]
  obtain ⟨q1, _, q3⟩ := run_plain h hl
  obtain ⟨r1, _, r3⟩ := run_plain h2 hl
  rw [hmi] at r1 r3
  have he := evsOf_ok (ins := x.m.i) (by omega) hl
  have hlen := evsOf_len x.m.i l
  have hkx := unf_replies hvx hBx (es := evsOf x.m.i l) fun e h' => by rw [hxi]; have := he e h'; omega
  have hky := unf_replies hvy hBy (es := evsOf x.m.i l) fun e h' => by rw [← hia, hxi]; have := he e h'; omega
  rw [← hia, ← hoa] at hky
  have hwm := wW_mem (ins := x.timed.m.ins) (by omega) (evsOf x.m.i l) 0 fun e h' => by rw [hxi]; have := he e h'; omega
  have hsame : (diffO (unfMach x.timed) (unfMach y.timed)).isNone = true → runP x.timed (evsOf x.m.i l) (0, 0) 0 [] = runP y.timed (evsOf x.m.i l) (0, 0) 0 [] := fun hn => by
    rw [← hkx, ← hky, diff_none hux huy hins hn _ fun i hi => by have := hwm i hi; show 0 ≤ i ∧ i < x.timed.m.ins + 1; omega]
  have k4 := evsOf_is nl l c x.m.i (by omega) hl
  have k7 := run_is x.timed (LT.small h).1 (LT.small h).2 (evsOf x.m.i l).isEmpty (evsOf x.m.i l) .unk (by omega)
  have k9 := run_is y.timed (LT.small h2).1 (LT.small h2).2 (evsOf x.m.i l).isEmpty (evsOf x.m.i l) .unk (by omega)
  rw [q1] at k7
  rw [r1] at k9
  clear hkx hky hwm q1 r1 hcux hcuy hux huy hins hboth ht hab
  generalize evsOf x.m.i l = es at he hlen k4 k7 k9 q3 r3 hsame
  generalize runP x.timed es (0, 0) 0 [] = T at k7 q3 hsame
  generalize runP y.timed es (0, 0) 0 [] = T2 at k9 r3 hsame
  have k10 := replies_is T2.isEmpty T2 0 T.isEmpty T .full (by omega)
  cases hD : diffO (unfMach x.timed) (unfMach y.timed) with
  | none =>
    rw [hD] at k3 hsame
    have hs := hsame rfl
    subst hs
    have e1 : repliesR T 0 T = 1 := by simp [repliesR]
    rw [e1] at k10
    have e2 : refEqR (unfMach x.timed) (unfMach y.timed) = 1 := by unfold refEqR; rw [hD]; rfl
    rw [e2] at k8
    clear hD hsame
    generalize x.timed = px at *
    generalize y.timed = py at *
    refine EvC.seq (EvC.rg (by (simp only [go_sem, LT.cells]) <;> rfl) (by simp) ?_)  -- R0
    refine EvC.frzB 0 (by (simp only [go_sem]) <;> rfl) ?_
    refine EvC.frzB 1 (by (simp only [go_sem]) <;> rfl) ?_
    apply EvC.seq  -- R1
    apply EvC.drw mixed
    · apply Tr.run
      · (simp only [go_sem]) <;> rfl
      · simp
      apply Tr.cons
      · exact .call rfl rfl (by (simp only [go_sem]) <;> rfl) (by (simp only [go_sem]) <;> rfl) (by (simp only [go_sem]) <;> rfl) (by (simp only [go_sem]) <;> rfl) (by (simp only [go_sem]) <;> rfl) (by simpa [LT.cells] using k1)
      apply Tr.run
      · (simp only [go_sem]) <;> rfl
      · simp
      apply Tr.cons
      · exact .call rfl rfl (by (simp only [go_sem]) <;> rfl) (by (simp only [go_sem]) <;> rfl) (by (simp only [go_sem]) <;> rfl) (by (simp only [go_sem]) <;> rfl) (by (simp only [go_sem]) <;> rfl) (by simpa [LT.cells] using k2)
      apply Tr.done
      · (simp only [go_sem, Timed.cells]) <;> rfl
      · simp
    · kernel_rfl
    refine EvC.frzB 7 (by (simp only [go_sem]) <;> rfl) ?_
    refine EvC.frzB 8 (by (simp only [go_sem]) <;> rfl) ?_
    apply EvC.seq  -- R2
    apply EvC.tr
    · apply Tr.run
      · (simp only [go_sem]) <;> rfl
      · simp
      apply Tr.cons
      · exact .call rfl rfl (by (simp only [go_sem]) <;> rfl) (by (simp only [go_sem]) <;> rfl) (by (simp only [go_sem]) <;> rfl) (by (simp only [go_sem]) <;> rfl) (by (simp only [go_sem]) <;> rfl) (by simpa [Timed.cells] using k3)
      apply Tr.done
      · (simp only [go_sem]) <;> rfl
      · simp
    refine EvC.seq ?_
    apply EvC.seq  -- R3
    apply EvC.trd
    · (simp only [go_sem]) <;> rfl
    · simp
    refine EvC.cond (by (simp only [go_sem]) <;> rfl) (fun hc => ?_) (fun hc => ?_)
    · exfalso
      simp [hia, hoa] at hc
    refine EvC.skip ?_
    apply EvC.seq  -- R5
    apply EvC.drw mixed
    · apply Tr.run
      · (simp only [go_sem]) <;> rfl
      · simp
      apply Tr.cons
      · exact .call rfl rfl (by (simp only [go_sem]) <;> rfl) (by (simp only [go_sem]) <;> rfl) (by (simp only [go_sem]) <;> rfl) (by (simp only [go_sem]) <;> rfl) (by (simp only [go_sem]) <;> rfl) (by simpa [Timed.cells] using k5)
      apply Tr.run
      · (simp only [go_sem]) <;> rfl
      · simp
      apply Tr.cons
      · exact .call rfl rfl (by (simp only [go_sem]) <;> rfl) (by (simp only [go_sem]) <;> rfl) (by (simp only [go_sem]) <;> rfl) (by (simp only [go_sem]) <;> rfl) (by (simp only [go_sem]) <;> rfl) (by simpa [Timed.cells] using k6)
      apply Tr.done
      · (simp only [go_sem]) <;> rfl
      · simp
    · kernel_rfl
    refine EvC.frzB 39 (by (simp only [go_sem]) <;> rfl) ?_
    refine EvC.frzB 40 (by (simp only [go_sem]) <;> rfl) ?_
    refine EvC.seq ?_
    apply EvC.seq  -- R6
    apply EvC.trd
    · (simp only [go_sem, decide_eq_false hI1, decide_eq_false hO1, decide_eq_false hR1, decide_eq_false hR2, List.length_map]) <;> rfl
    · simp
    refine EvC.cond_false (by (simp only [go_sem]) <;> rfl) ?_
    refine EvC.skip ?_
    refine EvC.seq ?_
    apply EvC.seq  -- R8
    apply EvC.tr
    · apply Tr.run
      · (simp only [go_sem]) <;> rfl
      · simp
      apply Tr.cons
      · exact .callG rfl rfl (by (simp only [go_sem]) <;> rfl) rfl (by (simp only [go_sem]) <;> rfl) (by (simp only [go_sem]) <;> rfl) (by (simp only [go_sem]) <;> rfl) (by (simp only [go_sem]) <;> rfl) (by (simp only [go_sem]) <;> rfl) (by simpa [unfU] using k8)
      apply Tr.done
      · (simp only [go_sem]) <;> rfl
      · simp
    refine EvC.cond_false (by (simp only [go_sem]) <;> rfl) ?_
    refine EvC.skip ?_
    apply EvC.seq  -- R10
    apply EvC.tr
    · apply Tr.run
      · (simp only [go_sem]) <;> rfl
      · simp
      apply Tr.cons
      · exact .call rfl rfl (by (simp only [go_sem]) <;> rfl) (by (simp only [go_sem]) <;> rfl) (by (simp only [go_sem]) <;> rfl) (by (simp only [go_sem]) <;> rfl) (by (simp only [go_sem]) <;> rfl) (by simpa [hxi] using k4)
      apply Tr.done
      · (simp only [go_sem]) <;> rfl
      · simp
    apply EvC.seq  -- R11
    apply EvC.tr
    · apply Tr.run
      · (simp only [go_sem]) <;> rfl
      · simp
      apply Tr.cons
      · exact .call rfl rfl (by (simp only [go_sem]) <;> rfl) (by (simp only [go_sem]) <;> rfl) (by (simp only [go_sem]) <;> rfl) (by (simp only [go_sem]) <;> rfl) (by (simp only [go_sem]) <;> rfl) (by simpa [Timed.cells] using k7)
      apply Tr.done
      · (simp only [go_sem]) <;> rfl
      · simp
    apply EvC.seq  -- R12
    apply EvC.tr
    · apply Tr.run
      · (simp only [go_sem]) <;> rfl
      · simp
      apply Tr.cons
      · exact .call rfl rfl (by (simp only [go_sem]) <;> rfl) (by (simp only [go_sem]) <;> rfl) (by (simp only [go_sem]) <;> rfl) (by (simp only [go_sem]) <;> rfl) (by (simp only [go_sem]) <;> rfl) (by simpa [Timed.cells] using k9)
      apply Tr.done
      · (simp only [go_sem]) <;> rfl
      · simp
    apply EvC.seq  -- R13
    apply EvC.tr
    · apply Tr.run
      · (simp only [go_sem]) <;> rfl
      · simp
      apply Tr.cons
      · exact .callG rfl rfl (by (simp only [go_sem]) <;> rfl) rfl (by (simp only [go_sem]) <;> rfl) (by (simp only [go_sem]) <;> rfl) (by (simp only [go_sem]) <;> rfl) (by (simp only [go_sem]) <;> rfl) (by (simp only [go_sem]) <;> rfl) (by simpa using k10)
      apply Tr.run
      · (simp only [go_sem]) <;> rfl
      · simp
      apply Tr.cons
      · exact .callG rfl rfl (by (simp only [go_sem]) <;> rfl) rfl (by (simp only [go_sem]) <;> rfl) (by (simp only [go_sem]) <;> rfl) (by (simp only [go_sem]) <;> rfl) (by (simp only [go_sem]) <;> rfl) (by (simp only [go_sem]) <;> rfl) lives_is
      apply Tr.done
      · (simp only [go_sem]) <;> rfl
      · simp
    refine EvC.ret ⟨.inl rfl, _, (by (simp only [go_sem]) <;> rfl), ?_, rfl⟩
    simp only [go_sem]
  | some z =>
    rw [hD] at k3
    have e2 : refEqR (unfMach x.timed) (unfMach y.timed) = 0 := by unfold refEqR; rw [hD]; rfl
    rw [e2] at k8
    clear hD hsame
    generalize x.timed = px at *
    generalize y.timed = py at *
    refine EvC.seq (EvC.rg (by (simp only [go_sem, LT.cells]) <;> rfl) (by simp) ?_)  -- R0
    refine EvC.frzB 0 (by (simp only [go_sem]) <;> rfl) ?_
    refine EvC.frzB 1 (by (simp only [go_sem]) <;> rfl) ?_
    apply EvC.seq  -- R1
    apply EvC.drw mixed
    · apply Tr.run
      · (simp only [go_sem]) <;> rfl
      · simp
      apply Tr.cons
      · exact .call rfl rfl (by (simp only [go_sem]) <;> rfl) (by (simp only [go_sem]) <;> rfl) (by (simp only [go_sem]) <;> rfl) (by (simp only [go_sem]) <;> rfl) (by (simp only [go_sem]) <;> rfl) (by simpa [LT.cells] using k1)
      apply Tr.run
      · (simp only [go_sem]) <;> rfl
      · simp
      apply Tr.cons
      · exact .call rfl rfl (by (simp only [go_sem]) <;> rfl) (by (simp only [go_sem]) <;> rfl) (by (simp only [go_sem]) <;> rfl) (by (simp only [go_sem]) <;> rfl) (by (simp only [go_sem]) <;> rfl) (by simpa [LT.cells] using k2)
      apply Tr.done
      · (simp only [go_sem, Timed.cells]) <;> rfl
      · simp
    · kernel_rfl
    refine EvC.frzB 7 (by (simp only [go_sem]) <;> rfl) ?_
    refine EvC.frzB 8 (by (simp only [go_sem]) <;> rfl) ?_
    apply EvC.seq  -- R2
    apply EvC.tr
    · apply Tr.run
      · (simp only [go_sem]) <;> rfl
      · simp
      apply Tr.cons
      · exact .call rfl rfl (by (simp only [go_sem]) <;> rfl) (by (simp only [go_sem]) <;> rfl) (by (simp only [go_sem]) <;> rfl) (by (simp only [go_sem]) <;> rfl) (by (simp only [go_sem]) <;> rfl) (by simpa [Timed.cells] using k3)
      apply Tr.done
      · (simp only [go_sem]) <;> rfl
      · simp
    refine EvC.seq ?_
    apply EvC.seq  -- R3
    apply EvC.trd
    · (simp only [go_sem]) <;> rfl
    · simp
    refine EvC.cond (by (simp only [go_sem]) <;> rfl) (fun hc => ?_) (fun hc => ?_)
    · exfalso
      simp [hia, hoa] at hc
    refine EvC.skip ?_
    apply EvC.seq  -- R5
    apply EvC.drw mixed
    · apply Tr.run
      · (simp only [go_sem]) <;> rfl
      · simp
      apply Tr.cons
      · exact .call rfl rfl (by (simp only [go_sem]) <;> rfl) (by (simp only [go_sem]) <;> rfl) (by (simp only [go_sem]) <;> rfl) (by (simp only [go_sem]) <;> rfl) (by (simp only [go_sem]) <;> rfl) (by simpa [Timed.cells] using k5)
      apply Tr.run
      · (simp only [go_sem]) <;> rfl
      · simp
      apply Tr.cons
      · exact .call rfl rfl (by (simp only [go_sem]) <;> rfl) (by (simp only [go_sem]) <;> rfl) (by (simp only [go_sem]) <;> rfl) (by (simp only [go_sem]) <;> rfl) (by (simp only [go_sem]) <;> rfl) (by simpa [Timed.cells] using k6)
      apply Tr.done
      · (simp only [go_sem]) <;> rfl
      · simp
    · kernel_rfl
    refine EvC.frzB 39 (by (simp only [go_sem]) <;> rfl) ?_
    refine EvC.frzB 40 (by (simp only [go_sem]) <;> rfl) ?_
    refine EvC.seq ?_
    apply EvC.seq  -- R6
    apply EvC.trd
    · (simp only [go_sem, decide_eq_false hI1, decide_eq_false hO1, decide_eq_false hR1, decide_eq_false hR2, List.length_map]) <;> rfl
    · simp
    refine EvC.cond_false (by (simp only [go_sem]) <;> rfl) ?_
    refine EvC.skip ?_
    refine EvC.seq ?_
    apply EvC.seq  -- R8
    apply EvC.tr
    · apply Tr.run
      · (simp only [go_sem]) <;> rfl
      · simp
      apply Tr.cons
      · exact .callG rfl rfl (by (simp only [go_sem]) <;> rfl) rfl (by (simp only [go_sem]) <;> rfl) (by (simp only [go_sem]) <;> rfl) (by (simp only [go_sem]) <;> rfl) (by (simp only [go_sem]) <;> rfl) (by (simp only [go_sem]) <;> rfl) (by simpa [unfU] using k8)
      apply Tr.done
      · (simp only [go_sem]) <;> rfl
      · simp
    refine EvC.cond_false (by (simp only [go_sem]) <;> rfl) ?_
    refine EvC.skip ?_
    apply EvC.seq  -- R10
    apply EvC.tr
    · apply Tr.run
      · (simp only [go_sem]) <;> rfl
      · simp
      apply Tr.cons
      · exact .call rfl rfl (by (simp only [go_sem]) <;> rfl) (by (simp only [go_sem]) <;> rfl) (by (simp only [go_sem]) <;> rfl) (by (simp only [go_sem]) <;> rfl) (by (simp only [go_sem]) <;> rfl) (by simpa [hxi] using k4)
      apply Tr.done
      · (simp only [go_sem]) <;> rfl
      · simp
    apply EvC.seq  -- R11
    apply EvC.tr
    · apply Tr.run
      · (simp only [go_sem]) <;> rfl
      · simp
      apply Tr.cons
      · exact .call rfl rfl (by (simp only [go_sem]) <;> rfl) (by (simp only [go_sem]) <;> rfl) (by (simp only [go_sem]) <;> rfl) (by (simp only [go_sem]) <;> rfl) (by (simp only [go_sem]) <;> rfl) (by simpa [Timed.cells] using k7)
      apply Tr.done
      · (simp only [go_sem]) <;> rfl
      · simp
    apply EvC.seq  -- R12
    apply EvC.tr
    · apply Tr.run
      · (simp only [go_sem]) <;> rfl
      · simp
      apply Tr.cons
      · exact .call rfl rfl (by (simp only [go_sem]) <;> rfl) (by (simp only [go_sem]) <;> rfl) (by (simp only [go_sem]) <;> rfl) (by (simp only [go_sem]) <;> rfl) (by (simp only [go_sem]) <;> rfl) (by simpa [Timed.cells] using k9)
      apply Tr.done
      · (simp only [go_sem]) <;> rfl
      · simp
    apply EvC.seq  -- R13
    apply EvC.tr
    · apply Tr.run
      · (simp only [go_sem]) <;> rfl
      · simp
      apply Tr.cons
      · exact .skipv (.sc (.int .i64 0)) rfl rfl (by (simp only [go_sem]) <;> rfl) (by (simp only [go_sem]) <;> rfl)
      apply Tr.run
      · (simp only [go_sem]) <;> rfl
      · simp
      apply Tr.cons
      · exact .callG rfl rfl (by (simp only [go_sem]) <;> rfl) rfl (by (simp only [go_sem]) <;> rfl) (by (simp only [go_sem]) <;> rfl) (by (simp only [go_sem]) <;> rfl) (by (simp only [go_sem]) <;> rfl) (by (simp only [go_sem]) <;> rfl) lives_is
      apply Tr.done
      · (simp only [go_sem]) <;> rfl
      · simp
    refine EvC.ret ⟨.inl rfl, _, (by (simp only [go_sem]) <;> rfl), ?_, rfl⟩
    simp only [go_sem]
end Go.Avl
namespace Go.Avl
open Go Go.Proofs.Try
set_option maxRecDepth 10000
set_option linter.unusedSimpArgs false

theorem sumR_get : ∀ (l : List Row), 0 ≤ sumR l ∧ ∀ r ∈ l, (r.2.length : Int) ≤ sumR l
  | [] => ⟨Int.le_refl _, fun r h => by cases h⟩
  | a :: l => by
    obtain ⟨h1, h2⟩ := sumR_get l
    simp only [sumR]
    refine ⟨by omega, fun r h => ?_⟩
    rcases List.mem_cons.1 h with rfl | h
    · omega
    · have := h2 r h; omega
theorem great_small {x : Timed} (h : greatR x = 0) : (∀ r ∈ x.m.rows, r.2.length < 1000000) ∧ x.ts.length < 1000000 := by
  unfold greatR at h
  split at h
  · cases h
  · rename_i hn
    have h1 : x.m.rows.take 71 = x.m.rows := List.take_of_length_le (by omega)
    rw [h1] at hn
    refine ⟨fun r hr => ?_, by omega⟩
    have := (sumR_get x.m.rows).2 r hr
    omega
theorem great_bit (x : Timed) : greatR x = 1 ∨ greatR x = 0 := by unfold greatR; split <;> simp
theorem runA_cases (x : Timed) (es : List Evt) (h : checkT x = 0) : ∃ (nl : Bool) (rs : List (List AV)) (cap : Cp) (e : Int), runA x es = .tu [.sl nl rs cap, .sc (.int .i64 e)] ∧
    ((checkEvts x.m.ins es ≠ 0 ∧ e = checkEvts x.m.ins es ∧ rs = []) ∨ (checkEvts x.m.ins es = 0 ∧ e = 0) ∨ (checkEvts x.m.ins es = 0 ∧ e = 3 ∧ rs = [])) := by
  unfold runA
  rw [if_neg (by rw [h]; simp)]
  split
  · rename_i h1; exact ⟨_, _, _, _, rfl, .inl ⟨h1, rfl, rfl⟩⟩
  · rename_i h1
    have h1 : checkEvts x.m.ins es = 0 := by simpa using h1
    split
    · exact ⟨_, _, _, _, rfl, .inr (.inl ⟨h1, rfl⟩)⟩
    · exact ⟨_, _, _, _, rfl, .inr (.inr ⟨h1, rfl, rfl⟩)⟩
theorem unfoldA_cases (x : Timed) (h : checkT x = 0) : ∃ (i o : Int) (nl : Bool) (rs : List (List AV)) (cap : Cp) (f : Int), unfoldA x = .tu [.ag [.sc (.int .i64 i), .sc (.int .i64 o), .sl nl rs cap], .sc (.int .i64 f)] ∧
    ((x.m.ins = 16 ∨ x.m.outs = 16) → f = 3 ∧ rs = []) := by
  unfold unfoldA
  rw [if_neg (by rw [h]; simp)]
  split
  · exact ⟨_, _, _, _, _, _, rfl, fun _ => ⟨rfl, rfl⟩⟩
  · rename_i h1
    split
    · exact ⟨_, _, _, _, _, _, rfl, fun h2 => absurd h2 h1⟩
    · exact ⟨_, _, _, _, _, _, rfl, fun h2 => absurd h2 h1⟩

set_option maxHeartbeats 4000000 in
theorem timersErrors_is (x y : Timed) (hx : ∀ r ∈ x.m.rows, (r.2.length : Int) ≤ 140737488355328) (hy : ∀ r ∈ y.m.rows, (r.2.length : Int) ≤ 140737488355328) (nl : Bool) (es : List Evt) (c : Cp) (hel : (es.length : Int) ≤ 140737488355328) :
    PureIs prog 7 [.ag x.cells, .ag y.cells, .sl nl (es.map edgeC) c] (.sc (.bool true)) := by
  refine PureIs.of (nv := 5) (hid := [6, 7, 8, 9, 10, 11, 12, 13, 14, 15, 28, 43, 46, 67, 83, 96, 139]) func7 rfl (by kernel_rfl) (by simp [ntmps7]) fun _ => ?_
  rw [ntmps7, results7]
  have k1 := great_is x hx
  have k2 := great_is y hy
  rcases great_bit x with g1 | g1
  · rw [g1] at k1
    refine EvC.seq (EvC.rg (by (simp only [go_sem, Timed.cells]) <;> rfl) (by simp) ?_)  -- R0
    refine EvC.frzB 0 (by (simp only [go_sem]) <;> rfl) ?_
    refine EvC.frzB 1 (by (simp only [go_sem]) <;> rfl) ?_
    refine EvC.seq ?_
    apply EvC.seq  -- R1
    apply EvC.tr
    · apply Tr.run
      · (simp only [go_sem]) <;> rfl
      · simp
      apply Tr.cons
      · exact .call rfl rfl (by (simp only [go_sem]) <;> rfl) (by (simp only [go_sem]) <;> rfl) (by (simp only [go_sem]) <;> rfl) (by (simp only [go_sem]) <;> rfl) (by (simp only [go_sem]) <;> rfl) (by simpa [Timed.cells] using k1)
      apply Tr.run
      · (simp only [go_sem]) <;> rfl
      · simp
      apply Tr.cons
      · exact .skipv (.sc (.int .i64 0)) rfl rfl (by (simp only [go_sem]) <;> rfl) (by (simp only [go_sem]) <;> rfl)
      apply Tr.done
      · (simp only [go_sem]) <;> rfl
      · simp
    refine EvC.cond_true (by (simp only [go_sem]) <;> rfl) ?_
    apply EvC.seq  -- R2
    apply EvC.tr
    · apply Tr.run
      · (simp only [go_sem]) <;> rfl
      · simp
      apply Tr.cons
      · exact .call rfl rfl (by (simp only [go_sem]) <;> rfl) (by (simp only [go_sem]) <;> rfl) (by (simp only [go_sem]) <;> rfl) (by (simp only [go_sem]) <;> rfl) (by (simp only [go_sem]) <;> rfl) lives_is
      apply Tr.done
      · (simp only [go_sem]) <;> rfl
      · simp
    refine EvC.ret ⟨.inl rfl, _, (by (simp only [go_sem]) <;> rfl), ?_, rfl⟩
    simp only [go_sem]
  have sx := great_small g1
  rw [g1] at k1
  rcases great_bit y with g2 | g2
  · rw [g2] at k2
    refine EvC.seq (EvC.rg (by (simp only [go_sem, Timed.cells]) <;> rfl) (by simp) ?_)  -- R0
    refine EvC.frzB 0 (by (simp only [go_sem]) <;> rfl) ?_
    refine EvC.frzB 1 (by (simp only [go_sem]) <;> rfl) ?_
    refine EvC.seq ?_
    apply EvC.seq  -- R1
    apply EvC.tr
    · apply Tr.run
      · (simp only [go_sem]) <;> rfl
      · simp
      apply Tr.cons
      · exact .call rfl rfl (by (simp only [go_sem]) <;> rfl) (by (simp only [go_sem]) <;> rfl) (by (simp only [go_sem]) <;> rfl) (by (simp only [go_sem]) <;> rfl) (by (simp only [go_sem]) <;> rfl) (by simpa [Timed.cells] using k1)
      apply Tr.run
      · (simp only [go_sem]) <;> rfl
      · simp
      apply Tr.cons
      · exact .callG rfl rfl (by (simp only [go_sem]) <;> rfl) rfl (by (simp only [go_sem]) <;> rfl) (by (simp only [go_sem]) <;> rfl) (by (simp only [go_sem]) <;> rfl) (by (simp only [go_sem]) <;> rfl) (by (simp only [go_sem]) <;> rfl) (by simpa [Timed.cells] using k2)
      apply Tr.done
      · (simp only [go_sem]) <;> rfl
      · simp
    refine EvC.cond_true (by (simp only [go_sem]) <;> rfl) ?_
    apply EvC.seq  -- R2
    apply EvC.tr
    · apply Tr.run
      · (simp only [go_sem]) <;> rfl
      · simp
      apply Tr.cons
      · exact .call rfl rfl (by (simp only [go_sem]) <;> rfl) (by (simp only [go_sem]) <;> rfl) (by (simp only [go_sem]) <;> rfl) (by (simp only [go_sem]) <;> rfl) (by (simp only [go_sem]) <;> rfl) lives_is
      apply Tr.done
      · (simp only [go_sem]) <;> rfl
      · simp
    refine EvC.ret ⟨.inl rfl, _, (by (simp only [go_sem]) <;> rfl), ?_, rfl⟩
    simp only [go_sem]
  have sy := great_small g2
  rw [g2] at k2
  by_cases hel3 : (300 : Int) < es.length
  · refine EvC.seq (EvC.rg (by (simp only [go_sem, Timed.cells]) <;> rfl) (by simp) ?_)  -- R0
    refine EvC.frzB 0 (by (simp only [go_sem]) <;> rfl) ?_
    refine EvC.frzB 1 (by (simp only [go_sem]) <;> rfl) ?_
    refine EvC.seq ?_
    apply EvC.seq  -- R1
    apply EvC.tr
    · apply Tr.run
      · (simp only [go_sem]) <;> rfl
      · simp
      apply Tr.cons
      · exact .call rfl rfl (by (simp only [go_sem]) <;> rfl) (by (simp only [go_sem]) <;> rfl) (by (simp only [go_sem]) <;> rfl) (by (simp only [go_sem]) <;> rfl) (by (simp only [go_sem]) <;> rfl) (by simpa [Timed.cells] using k1)
      apply Tr.run
      · (simp only [go_sem]) <;> rfl
      · simp
      apply Tr.cons
      · exact .callG rfl rfl (by (simp only [go_sem]) <;> rfl) rfl (by (simp only [go_sem]) <;> rfl) (by (simp only [go_sem]) <;> rfl) (by (simp only [go_sem]) <;> rfl) (by (simp only [go_sem]) <;> rfl) (by (simp only [go_sem]) <;> rfl) (by simpa [Timed.cells] using k2)
      apply Tr.done
      · (simp only [go_sem, decide_eq_true hel3]) <;> rfl
      · simp
    refine EvC.cond_true (by (simp only [go_sem]) <;> rfl) ?_
    apply EvC.seq  -- R2
    apply EvC.tr
    · apply Tr.run
      · (simp only [go_sem]) <;> rfl
      · simp
      apply Tr.cons
      · exact .call rfl rfl (by (simp only [go_sem]) <;> rfl) (by (simp only [go_sem]) <;> rfl) (by (simp only [go_sem]) <;> rfl) (by (simp only [go_sem]) <;> rfl) (by (simp only [go_sem]) <;> rfl) lives_is
      apply Tr.done
      · (simp only [go_sem]) <;> rfl
      · simp
    refine EvC.ret ⟨.inl rfl, _, (by (simp only [go_sem]) <;> rfl), ?_, rfl⟩
    simp only [go_sem]
  have hel2 : es.length < 1000000 := by omega
  have k3 := lawCheck_is x sx.1 sx.2
  have k4 := lawCheck_is y sy.1 sy.2
  have k5 := checkT_is x sx.1 sx.2
  have k6 := checkT_is y sy.1 sy.2
  rw [lawCheck_eq] at k3 k4
  have k7 := teq_is x y sx sy
  have k8 := run_is x sx.1 sx.2 nl es c hel2
  have k9 := unfold_is x sx.1 sx.2
  have k10 := events_is nl es c x.m.ins hel2
  have ec : ∀ n : Int, decide (n = n) = true := fun n => by simp
  by_cases h1 : checkT x = 0
  rotate_left
  · have e1 : decide (checkT x = 0) = false := decide_eq_false h1
    have ht : teqR x y = (false, checkT x) := by unfold teqR; rw [if_pos h1]
    have hr : runA x es = nilE (checkT x) := by unfold runA; rw [if_pos h1]
    have hu : unfoldA x = .tu [zeroM, .sc (.int .i64 (checkT x))] := by unfold unfoldA; rw [if_pos h1]
    rw [ht] at k7
    rw [hr] at k8
    rw [hu] at k9
    clear ht hr hu
    generalize checkT x = one at *
    generalize checkT y = two at *
    refine EvC.seq (EvC.rg (by (simp only [go_sem, Timed.cells]) <;> rfl) (by simp) ?_)  -- R0
    refine EvC.frzB 0 (by (simp only [go_sem]) <;> rfl) ?_
    refine EvC.frzB 1 (by (simp only [go_sem]) <;> rfl) ?_
    refine EvC.seq ?_
    apply EvC.seq  -- R1
    apply EvC.tr
    · apply Tr.run
      · (simp only [go_sem]) <;> rfl
      · simp
      apply Tr.cons
      · exact .call rfl rfl (by (simp only [go_sem]) <;> rfl) (by (simp only [go_sem]) <;> rfl) (by (simp only [go_sem]) <;> rfl) (by (simp only [go_sem]) <;> rfl) (by (simp only [go_sem]) <;> rfl) (by simpa [Timed.cells] using k1)
      apply Tr.run
      · (simp only [go_sem]) <;> rfl
      · simp
      apply Tr.cons
      · exact .callG rfl rfl (by (simp only [go_sem]) <;> rfl) rfl (by (simp only [go_sem]) <;> rfl) (by (simp only [go_sem]) <;> rfl) (by (simp only [go_sem]) <;> rfl) (by (simp only [go_sem]) <;> rfl) (by (simp only [go_sem]) <;> rfl) (by simpa [Timed.cells] using k2)
      apply Tr.done
      · (simp only [go_sem, decide_eq_false hel3]) <;> rfl
      · simp
    refine EvC.cond_false (by (simp only [go_sem]) <;> rfl) ?_
    refine EvC.skip ?_
    apply EvC.seq  -- R3
    apply EvC.drw mixed
    · apply Tr.run
      · (simp only [go_sem]) <;> rfl
      · simp
      apply Tr.cons
      · exact .call rfl rfl (by (simp only [go_sem]) <;> rfl) (by (simp only [go_sem]) <;> rfl) (by (simp only [go_sem]) <;> rfl) (by (simp only [go_sem]) <;> rfl) (by (simp only [go_sem]) <;> rfl) (by simpa [Timed.cells] using k3)
      apply Tr.run
      · (simp only [go_sem]) <;> rfl
      · simp
      apply Tr.cons
      · exact .call rfl rfl (by (simp only [go_sem]) <;> rfl) (by (simp only [go_sem]) <;> rfl) (by (simp only [go_sem]) <;> rfl) (by (simp only [go_sem]) <;> rfl) (by (simp only [go_sem]) <;> rfl) (by simpa [Timed.cells] using k4)
      apply Tr.done
      · (simp only [go_sem]) <;> rfl
      · simp
    · kernel_rfl
    refine EvC.seq ?_
    apply EvC.seq  -- R4
    apply EvC.tr
    · apply Tr.run
      · (simp only [go_sem, ec]) <;> rfl
      · simp
      apply Tr.cons
      · exact .call rfl rfl (by (simp only [go_sem]) <;> rfl) (by (simp only [go_sem]) <;> rfl) (by (simp only [go_sem]) <;> rfl) (by (simp only [go_sem]) <;> rfl) (by (simp only [go_sem]) <;> rfl) (by simpa [Timed.cells] using k5)
      apply Tr.run
      · (simp only [go_sem, ec]) <;> rfl
      · simp
      apply Tr.cons
      · exact .callG rfl rfl (by (simp only [go_sem]) <;> rfl) rfl (by (simp only [go_sem]) <;> rfl) (by (simp only [go_sem]) <;> rfl) (by (simp only [go_sem]) <;> rfl) (by (simp only [go_sem]) <;> rfl) (by (simp only [go_sem]) <;> rfl) (by simpa [Timed.cells] using k6)
      apply Tr.done
      · (simp only [go_sem, ec]) <;> rfl
      · simp
    refine EvC.cond_false (by (simp only [go_sem]) <;> rfl) ?_
    refine EvC.skip ?_
    refine EvC.seq (EvC.rg (by (simp only [go_sem]) <;> rfl) (by simp) ?_)  -- R6
    refine EvC.seq ?_
    refine EvC.seq (EvC.rg (by (simp only [go_sem, e1]) <;> rfl) (by simp) ?_)  -- R7
    refine EvC.cond_false (by (simp only [go_sem]) <;> rfl) ?_
    refine EvC.skip ?_
    refine EvC.seq ?_
    apply EvC.seq  -- R9
    apply EvC.trd
    · (simp only [go_sem, e1]) <;> rfl
    · simp
    refine EvC.cond_false (by (simp only [go_sem]) <;> rfl) ?_
    refine EvC.skip ?_
    apply EvC.seq  -- R11
    apply EvC.tr
    · apply Tr.run
      · (simp only [go_sem]) <;> rfl
      · simp
      apply Tr.cons
      · exact .call rfl rfl (by (simp only [go_sem]) <;> rfl) (by (simp only [go_sem]) <;> rfl) (by (simp only [go_sem]) <;> rfl) (by (simp only [go_sem]) <;> rfl) (by (simp only [go_sem]) <;> rfl) (by simpa [Timed.cells] using k7)
      apply Tr.done
      · (simp only [go_sem]) <;> rfl
      · simp
    refine EvC.seq ?_
    apply EvC.seq  -- R12
    apply EvC.trd
    · (simp only [go_sem, ec, e1]) <;> rfl
    · simp
    refine EvC.cond_false (by (simp only [go_sem]) <;> rfl) ?_
    refine EvC.skip ?_
    apply EvC.seq  -- R14
    apply EvC.tr
    · apply Tr.run
      · (simp only [go_sem]) <;> rfl
      · simp
      apply Tr.cons
      · exact .call rfl rfl (by (simp only [go_sem]) <;> rfl) (by (simp only [go_sem]) <;> rfl) (by (simp only [go_sem]) <;> rfl) (by (simp only [go_sem]) <;> rfl) (by (simp only [go_sem]) <;> rfl) (by simpa [Timed.cells] using k8)
      apply Tr.done
      · (simp only [go_sem, nilE]) <;> rfl
      · simp
    apply EvC.seq  -- R15
    apply EvC.tr
    · apply Tr.run
      · (simp only [go_sem]) <;> rfl
      · simp
      apply Tr.cons
      · exact .call rfl rfl (by (simp only [go_sem]) <;> rfl) (by (simp only [go_sem]) <;> rfl) (by (simp only [go_sem]) <;> rfl) (by (simp only [go_sem]) <;> rfl) (by (simp only [go_sem]) <;> rfl) (by simpa [Timed.cells] using k9)
      apply Tr.done
      · (simp only [go_sem, zeroM]) <;> rfl
      · simp
    refine EvC.seq ?_
    refine EvC.seq (EvC.rg (by (simp only [go_sem, e1]) <;> rfl) (by simp) ?_)  -- R16
    refine EvC.cond_true (by (simp only [go_sem]) <;> rfl) ?_
    apply EvC.seq  -- R17
    apply EvC.tr
    · apply Tr.run
      · (simp only [go_sem, ec]) <;> rfl
      · simp; exact inI64_of (by omega) (by omega)
      apply Tr.cons
      · exact .callG rfl rfl (by (simp only [go_sem, ec]) <;> rfl) rfl (by (simp only [go_sem]) <;> rfl) (by (simp only [go_sem]) <;> rfl) (by (simp only [go_sem]) <;> rfl) (by (simp only [go_sem]) <;> rfl) (by (simp only [go_sem]) <;> rfl) lives_is
      apply Tr.done
      · (simp only [go_sem, ec]) <;> rfl
      · simp
    refine EvC.ret ⟨.inl rfl, _, (by (simp only [go_sem]) <;> rfl), ?_, rfl⟩
    simp only [go_sem]
  obtain ⟨rn, rs, rc, e, hr, hrc⟩ := runA_cases x es h1
  obtain ⟨ui, uo, un, us, uc, f, hu, huc⟩ := unfoldA_cases x h1
  rw [hr] at k8
  rw [hu] at k9
  rw [h1] at k3 k5
  clear hr hu
  by_cases h2 : checkT y = 0
  rotate_left
  · have ht : teqR x y = (false, checkT y) := by unfold teqR; rw [if_neg (by rw [h1]; simp), if_pos h2]
    have e3 : decide (checkT y = 0) = false := decide_eq_false h2
    rw [ht] at k7
    clear ht
    generalize checkT y = two at *
    refine EvC.seq (EvC.rg (by (simp only [go_sem, Timed.cells]) <;> rfl) (by simp) ?_)  -- R0
    refine EvC.frzB 0 (by (simp only [go_sem]) <;> rfl) ?_
    refine EvC.frzB 1 (by (simp only [go_sem]) <;> rfl) ?_
    refine EvC.seq ?_
    apply EvC.seq  -- R1
    apply EvC.tr
    · apply Tr.run
      · (simp only [go_sem]) <;> rfl
      · simp
      apply Tr.cons
      · exact .call rfl rfl (by (simp only [go_sem]) <;> rfl) (by (simp only [go_sem]) <;> rfl) (by (simp only [go_sem]) <;> rfl) (by (simp only [go_sem]) <;> rfl) (by (simp only [go_sem]) <;> rfl) (by simpa [Timed.cells] using k1)
      apply Tr.run
      · (simp only [go_sem]) <;> rfl
      · simp
      apply Tr.cons
      · exact .callG rfl rfl (by (simp only [go_sem]) <;> rfl) rfl (by (simp only [go_sem]) <;> rfl) (by (simp only [go_sem]) <;> rfl) (by (simp only [go_sem]) <;> rfl) (by (simp only [go_sem]) <;> rfl) (by (simp only [go_sem]) <;> rfl) (by simpa [Timed.cells] using k2)
      apply Tr.done
      · (simp only [go_sem, decide_eq_false hel3]) <;> rfl
      · simp
    refine EvC.cond_false (by (simp only [go_sem]) <;> rfl) ?_
    refine EvC.skip ?_
    apply EvC.seq  -- R3
    apply EvC.drw mixed
    · apply Tr.run
      · (simp only [go_sem]) <;> rfl
      · simp
      apply Tr.cons
      · exact .call rfl rfl (by (simp only [go_sem]) <;> rfl) (by (simp only [go_sem]) <;> rfl) (by (simp only [go_sem]) <;> rfl) (by (simp only [go_sem]) <;> rfl) (by (simp only [go_sem]) <;> rfl) (by simpa [Timed.cells] using k3)
      apply Tr.run
      · (simp only [go_sem]) <;> rfl
      · simp
      apply Tr.cons
      · exact .call rfl rfl (by (simp only [go_sem]) <;> rfl) (by (simp only [go_sem]) <;> rfl) (by (simp only [go_sem]) <;> rfl) (by (simp only [go_sem]) <;> rfl) (by (simp only [go_sem]) <;> rfl) (by simpa [Timed.cells] using k4)
      apply Tr.done
      · (simp only [go_sem]) <;> rfl
      · simp
    · kernel_rfl
    refine EvC.seq ?_
    apply EvC.seq  -- R4
    apply EvC.tr
    · apply Tr.run
      · (simp only [go_sem, ec]) <;> rfl
      · simp
      apply Tr.cons
      · exact .call rfl rfl (by (simp only [go_sem]) <;> rfl) (by (simp only [go_sem]) <;> rfl) (by (simp only [go_sem]) <;> rfl) (by (simp only [go_sem]) <;> rfl) (by (simp only [go_sem]) <;> rfl) (by simpa [Timed.cells] using k5)
      apply Tr.run
      · (simp only [go_sem, ec]) <;> rfl
      · simp
      apply Tr.cons
      · exact .callG rfl rfl (by (simp only [go_sem]) <;> rfl) rfl (by (simp only [go_sem]) <;> rfl) (by (simp only [go_sem]) <;> rfl) (by (simp only [go_sem]) <;> rfl) (by (simp only [go_sem]) <;> rfl) (by (simp only [go_sem]) <;> rfl) (by simpa [Timed.cells] using k6)
      apply Tr.done
      · (simp only [go_sem, ec]) <;> rfl
      · simp
    refine EvC.cond_false (by (simp only [go_sem]) <;> rfl) ?_
    refine EvC.skip ?_
    refine EvC.seq (EvC.rg (by (simp only [go_sem]) <;> rfl) (by simp) ?_)  -- R6
    refine EvC.seq ?_
    refine EvC.seq (EvC.rg (by (simp only [go_sem]) <;> rfl) (by simp) ?_)  -- R7
    refine EvC.cond_true (by (simp only [go_sem]) <;> rfl) ?_
    refine EvC.rg (by (simp only [go_sem]) <;> rfl) (by simp) ?_  -- R8
    refine EvC.seq ?_
    apply EvC.seq  -- R9
    apply EvC.trd
    · (simp only [go_sem, e3]) <;> rfl
    · simp
    refine EvC.cond_false (by (simp only [go_sem]) <;> rfl) ?_
    refine EvC.skip ?_
    apply EvC.seq  -- R11
    apply EvC.tr
    · apply Tr.run
      · (simp only [go_sem]) <;> rfl
      · simp
      apply Tr.cons
      · exact .call rfl rfl (by (simp only [go_sem]) <;> rfl) (by (simp only [go_sem]) <;> rfl) (by (simp only [go_sem]) <;> rfl) (by (simp only [go_sem]) <;> rfl) (by (simp only [go_sem]) <;> rfl) (by simpa [Timed.cells] using k7)
      apply Tr.done
      · (simp only [go_sem]) <;> rfl
      · simp
    refine EvC.seq ?_
    apply EvC.seq  -- R12
    apply EvC.trd
    · (simp only [go_sem, ec, e3]) <;> rfl
    · simp
    refine EvC.cond_false (by (simp only [go_sem]) <;> rfl) ?_
    refine EvC.skip ?_
    apply EvC.seq  -- R14
    apply EvC.tr
    · apply Tr.run
      · (simp only [go_sem]) <;> rfl
      · simp
      apply Tr.cons
      · exact .call rfl rfl (by (simp only [go_sem]) <;> rfl) (by (simp only [go_sem]) <;> rfl) (by (simp only [go_sem]) <;> rfl) (by (simp only [go_sem]) <;> rfl) (by (simp only [go_sem]) <;> rfl) (by simpa [Timed.cells] using k8)
      apply Tr.done
      · (simp only [go_sem]) <;> rfl
      · simp
    apply EvC.seq  -- R15
    apply EvC.tr
    · apply Tr.run
      · (simp only [go_sem]) <;> rfl
      · simp
      apply Tr.cons
      · exact .call rfl rfl (by (simp only [go_sem]) <;> rfl) (by (simp only [go_sem]) <;> rfl) (by (simp only [go_sem]) <;> rfl) (by (simp only [go_sem]) <;> rfl) (by (simp only [go_sem]) <;> rfl) (by simpa [Timed.cells] using k9)
      apply Tr.done
      · (simp only [go_sem]) <;> rfl
      · simp
    refine EvC.seq ?_
    refine EvC.seq (EvC.rg (by (simp only [go_sem]) <;> rfl) (by simp) ?_)  -- R16
    refine EvC.cond_false (by (simp only [go_sem]) <;> rfl) ?_
    refine EvC.skip ?_
    refine EvC.seq ?_
    apply EvC.seq  -- R18
    apply EvC.trd
    · (simp only [go_sem]) <;> rfl
    · simp
    refine EvC.cond (by (simp only [go_sem]) <;> rfl) (fun hc => ?_) (fun hc => ?_)
    · exfalso
      by_cases h16 : x.m.ins = 16 ∨ x.m.outs = 16
      · obtain ⟨rfl, rfl⟩ := huc h16
        simp at hc
      · have h17 : ¬ x.m.ins = 16 ∧ ¬ x.m.outs = 16 := by omega
        simp [h17.1, h17.2] at hc
    refine EvC.skip ?_
    apply EvC.seq  -- R20
    apply EvC.tr
    · apply Tr.run
      · (simp only [go_sem]) <;> rfl
      · simp
      apply Tr.cons
      · exact .call rfl rfl (by (simp only [go_sem]) <;> rfl) (by (simp only [go_sem]) <;> rfl) (by (simp only [go_sem]) <;> rfl) (by (simp only [go_sem]) <;> rfl) (by (simp only [go_sem]) <;> rfl) (by simpa [Timed.cells] using k10)
      apply Tr.done
      · (simp only [go_sem]) <;> rfl
      · simp
    generalize checkEvts x.m.ins es = bad at *
    rcases hrc with ⟨hb, rfl, rfl⟩ | ⟨rfl, rfl⟩ | ⟨rfl, rfl, rfl⟩
    · have e2 : decide (e = 0) = false := decide_eq_false hb
      apply EvC.seq  -- R21
      apply EvC.tr
      · apply Tr.run
        · (simp only [go_sem, ec, e2]) <;> rfl
        · simp
        apply Tr.cons
        · exact .callG rfl rfl (by (simp only [go_sem, ec, e2]) <;> rfl) rfl (by (simp only [go_sem]) <;> rfl) (by (simp only [go_sem]) <;> rfl) (by (simp only [go_sem]) <;> rfl) (by (simp only [go_sem]) <;> rfl) (by (simp only [go_sem]) <;> rfl) lives_is
        apply Tr.done
        · (simp only [go_sem, ec, e2]) <;> rfl
        · simp
      refine EvC.ret ⟨.inl rfl, _, (by (simp only [go_sem]) <;> rfl), ?_, rfl⟩
      simp only [go_sem]
    · apply EvC.seq  -- R21
      apply EvC.tr
      · apply Tr.run
        · (simp only [go_sem]) <;> rfl
        · simp
        apply Tr.cons
        · exact .callG rfl rfl (by (simp only [go_sem]) <;> rfl) rfl (by (simp only [go_sem]) <;> rfl) (by (simp only [go_sem]) <;> rfl) (by (simp only [go_sem]) <;> rfl) (by (simp only [go_sem]) <;> rfl) (by (simp only [go_sem]) <;> rfl) lives_is
        apply Tr.done
        · (simp only [go_sem]) <;> rfl
        · simp
      refine EvC.ret ⟨.inl rfl, _, (by (simp only [go_sem]) <;> rfl), ?_, rfl⟩
      simp only [go_sem]
    · apply EvC.seq  -- R21
      apply EvC.tr
      · apply Tr.run
        · (simp only [go_sem]) <;> rfl
        · simp
        apply Tr.cons
        · exact .callG rfl rfl (by (simp only [go_sem]) <;> rfl) rfl (by (simp only [go_sem]) <;> rfl) (by (simp only [go_sem]) <;> rfl) (by (simp only [go_sem]) <;> rfl) (by (simp only [go_sem]) <;> rfl) (by (simp only [go_sem]) <;> rfl) lives_is
        apply Tr.done
        · (simp only [go_sem]) <;> rfl
        · simp
      refine EvC.ret ⟨.inl rfl, _, (by (simp only [go_sem]) <;> rfl), ?_, rfl⟩
      simp only [go_sem]
  rw [h2] at k4 k6
  by_cases hab : x.m.ins ≠ y.m.ins ∨ x.m.outs ≠ y.m.outs
  · have ht : teqR x y = (false, 5) := by unfold teqR; rw [if_neg (by rw [h1]; simp), if_neg (by rw [h2]; simp), if_pos hab]
    rw [ht] at k7
    clear ht
    refine EvC.seq (EvC.rg (by (simp only [go_sem, Timed.cells]) <;> rfl) (by simp) ?_)  -- R0
    refine EvC.frzB 0 (by (simp only [go_sem]) <;> rfl) ?_
    refine EvC.frzB 1 (by (simp only [go_sem]) <;> rfl) ?_
    refine EvC.seq ?_
    apply EvC.seq  -- R1
    apply EvC.tr
    · apply Tr.run
      · (simp only [go_sem]) <;> rfl
      · simp
      apply Tr.cons
      · exact .call rfl rfl (by (simp only [go_sem]) <;> rfl) (by (simp only [go_sem]) <;> rfl) (by (simp only [go_sem]) <;> rfl) (by (simp only [go_sem]) <;> rfl) (by (simp only [go_sem]) <;> rfl) (by simpa [Timed.cells] using k1)
      apply Tr.run
      · (simp only [go_sem]) <;> rfl
      · simp
      apply Tr.cons
      · exact .callG rfl rfl (by (simp only [go_sem]) <;> rfl) rfl (by (simp only [go_sem]) <;> rfl) (by (simp only [go_sem]) <;> rfl) (by (simp only [go_sem]) <;> rfl) (by (simp only [go_sem]) <;> rfl) (by (simp only [go_sem]) <;> rfl) (by simpa [Timed.cells] using k2)
      apply Tr.done
      · (simp only [go_sem, decide_eq_false hel3]) <;> rfl
      · simp
    refine EvC.cond_false (by (simp only [go_sem]) <;> rfl) ?_
    refine EvC.skip ?_
    apply EvC.seq  -- R3
    apply EvC.drw mixed
    · apply Tr.run
      · (simp only [go_sem]) <;> rfl
      · simp
      apply Tr.cons
      · exact .call rfl rfl (by (simp only [go_sem]) <;> rfl) (by (simp only [go_sem]) <;> rfl) (by (simp only [go_sem]) <;> rfl) (by (simp only [go_sem]) <;> rfl) (by (simp only [go_sem]) <;> rfl) (by simpa [Timed.cells] using k3)
      apply Tr.run
      · (simp only [go_sem]) <;> rfl
      · simp
      apply Tr.cons
      · exact .call rfl rfl (by (simp only [go_sem]) <;> rfl) (by (simp only [go_sem]) <;> rfl) (by (simp only [go_sem]) <;> rfl) (by (simp only [go_sem]) <;> rfl) (by (simp only [go_sem]) <;> rfl) (by simpa [Timed.cells] using k4)
      apply Tr.done
      · (simp only [go_sem]) <;> rfl
      · simp
    · kernel_rfl
    refine EvC.seq ?_
    apply EvC.seq  -- R4
    apply EvC.tr
    · apply Tr.run
      · (simp only [go_sem, ec]) <;> rfl
      · simp
      apply Tr.cons
      · exact .call rfl rfl (by (simp only [go_sem]) <;> rfl) (by (simp only [go_sem]) <;> rfl) (by (simp only [go_sem]) <;> rfl) (by (simp only [go_sem]) <;> rfl) (by (simp only [go_sem]) <;> rfl) (by simpa [Timed.cells] using k5)
      apply Tr.run
      · (simp only [go_sem, ec]) <;> rfl
      · simp
      apply Tr.cons
      · exact .callG rfl rfl (by (simp only [go_sem]) <;> rfl) rfl (by (simp only [go_sem]) <;> rfl) (by (simp only [go_sem]) <;> rfl) (by (simp only [go_sem]) <;> rfl) (by (simp only [go_sem]) <;> rfl) (by (simp only [go_sem]) <;> rfl) (by simpa [Timed.cells] using k6)
      apply Tr.done
      · (simp only [go_sem, ec]) <;> rfl
      · simp
    refine EvC.cond_false (by (simp only [go_sem]) <;> rfl) ?_
    refine EvC.skip ?_
    refine EvC.seq (EvC.rg (by (simp only [go_sem]) <;> rfl) (by simp) ?_)  -- R6
    refine EvC.seq ?_
    refine EvC.seq (EvC.rg (by (simp only [go_sem]) <;> rfl) (by simp) ?_)  -- R7
    refine EvC.cond_true (by (simp only [go_sem]) <;> rfl) ?_
    refine EvC.rg (by (simp only [go_sem]) <;> rfl) (by simp) ?_  -- R8
    refine EvC.seq ?_
    apply EvC.seq  -- R9
    apply EvC.trd
    · (simp only [go_sem]) <;> rfl
    · simp
    refine EvC.cond (by (simp only [go_sem]) <;> rfl) (fun hc => ?_) (fun hc => ?_)
    rotate_left
    · exfalso
      rcases hab with h | h <;> simp [h] at hc
    refine EvC.rg (by (simp only [go_sem]) <;> rfl) (by simp) ?_  -- R10
    apply EvC.seq  -- R11
    apply EvC.tr
    · apply Tr.run
      · (simp only [go_sem]) <;> rfl
      · simp
      apply Tr.cons
      · exact .call rfl rfl (by (simp only [go_sem]) <;> rfl) (by (simp only [go_sem]) <;> rfl) (by (simp only [go_sem]) <;> rfl) (by (simp only [go_sem]) <;> rfl) (by (simp only [go_sem]) <;> rfl) (by simpa [Timed.cells] using k7)
      apply Tr.done
      · (simp only [go_sem]) <;> rfl
      · simp
    refine EvC.seq ?_
    apply EvC.seq  -- R12
    apply EvC.trd
    · (simp only [go_sem]) <;> rfl
    · simp
    refine EvC.cond_false (by (simp only [go_sem]) <;> rfl) ?_
    refine EvC.skip ?_
    apply EvC.seq  -- R14
    apply EvC.tr
    · apply Tr.run
      · (simp only [go_sem]) <;> rfl
      · simp
      apply Tr.cons
      · exact .call rfl rfl (by (simp only [go_sem]) <;> rfl) (by (simp only [go_sem]) <;> rfl) (by (simp only [go_sem]) <;> rfl) (by (simp only [go_sem]) <;> rfl) (by (simp only [go_sem]) <;> rfl) (by simpa [Timed.cells] using k8)
      apply Tr.done
      · (simp only [go_sem]) <;> rfl
      · simp
    apply EvC.seq  -- R15
    apply EvC.tr
    · apply Tr.run
      · (simp only [go_sem]) <;> rfl
      · simp
      apply Tr.cons
      · exact .call rfl rfl (by (simp only [go_sem]) <;> rfl) (by (simp only [go_sem]) <;> rfl) (by (simp only [go_sem]) <;> rfl) (by (simp only [go_sem]) <;> rfl) (by (simp only [go_sem]) <;> rfl) (by simpa [Timed.cells] using k9)
      apply Tr.done
      · (simp only [go_sem]) <;> rfl
      · simp
    refine EvC.seq ?_
    refine EvC.seq (EvC.rg (by (simp only [go_sem]) <;> rfl) (by simp) ?_)  -- R16
    refine EvC.cond_false (by (simp only [go_sem]) <;> rfl) ?_
    refine EvC.skip ?_
    refine EvC.seq ?_
    apply EvC.seq  -- R18
    apply EvC.trd
    · (simp only [go_sem]) <;> rfl
    · simp
    refine EvC.cond (by (simp only [go_sem]) <;> rfl) (fun hc => ?_) (fun hc => ?_)
    · exfalso
      by_cases h16 : x.m.ins = 16 ∨ x.m.outs = 16
      · obtain ⟨rfl, rfl⟩ := huc h16
        simp at hc
      · have h17 : ¬ x.m.ins = 16 ∧ ¬ x.m.outs = 16 := by omega
        simp [h17.1, h17.2] at hc
    refine EvC.skip ?_
    apply EvC.seq  -- R20
    apply EvC.tr
    · apply Tr.run
      · (simp only [go_sem]) <;> rfl
      · simp
      apply Tr.cons
      · exact .call rfl rfl (by (simp only [go_sem]) <;> rfl) (by (simp only [go_sem]) <;> rfl) (by (simp only [go_sem]) <;> rfl) (by (simp only [go_sem]) <;> rfl) (by (simp only [go_sem]) <;> rfl) (by simpa [Timed.cells] using k10)
      apply Tr.done
      · (simp only [go_sem]) <;> rfl
      · simp
    generalize checkEvts x.m.ins es = bad at *
    rcases hrc with ⟨hb, rfl, rfl⟩ | ⟨rfl, rfl⟩ | ⟨rfl, rfl, rfl⟩
    · have e2 : decide (e = 0) = false := decide_eq_false hb
      apply EvC.seq  -- R21
      apply EvC.tr
      · apply Tr.run
        · (simp only [go_sem, ec, e2]) <;> rfl
        · simp
        apply Tr.cons
        · exact .callG rfl rfl (by (simp only [go_sem, ec, e2]) <;> rfl) rfl (by (simp only [go_sem]) <;> rfl) (by (simp only [go_sem]) <;> rfl) (by (simp only [go_sem]) <;> rfl) (by (simp only [go_sem]) <;> rfl) (by (simp only [go_sem]) <;> rfl) lives_is
        apply Tr.done
        · (simp only [go_sem, ec, e2]) <;> rfl
        · simp
      refine EvC.ret ⟨.inl rfl, _, (by (simp only [go_sem]) <;> rfl), ?_, rfl⟩
      simp only [go_sem]
    · apply EvC.seq  -- R21
      apply EvC.tr
      · apply Tr.run
        · (simp only [go_sem]) <;> rfl
        · simp
        apply Tr.cons
        · exact .callG rfl rfl (by (simp only [go_sem]) <;> rfl) rfl (by (simp only [go_sem]) <;> rfl) (by (simp only [go_sem]) <;> rfl) (by (simp only [go_sem]) <;> rfl) (by (simp only [go_sem]) <;> rfl) (by (simp only [go_sem]) <;> rfl) lives_is
        apply Tr.done
        · (simp only [go_sem]) <;> rfl
        · simp
      refine EvC.ret ⟨.inl rfl, _, (by (simp only [go_sem]) <;> rfl), ?_, rfl⟩
      simp only [go_sem]
    · apply EvC.seq  -- R21
      apply EvC.tr
      · apply Tr.run
        · (simp only [go_sem]) <;> rfl
        · simp
        apply Tr.cons
        · exact .callG rfl rfl (by (simp only [go_sem]) <;> rfl) rfl (by (simp only [go_sem]) <;> rfl) (by (simp only [go_sem]) <;> rfl) (by (simp only [go_sem]) <;> rfl) (by (simp only [go_sem]) <;> rfl) (by (simp only [go_sem]) <;> rfl) lives_is
        apply Tr.done
        · (simp only [go_sem]) <;> rfl
        · simp
      refine EvC.ret ⟨.inl rfl, _, (by (simp only [go_sem]) <;> rfl), ?_, rfl⟩
      simp only [go_sem]
  · generalize teqR x y = tq at *
    refine EvC.seq (EvC.rg (by (simp only [go_sem, Timed.cells]) <;> rfl) (by simp) ?_)  -- R0
    refine EvC.frzB 0 (by (simp only [go_sem]) <;> rfl) ?_
    refine EvC.frzB 1 (by (simp only [go_sem]) <;> rfl) ?_
    refine EvC.seq ?_
    apply EvC.seq  -- R1
    apply EvC.tr
    · apply Tr.run
      · (simp only [go_sem]) <;> rfl
      · simp
      apply Tr.cons
      · exact .call rfl rfl (by (simp only [go_sem]) <;> rfl) (by (simp only [go_sem]) <;> rfl) (by (simp only [go_sem]) <;> rfl) (by (simp only [go_sem]) <;> rfl) (by (simp only [go_sem]) <;> rfl) (by simpa [Timed.cells] using k1)
      apply Tr.run
      · (simp only [go_sem]) <;> rfl
      · simp
      apply Tr.cons
      · exact .callG rfl rfl (by (simp only [go_sem]) <;> rfl) rfl (by (simp only [go_sem]) <;> rfl) (by (simp only [go_sem]) <;> rfl) (by (simp only [go_sem]) <;> rfl) (by (simp only [go_sem]) <;> rfl) (by (simp only [go_sem]) <;> rfl) (by simpa [Timed.cells] using k2)
      apply Tr.done
      · (simp only [go_sem, decide_eq_false hel3]) <;> rfl
      · simp
    refine EvC.cond_false (by (simp only [go_sem]) <;> rfl) ?_
    refine EvC.skip ?_
    apply EvC.seq  -- R3
    apply EvC.drw mixed
    · apply Tr.run
      · (simp only [go_sem]) <;> rfl
      · simp
      apply Tr.cons
      · exact .call rfl rfl (by (simp only [go_sem]) <;> rfl) (by (simp only [go_sem]) <;> rfl) (by (simp only [go_sem]) <;> rfl) (by (simp only [go_sem]) <;> rfl) (by (simp only [go_sem]) <;> rfl) (by simpa [Timed.cells] using k3)
      apply Tr.run
      · (simp only [go_sem]) <;> rfl
      · simp
      apply Tr.cons
      · exact .call rfl rfl (by (simp only [go_sem]) <;> rfl) (by (simp only [go_sem]) <;> rfl) (by (simp only [go_sem]) <;> rfl) (by (simp only [go_sem]) <;> rfl) (by (simp only [go_sem]) <;> rfl) (by simpa [Timed.cells] using k4)
      apply Tr.done
      · (simp only [go_sem]) <;> rfl
      · simp
    · kernel_rfl
    refine EvC.seq ?_
    apply EvC.seq  -- R4
    apply EvC.tr
    · apply Tr.run
      · (simp only [go_sem, ec]) <;> rfl
      · simp
      apply Tr.cons
      · exact .call rfl rfl (by (simp only [go_sem]) <;> rfl) (by (simp only [go_sem]) <;> rfl) (by (simp only [go_sem]) <;> rfl) (by (simp only [go_sem]) <;> rfl) (by (simp only [go_sem]) <;> rfl) (by simpa [Timed.cells] using k5)
      apply Tr.run
      · (simp only [go_sem, ec]) <;> rfl
      · simp
      apply Tr.cons
      · exact .callG rfl rfl (by (simp only [go_sem]) <;> rfl) rfl (by (simp only [go_sem]) <;> rfl) (by (simp only [go_sem]) <;> rfl) (by (simp only [go_sem]) <;> rfl) (by (simp only [go_sem]) <;> rfl) (by (simp only [go_sem]) <;> rfl) (by simpa [Timed.cells] using k6)
      apply Tr.done
      · (simp only [go_sem, ec]) <;> rfl
      · simp
    refine EvC.cond_false (by (simp only [go_sem]) <;> rfl) ?_
    refine EvC.skip ?_
    refine EvC.seq (EvC.rg (by (simp only [go_sem]) <;> rfl) (by simp) ?_)  -- R6
    refine EvC.seq ?_
    refine EvC.seq (EvC.rg (by (simp only [go_sem]) <;> rfl) (by simp) ?_)  -- R7
    refine EvC.cond_true (by (simp only [go_sem]) <;> rfl) ?_
    refine EvC.rg (by (simp only [go_sem]) <;> rfl) (by simp) ?_  -- R8
    refine EvC.seq ?_
    apply EvC.seq  -- R9
    apply EvC.trd
    · (simp only [go_sem]) <;> rfl
    · simp
    refine EvC.cond (by (simp only [go_sem]) <;> rfl) (fun hc => ?_) (fun hc => ?_)
    · exfalso
      have h17 : x.m.ins = y.m.ins ∧ x.m.outs = y.m.outs := by omega
      simp [h17.1, h17.2] at hc
    refine EvC.skip ?_
    apply EvC.seq  -- R11
    apply EvC.tr
    · apply Tr.run
      · (simp only [go_sem]) <;> rfl
      · simp
      apply Tr.cons
      · exact .call rfl rfl (by (simp only [go_sem]) <;> rfl) (by (simp only [go_sem]) <;> rfl) (by (simp only [go_sem]) <;> rfl) (by (simp only [go_sem]) <;> rfl) (by (simp only [go_sem]) <;> rfl) (by simpa [Timed.cells] using k7)
      apply Tr.done
      · (simp only [go_sem]) <;> rfl
      · simp
    refine EvC.seq ?_
    apply EvC.seq  -- R12
    apply EvC.trd
    · (simp only [go_sem]) <;> rfl
    · simp
    refine EvC.cond_false (by (simp only [go_sem]) <;> rfl) ?_
    refine EvC.skip ?_
    apply EvC.seq  -- R14
    apply EvC.tr
    · apply Tr.run
      · (simp only [go_sem]) <;> rfl
      · simp
      apply Tr.cons
      · exact .call rfl rfl (by (simp only [go_sem]) <;> rfl) (by (simp only [go_sem]) <;> rfl) (by (simp only [go_sem]) <;> rfl) (by (simp only [go_sem]) <;> rfl) (by (simp only [go_sem]) <;> rfl) (by simpa [Timed.cells] using k8)
      apply Tr.done
      · (simp only [go_sem]) <;> rfl
      · simp
    apply EvC.seq  -- R15
    apply EvC.tr
    · apply Tr.run
      · (simp only [go_sem]) <;> rfl
      · simp
      apply Tr.cons
      · exact .call rfl rfl (by (simp only [go_sem]) <;> rfl) (by (simp only [go_sem]) <;> rfl) (by (simp only [go_sem]) <;> rfl) (by (simp only [go_sem]) <;> rfl) (by (simp only [go_sem]) <;> rfl) (by simpa [Timed.cells] using k9)
      apply Tr.done
      · (simp only [go_sem]) <;> rfl
      · simp
    refine EvC.seq ?_
    refine EvC.seq (EvC.rg (by (simp only [go_sem]) <;> rfl) (by simp) ?_)  -- R16
    refine EvC.cond_false (by (simp only [go_sem]) <;> rfl) ?_
    refine EvC.skip ?_
    refine EvC.seq ?_
    apply EvC.seq  -- R18
    apply EvC.trd
    · (simp only [go_sem]) <;> rfl
    · simp
    refine EvC.cond (by (simp only [go_sem]) <;> rfl) (fun hc => ?_) (fun hc => ?_)
    · exfalso
      by_cases h16 : x.m.ins = 16 ∨ x.m.outs = 16
      · obtain ⟨rfl, rfl⟩ := huc h16
        simp at hc
      · have h17 : ¬ x.m.ins = 16 ∧ ¬ x.m.outs = 16 := by omega
        simp [h17.1, h17.2] at hc
    refine EvC.skip ?_
    apply EvC.seq  -- R20
    apply EvC.tr
    · apply Tr.run
      · (simp only [go_sem]) <;> rfl
      · simp
      apply Tr.cons
      · exact .call rfl rfl (by (simp only [go_sem]) <;> rfl) (by (simp only [go_sem]) <;> rfl) (by (simp only [go_sem]) <;> rfl) (by (simp only [go_sem]) <;> rfl) (by (simp only [go_sem]) <;> rfl) (by simpa [Timed.cells] using k10)
      apply Tr.done
      · (simp only [go_sem]) <;> rfl
      · simp
    generalize checkEvts x.m.ins es = bad at *
    rcases hrc with ⟨hb, rfl, rfl⟩ | ⟨rfl, rfl⟩ | ⟨rfl, rfl, rfl⟩
    · have e2 : decide (e = 0) = false := decide_eq_false hb
      apply EvC.seq  -- R21
      apply EvC.tr
      · apply Tr.run
        · (simp only [go_sem, ec, e2]) <;> rfl
        · simp
        apply Tr.cons
        · exact .callG rfl rfl (by (simp only [go_sem, ec, e2]) <;> rfl) rfl (by (simp only [go_sem]) <;> rfl) (by (simp only [go_sem]) <;> rfl) (by (simp only [go_sem]) <;> rfl) (by (simp only [go_sem]) <;> rfl) (by (simp only [go_sem]) <;> rfl) lives_is
        apply Tr.done
        · (simp only [go_sem, ec, e2]) <;> rfl
        · simp
      refine EvC.ret ⟨.inl rfl, _, (by (simp only [go_sem]) <;> rfl), ?_, rfl⟩
      simp only [go_sem]
    · apply EvC.seq  -- R21
      apply EvC.tr
      · apply Tr.run
        · (simp only [go_sem]) <;> rfl
        · simp
        apply Tr.cons
        · exact .callG rfl rfl (by (simp only [go_sem]) <;> rfl) rfl (by (simp only [go_sem]) <;> rfl) (by (simp only [go_sem]) <;> rfl) (by (simp only [go_sem]) <;> rfl) (by (simp only [go_sem]) <;> rfl) (by (simp only [go_sem]) <;> rfl) lives_is
        apply Tr.done
        · (simp only [go_sem]) <;> rfl
        · simp
      refine EvC.ret ⟨.inl rfl, _, (by (simp only [go_sem]) <;> rfl), ?_, rfl⟩
      simp only [go_sem]
    · apply EvC.seq  -- R21
      apply EvC.tr
      · apply Tr.run
        · (simp only [go_sem]) <;> rfl
        · simp
        apply Tr.cons
        · exact .callG rfl rfl (by (simp only [go_sem]) <;> rfl) rfl (by (simp only [go_sem]) <;> rfl) (by (simp only [go_sem]) <;> rfl) (by (simp only [go_sem]) <;> rfl) (by (simp only [go_sem]) <;> rfl) (by (simp only [go_sem]) <;> rfl) lives_is
        apply Tr.done
        · (simp only [go_sem]) <;> rfl
        · simp
      refine EvC.ret ⟨.inl rfl, _, (by (simp only [go_sem]) <;> rfl), ?_, rfl⟩
      simp only [go_sem]
end Go.Avl
namespace Go.Avl
open Go Go.Proofs.Try
set_option maxRecDepth 10000
set_option linter.unusedSimpArgs false

theorem lamp63_len : checkT (lampT 63) = 0 ∧ (unfAll (lampT 63)).2.length = 64 ∧ (unfAll (lampT 63)).1.length = 64 := by decide +kernel
theorem lamp64_len : checkT (lampT 64) = 0 ∧ 64 < (unfAll (lampT 64)).2.length := by decide +kernel
theorem lamp257 : checkT (lampT 257) = 1 := by decide +kernel
/-- A clock that ticks. -/
def clockT : Timed := ⟨⟨1, 1, false, [(false, [(0, 0)])]⟩, false, [(1, 0, 0)]⟩
theorem clock_ok : checkT clockT = 0 := by decide +kernel
theorem clock_ticks : ∀ (k : Nat) (now : Int) (out : List Rep), ticksP clockT k (0, 0) now out = ((0, 0), out ++ (List.range k).map fun j => (now + (j + 1 : Nat), (0 : Int)))
  | 0, now, out => by simp [ticksP]
  | k + 1, now, out => by
    have e : tick1 clockT (0, 0) now out = ((0, 0), out ++ [(now + 1, 0)]) := by
      have : timAt clockT 0 = (1, 0, 0) := by decide
      unfold tick1; rw [this]; rfl
    rw [ticksP, e]
    simp only
    rw [clock_ticks k (now + 1), List.range_succ_eq_map, List.map_cons, List.map_map, List.append_assoc]
    simp only [List.singleton_append, Nat.zero_add, Int.natCast_one]
    congr 4
    funext j
    simp only [Function.comp, Prod.mk.injEq, and_true]
    omega
theorem clock_step : stepR clockT.m 0 0 = (0, 0) := by decide
def tkR (now : Int) (k : Nat) : List Rep := (List.range k).map (fun j => (now + (j + 1 : Nat), (0 : Int))) ++ [(now + k, 0)]
theorem tkR_len (now : Int) (k : Nat) : (tkR now k).length = k + 1 := by simp [tkR]
def clkR : List Nat → Int → List Rep
  | [], _ => []
  | k :: ks, now => tkR now k ++ clkR ks (now + k)
theorem clock_run : ∀ (ks : List Nat) (now : Int) (out : List Rep), runP clockT (ks.map fun (k : Nat) => ((k : Int), (0 : Int))) (0, 0) now out = out ++ clkR ks now
  | [], now, out => by simp [runP, clkR]
  | k :: ks, now, out => by
    simp only [List.map_cons, runP, Int.toNat_natCast, clock_ticks, clock_step]
    rw [if_neg (by omega), clock_run ks]
    simp only [clkR, tkR, List.append_assoc]
theorem clock4 : runP clockT [(1024, 0), (1024, 0), (1024, 0), (1020, 0)] (0, 0) 0 [] = clkR [1024, 1024, 1024, 1020] 0 := clock_run [1024, 1024, 1024, 1020] 0 []
theorem clock5 : runP clockT [(1024, 0), (1024, 0), (1024, 0), (1021, 0)] (0, 0) 0 [] = clkR [1024, 1024, 1024, 1021] 0 := clock_run [1024, 1024, 1024, 1021] 0 []
theorem clock4_len : (clkR [1024, 1024, 1024, 1020] 0).length = 4096 := by simp [clkR, tkR_len]
theorem clock5_len : (clkR [1024, 1024, 1024, 1021] 0).length = 4097 := by simp [clkR, tkR_len]
theorem clock4_last : (clkR [1024, 1024, 1024, 1020] 0)[4095]? = some (4092, 0) := by
  simp only [clkR, List.append_nil]
  rw [List.getElem?_append_right (by rw [tkR_len]; omega), List.getElem?_append_right (by simp only [tkR_len]; omega), List.getElem?_append_right (by simp only [tkR_len]; omega)]
  simp only [tkR_len]
  unfold tkR
  rw [List.getElem?_append_right (by simp)]
  simp
/-- A lamp whose button does nothing when it is on. -/
def onceT : Timed := ⟨⟨1, 2, false, [(false, [(1, 0)]), (false, [(-1, -1)])]⟩, false, [(0, 0, 0), (256, 0, 1)]⟩
theorem once_run : checkT onceT = 0 ∧ runP onceT [(0, 0), (256, 0), (255, 0), (0, 0)] (0, 0) 0 [] = [(0, 0), (256, 1), (256, 0), (511, -1)] := by decide +kernel
def fullT : Timed := ⟨⟨16, 1, false, [(false, List.replicate 16 (0, 0))]⟩, false, [(0, 0, 0)]⟩
theorem full_ok : checkT fullT = 0 := by decide +kernel
end Go.Avl
namespace Go.Avl
open Go

/-- A result that may hold references. -/
def resOneR (P : Program) (fr : Fr) (st : St) : ResultVar → Option AV
  | .tmp t => some (st.get fr t)
  | .cell a t => resOne P fr st (.cell a t)
def resAllR (P : Program) (fr : Fr) (st : St) : List ResultVar → Option (List AV)
  | [] => some []
  | x :: xs => match resOneR P fr st x, resAllR P fr st xs with
    | some v, some vs => some (v :: vs)
    | _, _ => none

section
variable {P : Program} {fr : Fr} {ro : Option Nat} {ds : DS} {st st' : St} {Q Q' : Exit → St → Prop} {G G' : Nat → Option Value} {F F' : Nat → Nat → Prop} {a : Act} {w w' : World} {x y c : Code}
  {M : Mem} {ops : Array Oper} {l rest : List Oper} {o : Oper}

theorem Step.all {nx : Nat} {M' : Mem} (hf : ∀ j, nx ≤ j → G j = none) (S : Step (· < nx) G F M w G' F' M' w') : Step All G F M w G' F' M' w' :=
  have lt : ∀ id, G id ≠ none → id < nx := fun id h => Nat.lt_of_not_le fun hle => h (hf id hle)
  { size := S.size, out := S.out, F1 := S.F1, F2 := S.F2, F3 := S.F3, own := S.own, kept := S.kept
    some' := fun id _ h => S.some' id (lt id h) h
    same := fun id v _ h hn => S.same id v (lt id (by rw [h]; simp)) h hn
    keep := fun id o' _ h ho => S.keep id o' (lt id h) h ho }

theorem resAllR_ok (s : SimA P fr ds G F st a w) : ∀ {xs : List ResultVar} {rs : List AV}, resAllR P fr st xs = some rs →
    ∃ us : List Value, (xs.mapM (resVar a.tmps)).run P w = .ok us w ∧ us.length = rs.length ∧ ∀ i (h1 : i < us.length) (h2 : i < rs.length), RV G F st.mem w us[i] rs[i]
  | [], rs, h => by
    cases h
    exact ⟨[], by simp, rfl, fun _ h => absurd h (Nat.not_lt_zero _)⟩
  | x :: xs, rs, h => by
    simp only [resAllR] at h
    split at h
    · rename_i v vs hv hvs
      cases h
      have h1 : ∃ u, (resVar a.tmps x).run P w = .ok u w ∧ RV G F st.mem w u v := by
        cases x with
        | cell p t => exact resOne_ok s hv
        | tmp t => cases hv; exact ⟨_, rfl, s.sim.slots t⟩
      obtain ⟨u, h1, h2⟩ := h1
      obtain ⟨us, h3, h4, h5⟩ := resAllR_ok s hvs
      refine ⟨u :: us, by simp [List.mapM_cons, h1, h3], by simp [h4], fun i hi hj => ?_⟩
      cases i with
      | zero => exact h2
      | succ i => exact h5 i (by simpa using hi) (by simpa using hj)
    · cases h
theorem resultsR_ok (s : SimA P fr ds G F st a w) {fn : Func} {rs : List AV} (h : resAllR P fr st fn.results.toList = some rs) : ∃ u, (results fn a.tmps).run P w = .ok u w ∧ RV G F st.mem w u (mkRes rs) := by
  obtain ⟨us, h1, h2, h3⟩ := resAllR_ok s h
  refine ⟨if h : us.toArray.size = 1 then us.toArray[0] else .tuple us.toArray, ?_, ?_⟩
  · rw [results_eq, Array.mapM_eq_mapM_toList]
    simp [h1]
  · match us, rs, h2 with
    | [], [], _ => exact .tu [] [] rfl (fun _ h => absurd h (Nat.not_lt_zero _))
    | [u], [r], _ => exact h3 0 (by simp) (by simp)
    | u :: u' :: us, r :: r' :: rs, h2 =>
      simp only [List.size_toArray, List.length_cons, mkRes]
      rw [dif_neg (by omega)]
      exact .tu _ _ h2 h3

def bodyArgs (fr : Fr) (st : St) (args : Array Operand) : List AV := args.toList.map fun x => od fr st true x

theorem SimA.callB {f : FuncId} {fn : Func} {cs : List AV} {callee : Operand} {args : Array Operand} {tys : Array TypeId} {xs : List AV} {nv : Nat} {hid : List Nat} {R : AV → Mem → Nat → Prop} {K : Act → World → Prop} {Q1 : Exit → Act → World → Prop}
    (s : SimA P fr ds G F st a w) (hop : o.op = .call ⟨.value callee, args, tys⟩) (hd : ∀ k, o.dst = some k → k < fr.sz) (hcal : od fr st true callee = .fn f cs)
    (hxs : bodyArgs fr st args ++ cs = xs) (hf : P.funcs[f]? = some fn) (hb : fn.body = some c) (hnm : (fn.name == "runtime.NumGoroutine") = false) (hsz : xs.length ≤ fn.ntmps)
    (hbody : ∀ h0 : Nat, EvC P ⟨st.nx, nv, hid, fn.ntmps⟩ none ⟨h0, none, false⟩ c ⟨vars0 0 xs, [], st.mem, st.nx⟩ fun e st' => (e = .ret ∨ e = .normal) ∧ ∃ rs, resAllR P ⟨st.nx, nv, hid, fn.ntmps⟩ st' fn.results.toList = some rs ∧ R (mkRes rs) st'.mem st'.nx)
    (h : ∀ G' F' a' w' r M' nx', R r M' nx' → SimA P fr ds G' F' ((⟨st.vars, st.tmps, M', nx'⟩ : St).put fr o.dst r) a' w' → Step All G F st.mem w G' F' M' w' → K a' w') : o.wpIn (fc ro) 0 P a w K Q1 := by
  refine ⟨fun _ _ => trivial, ?_⟩
  rw [Oper.semAt_eq _ _ _ (by rw [hop]; intro c h; cases h)]
  have hv := (s.eval callee).unopt
  have hv : RV G F st.mem w (a.eval callee) (.fn f cs) := by unfold od at hcal; rwa [hcal] at hv
  obtain ⟨vs, hev, hl, hcs⟩ := hv.inv_fn
  have hca : callable P f := callable_of hf hnm (by rw [hb]; rfl)
  have hrun : (execOp a.eval o).run P w = .ok (.enter f ((args.toList.map a.eval ++ vs).toArray)) w := by
    obtain ⟨dst, op, ty, pos, after, guard⟩ := o
    simp only at hop
    subst hop
    simp only [execOp, resolve, hev, Deferred.ofValue, Sem.run_bind, Sem.run_pure, Result.andThen_ok, invoke]
    rw [hca]
    congr 2
    apply Array.ext'
    simp
  rw [hrun]
  obtain ⟨vals, hvals⟩ : ∃ vals, vals = args.toList.map a.eval ++ vs := ⟨_, rfl⟩
  have hi : vals.length = xs.length ∧ ∀ i (h1 : i < vals.length) (h2 : i < xs.length), RV G F st.mem w vals[i] xs[i] := by
    subst hxs
    subst hvals
    refine ⟨by simp [bodyArgs, hl], fun i h1 h2 => ?_⟩
    by_cases hlt : i < args.toList.length
    · rw [List.getElem_append_left (by simpa using hlt), List.getElem_append_left (by simpa [bodyArgs] using hlt)]
      simp only [bodyArgs, List.getElem_map]
      exact (s.eval _).unopt
    · rw [List.getElem_append_right (by simpa using hlt), List.getElem_append_right (by simpa [bodyArgs] using hlt)]
      simp only [List.length_map, bodyArgs]
      exact hcs _ _ _
  rw [← hvals]
  have s0 : SimA P ⟨st.nx, nv, hid, fn.ntmps⟩ ⟨w.heap.size, none, false⟩ G F ⟨vars0 0 xs, [], st.mem, st.nx⟩ { tmps := vals.toArray ++ Array.replicate (fn.ntmps - vals.toArray.size) undef, defers := [] } w := by
    refine ⟨⟨s.sim.mem, fun k => ?_, by simp; omega⟩, s.fresh, Marks.none _ _ _ (Nat.le_refl _)⟩
    have key : ∀ x, (x = .junk ∨ ∃ h : k < xs.length, x = xs[k]) → RV G F st.mem w ((vals.toArray ++ Array.replicate (fn.ntmps - vals.toArray.size) undef).getD k undef) x := by
      rintro x (rfl | ⟨hk, rfl⟩)
      · exact .imm (.junk _)
      · have : (vals.toArray ++ Array.replicate (fn.ntmps - vals.toArray.size) undef).getD k undef = vals[k]'(by omega) := by
          rw [Array.getD_eq_getD_getElem?, Array.getElem?_append_left (by simp; omega)]
          simp [List.getElem?_eq_getElem (show k < vals.length by omega)]
        rw [this]
        exact hi.2 k (by omega) hk
    refine key _ ?_
    unfold St.get
    split
    · rcases alook_vars0 xs 0 k with h | ⟨h1, h2, h3⟩
      · exact .inl h
      · exact .inr ⟨by simpa using h1, by simpa using h3⟩
    · exact .inl rfl
  have hcall : CallsIn Fence.wide 0 P f vals.toArray w fun e w2 => ∃ u G' F' r M' nx', e = .returned u ∧ R r M' nx' ∧ RV G' F' M' w2 u r ∧ SimM P G' F' M' nx' w2 ∧ (∀ j, nx' ≤ j → G' j = none) ∧ Step All G F st.mem w G' F' M' w2 := by
    refine callsIn_of_wp_marks (F := Fence.wide) hf hb trivial (wpIn_mono (hbody _ _ _ _ _ _ _ _ _ .refl s0) ?_)
    rintro e a' w' ⟨G', F', st', s', S', he, rs, hrs, hR⟩
    have SA := S'.all s.fresh
    have hfin : ∀ (Ds : List Nat) (w2 : World), Ds.Nodup → (∀ D ∈ Ds, w.heap.size ≤ D ∧ w2.heap[D]? = some (.deferred (some []))) → SimA P ⟨st.nx, nv, hid, fn.ntmps⟩ ⟨w.heap.size, none, false⟩ G' F' st' { a' with defers := [] } w2 → Step All G F st.mem w G' F' st'.mem w2 →
        LeavesInM Fence.wide 0 P fn a'.tmps (fun e w2 => ∃ u G' F' r M' nx', e = .returned u ∧ R r M' nx' ∧ RV G' F' M' w2 u r ∧ SimM P G' F' M' nx' w2 ∧ (∀ j, nx' ≤ j → G' j = none) ∧ Step All G F st.mem w G' F' M' w2) (Ds.map dmark) .returning w2 := by
      intro Ds
      induction Ds with
      | nil =>
        intro w2 _ _ s2 S2
        obtain ⟨u, hu, hru⟩ := resultsR_ok s2 hrs
        exact ⟨u, hu, u, G', F', mkRes rs, st'.mem, st'.nx, rfl, hR, hru, s2.sim.mem, s'.fresh, S2⟩
      | cons D Ds ih =>
        intro w2 hnd hD s2 S2
        obtain ⟨h1, h2⟩ := hD D List.mem_cons_self
        have hnd := List.nodup_cons.1 hnd
        have hk : ∀ (b : Nat) (o : Obj), w2.heap[b]? = some o → isData o = true → (w2.putObj D (.deferred none)).heap[b]? = some o := fun b o hb ho => by
          rw [World.putObj_heap_other (by rintro rfl; rw [h2] at hb; cases hb; cases ho)]; exact hb
        refine ⟨(by intro h; cases h), .inl ⟨D, _, rfl, run_takeDeferred h2, ih _ hnd.2 (fun D' hD' => ?_) ⟨⟨s2.sim.mem.keepData hk (by rw [World.putObj_size]; exact Nat.le_refl _), fun k => (s2.sim.slots k).keepData hk, s2.sim.size⟩, s2.fresh, Marks.none _ _ _ (by rw [World.putObj_size]; exact S2.size)⟩ ?_⟩⟩
        · refine ⟨(hD D' (List.mem_cons_of_mem _ hD')).1, ?_⟩
          rw [World.putObj_heap_other (by rintro rfl; exact hnd.1 hD')]; exact (hD D' (List.mem_cons_of_mem _ hD')).2
        · exact S2.putAbove h1 h2 rfl rfl
    obtain ⟨⟨Ds, hDs, hnd, hD⟩, _⟩ := s'.defers
    have := hfin Ds w' hnd hD ⟨⟨s'.sim.mem, s'.sim.slots, s'.sim.size⟩, s'.fresh, Marks.none _ _ _ SA.size⟩ SA
    rw [← hDs] at this
    rcases he with rfl | rfl
    · exact this
    · exact this
  refine ⟨fun h => by simp [fc, Fence.wide] at h, callsIn_fc (hcall.mono ?_)⟩
  rintro e w2 ⟨u, G', F', r, M', nx', rfl, hR, hru, hm, hfr, S2⟩
  exact h G' F' _ w2 r M' nx' hR (s.step_put (st1 := ⟨st.vars, st.tmps, M', nx'⟩) S2 hm rfl rfl hfr hd hru) S2

/-- A call by the callee's body. -/
theorem XR.callB {f : FuncId} {fn : Func} {cs : List AV} {callee : Operand} {args : Array Operand} {tys : Array TypeId} {xs : List AV} (nv : Nat) (hid : List Nat) (hg : o.guard = none) (hop : o.op = .call ⟨.value callee, args, tys⟩) (hd : dok fr o.dst = true)
    (hcal : od fr st true callee = .fn f cs) (hxs : bodyArgs fr st args ++ cs = xs) (hf : P.funcs[f]? = some fn) (hb : fn.body = some c) (hnm : (fn.name == "runtime.NumGoroutine") = false) (hsz : xs.length ≤ fn.ntmps)
    (hbody : ∀ h0 : Nat, EvC P ⟨st.nx, nv, hid, fn.ntmps⟩ none ⟨h0, none, false⟩ c ⟨vars0 0 xs, [], st.mem, st.nx⟩ fun e st' => (e = .ret ∨ e = .normal) ∧ ∃ rs, resAllR P ⟨st.nx, nv, hid, fn.ntmps⟩ st' fn.results.toList = some rs ∧
      XR P fr ro ds ops rest ((⟨st.vars, st.tmps, st'.mem, st'.nx⟩ : St).put fr o.dst (mkRes rs)) Q) : XR P fr ro ds ops (o :: rest) st Q :=
  fun _ _ _ _ _ _ _ _ S s => wpListIn_plain hg fun K hK => s.callB (R := fun r M' nx' => XR P fr ro ds ops rest ((⟨st.vars, st.tmps, M', nx'⟩ : St).put fr o.dst r) Q) hop (dok_spec hd) hcal hxs hf hb hnm hsz hbody
    fun _ _ _ _ _ _ _ hR s' S' => hK _ _ (hR _ _ _ _ _ _ _ _ (S.trans (by rw [St.put_mem]; exact S'.mono fun _ _ => trivial)) s')
end
end Go.Avl
namespace Go.Avl
open Go

/-- A contract: the result lies in new cells. -/
def PureFr (P : Program) (f : FuncId) (args : List AV) (r : AV) : Prop :=
  callable P f ∧ ∀ F w vals, (∀ b o, F b o → b < w.heap.size) → Imms F w vals args →
    CallsIn Fence.wide 0 P f vals.toArray w fun e w' => ∃ v Fr, e = .returned v ∧ Imm Fr w' v r ∧ (∀ b o, Fr b o → w.heap.size ≤ b ∧ b < w'.heap.size) ∧ Grown F w (fun b o => F b o ∨ Fr b o) w'

/-- A whole slice of plain cells, lent. -/
def snapL (M : Mem) : AV → AV
  | .tl i n b => match mlook M i with
    | some (.arr _ es _) => if n = es.length ∧ es.all AV.norefs = true then .sl b es .unk else .tl i n b
    | _ => .tl i n b
  | v => v
def lend (G : Nat → Option Value) (F : Nat → Nat → Prop) (M : Mem) : Nat → Nat → Prop := fun b o => F b o ∨ Owned G M b

section
variable {P : Program} {fr : Fr} {ro : Option Nat} {ds : DS} {st st' : St} {Q Q' : Exit → St → Prop} {G G' : Nat → Option Value} {F F' : Nat → Nat → Prop} {a : Act} {w w' : World} {x y c : Code}
  {M : Mem} {ops : Array Oper} {l rest : List Oper} {o : Oper}

theorem Imm.lend {v : Value} {x : AV} (h : Imm F w v x) : Imm (Avl.lend G F M) w v x := h.mono (fun _ _ h => .inl h) fun _ _ _ => rfl
theorem RV.snapL {nx : Nat} (hm : SimM P G F M nx w) {v : Value} {y : AV} (h : RV G F M w v y) (hn : (Avl.snapL M y).noref = true) : Imm (Avl.lend G F M) w v (Avl.snapL M y) := by
  unfold Avl.snapL at hn ⊢
  split
  · rename_i i n b
    split
    · rename_i esz es fz ho
      split
      · rename_i hc
        obtain ⟨hnl, hnr⟩ := hc
        obtain ⟨_, hh⟩ := h.inv_tl
        obtain ⟨hG, hb⟩ := (hh _ _ _ ho).2 hnl
        rcases (hm.obj i _ ho).2 with ⟨h0, base, h1, hsp⟩ | ⟨b', c, cc, e, h1, h2, h3, h4, h5, h6, h7, h8, h9⟩
        · rw [hG] at h1; cases h1
          subst h0
          cases base with
          | none => simp [isNilSlice] at hb; subst hb; exact .nil _ (.inl rfl)
          | some a =>
            simp [isNilSlice] at hb; subst hb
            exact .sz a .unk (.inl rfl)
        · have hG1 := hG
          rw [hG] at h1; cases h1
          simp [isNilSlice] at hb; subst hb
          have hown : Owned G M b' := ⟨i, _, _, ho, hG1, by simp [blkOf, h2]⟩
          refine .sl b' 0 c esz es .unk (fun i j => (cc[i * esz + j]?).getD undef) h4 (.inl rfl) h6 (fun k j hk hj => ⟨.inr hown, ?_⟩) (fun k j hk hj => ?_)
          · rw [cell?_block h3, Nat.zero_add]
            obtain ⟨v, hv, h1c, _⟩ := h7 k j hk (by rw [h6 k hk]; exact hj)
            rw [hv]; exact ⟨rfl, h1c⟩
          · obtain ⟨v, hv, _, hr⟩ := h7 k j hk hj
            rw [hv]; exact (hr.imm_of (all_norefs hnr k j hk hj)).lend
      · rename_i hc
        simp only [ho, if_neg hc] at hn
        exact (h.imm_of hn).lend
    · rename_i hno
      have hn2 : (AV.tl i n b).noref = true := by
        cases hM : mlook M i with
        | none => simpa [hM] using hn
        | some ob =>
          cases ob with
          | arr esz es fz => exact absurd hM (hno _ _ _)
          | cells cs => simpa [hM] using hn
          | map kt es => simpa [hM] using hn
      exact (h.imm_of hn2).lend
  · rename_i hno
    have hn2 : y.noref = true := by
      cases y <;> first | exact hn | exact absurd rfl (hno _ _ _)
    exact (h.imm_of hn2).lend

theorem SimM.frGrown {nx : Nat} {Fr : Nat → Nat → Prop} (hm : SimM P G F M nx w) (g : Grown (Avl.lend G F M) w (fun b o => Avl.lend G F M b o ∨ Fr b o) w') (hFr : ∀ b o, Fr b o → w.heap.size ≤ b ∧ b < w'.heap.size) : Grown F w (fun b o => F b o ∨ Fr b o) w' :=
  ⟨g.size, g.old, fun _ _ h => .inl h, fun b o h => h.imp id fun h => (hFr b o h).1, fun b o h => by
    rcases h with h | h
    · exact Nat.lt_of_lt_of_le (hm.inF b o h) g.size
    · exact (hFr b o h).2, g.kept⟩
def callArgsL (fr : Fr) (st : St) (args : Array Operand) : List AV := args.toList.map fun x => snapL st.mem (od fr st true x)

/-- A call that lends whole slices of plain cells. -/
theorem SimA.callL {f : FuncId} {callee : Operand} {args : Array Operand} {tys : Array TypeId} {xs : List AV} {r : AV} {K : Act → World → Prop} {Q1 : Exit → Act → World → Prop}
    (s : SimA P fr ds G F st a w) (hop : o.op = .call ⟨.value callee, args, tys⟩) (hd : ∀ k, o.dst = some k → k < fr.sz) (hcal : od fr st true callee = .fn f [])
    (hxs : callArgsL fr st args = xs) (hn : AV.norefs xs = true) (hc : PureFr P f xs r)
    (h : ∀ G' F' a' w', SimA P fr ds G' F' ((⟨st.vars, st.tmps, st.mem, st.nx + 1⟩ : St).put fr o.dst r) a' w' → Step All G F st.mem w G' F' st.mem w' → K a' w') : o.wpIn (fc ro) 0 P a w K Q1 := by
  refine ⟨fun _ _ => trivial, ?_⟩
  rw [Oper.semAt_eq _ _ _ (by rw [hop]; intro c h; cases h)]
  have hv := (s.eval callee).unopt
  have hv : RV G F st.mem w (a.eval callee) (.fn f []) := by unfold od at hcal; rwa [hcal] at hv
  obtain ⟨vs, hev, hl, _⟩ := hv.inv_fn
  have hvs : vs = [] := by cases vs with
    | nil => rfl
    | cons a l => simp at hl
  subst hvs
  have hrun : (execOp a.eval o).run P w = .ok (.enter f ((args.toList.map a.eval).toArray)) w := by
    obtain ⟨dst, op, ty, pos, after, guard⟩ := o
    simp only at hop
    subst hop
    simp only [execOp, resolve, hev, Deferred.ofValue, Sem.run_bind, Sem.run_pure, Result.andThen_ok, invoke]
    rw [hc.1]
    congr 2
    apply Array.ext'
    simp
  rw [hrun]
  have hi : Imms (Avl.lend G F st.mem) w (args.toList.map a.eval) xs := by
    subst hxs
    refine ⟨by simp [callArgsL], fun i h1 h2 => ?_⟩
    have hnr := norefs_get _ hn i h2
    simp only [callArgsL, List.getElem_map] at hnr ⊢
    exact RV.snapL s.sim.mem (s.eval _).unopt hnr
  have hin : ∀ b o, Avl.lend G F st.mem b o → b < w.heap.size := fun b o h => h.elim (s.sim.mem.inF b o) fun h => s.sim.mem.lt h
  refine ⟨fun h => by simp [fc, Fence.wide] at h, callsIn_fc ((hc.2 _ w _ hin hi).mono ?_)⟩
  rintro e w' ⟨v, Fr, rfl, hv, hFr, g⟩
  have g' := s.sim.mem.frGrown g hFr
  obtain ⟨hm', S'⟩ := simM_grown s.sim.mem g'
  exact h G _ _ w' (s.step_put (st1 := ⟨st.vars, st.tmps, st.mem, st.nx + 1⟩) S' (hm'.more (Nat.le_succ _)) rfl rfl (fun j hj => s.fresh j (Nat.le_of_succ_le hj)) hd (.imm (hv.mono (fun _ _ h => .inr h) fun _ _ _ => rfl))) S'
theorem XR.callL {f : FuncId} {callee : Operand} {args : Array Operand} {tys : Array TypeId} {xs : List AV} {r : AV} (hg : o.guard = none) (hop : o.op = .call ⟨.value callee, args, tys⟩) (hd : dok fr o.dst = true)
    (hcal : od fr st true callee = .fn f []) (hxs : callArgsL fr st args = xs) (hn : AV.norefs xs = true) (hc : PureFr P f xs r)
    (h : XR P fr ro ds ops rest ((⟨st.vars, st.tmps, st.mem, st.nx + 1⟩ : St).put fr o.dst r) Q) : XR P fr ro ds ops (o :: rest) st Q :=
  fun _ _ _ _ _ _ _ _ S s => wpListIn_plain hg fun K hK => s.callL hop (dok_spec hd) hcal hxs hn hc fun _ _ _ _ s' S' => hK _ _ (h _ _ _ _ _ _ _ _ (S.trans (by rw [St.put_mem]; exact S'.mono fun _ _ => trivial)) s')
end
end Go.Avl
namespace Go.Avl
open Go

def isSc : AV → Bool
  | .sc _ => true
  | _ => false
def flat (es : List (List AV)) : Bool := es.all fun c => c.all isSc
/-- A result that lies in an object, as a plain reading. -/
def freshOne (M : Mem) : AV → Option AV
  | .sc v => some (.sc v)
  | .sl true [] cap => some (.sl true [] cap)
  | .tl i n b => match mlook M i with
    | some (.arr _ es _) => if n = es.length ∧ flat es = true then some (.sl b es .unk) else none
    | _ => none
  | .tv i n off len (.val k) => match mlook M i with
    | some (.arr _ es _) => if n = es.length ∧ flat es = true ∧ k = len then some (.sl false ((es.drop off).take len) .full) else none
    | _ => none
  | _ => none
def freshAll (M : Mem) : List AV → Option (List AV)
  | [] => some []
  | x :: xs => match freshOne M x, freshAll M xs with
    | some v, some vs => some (v :: vs)
    | _, _ => none
def newF (B : Nat) (w : World) : Nat → Nat → Prop := fun b _ => B ≤ b ∧ b < w.heap.size

section
variable {P : Program} {G : Nat → Option Value} {F : Nat → Nat → Prop} {M : Mem} {w : World} {nx B : Nat}

theorem flat_get {es : List (List AV)} (h : flat es = true) (i j : Nat) (h1 : i < es.length) (h2 : j < es[i].length) : ∃ v, es[i][j] = .sc v := by
  unfold flat at h
  rw [List.all_eq_true] at h
  have h3 := h _ (List.getElem_mem h1)
  rw [List.all_eq_true] at h3
  have := h3 _ (List.getElem_mem h2)
  cases hx : es[i][j] <;> simp [hx, isSc] at this ⊢
theorem freshOne_ok (hm : SimM P G F M nx w) (hB : ∀ b, Owned G M b → B ≤ b) {v : Value} {y z : AV} (h : RV G F M w v y) (hz : freshOne M y = some z) : Imm (newF B w) w v z := by
  unfold freshOne at hz
  split at hz
  · cases hz
    rw [h.inv_sc]; exact .sc _
  · cases hz
    cases h.inv_sl with
    | nil _ hc => exact .nil _ hc
  · rename_i i n b
    split at hz
    · rename_i esz es fz ho
      split at hz
      · rename_i hc
        cases hz
        obtain ⟨hnl, hfl⟩ := hc
        obtain ⟨_, hh⟩ := h.inv_tl
        obtain ⟨hG, hb⟩ := (hh _ _ _ ho).2 hnl
        rcases (hm.obj i _ ho).2 with ⟨h0, base, h1, hsp⟩ | ⟨b', c, cc, e, h1, h2, h3, h4, h5, h6, h7, h8, h9⟩
        · rw [hG] at h1; cases h1
          subst h0
          cases base with
          | none => simp [isNilSlice] at hb; subst hb; exact .nil _ (.inl rfl)
          | some a =>
            simp [isNilSlice] at hb; subst hb
            exact .sz a .unk (.inl rfl)
        · have hG1 := hG
          rw [hG] at h1; cases h1
          simp [isNilSlice] at hb; subst hb
          have hown : Owned G M b' := ⟨i, _, _, ho, hG1, by simp [blkOf, h2]⟩
          refine .sl b' 0 c esz es .unk (fun i j => (cc[i * esz + j]?).getD undef) h4 (.inl rfl) h6 (fun k j hk hj => ⟨⟨hB _ hown, hm.lt hown⟩, ?_⟩) (fun k j hk hj => ?_)
          · rw [cell?_block h3, Nat.zero_add]
            obtain ⟨v, hv, h1c, _⟩ := h7 k j hk (by rw [h6 k hk]; exact hj)
            rw [hv]; exact ⟨rfl, h1c⟩
          · obtain ⟨v, hv, _, hr⟩ := h7 k j hk hj
            obtain ⟨u, hu⟩ := flat_get hfl k j hk hj
            rw [hv]
            rw [hu] at hr ⊢
            rw [show (some v).getD undef = v from rfl, hr.inv_sc]; exact .sc _
      · cases hz
    · cases hz
  · rename_i i n off len k
    split at hz
    · rename_i esz es fz ho
      split at hz
      · rename_i hc
        cases hz
        obtain ⟨hnl, hfl, rfl⟩ := hc
        obtain ⟨_, hh⟩ := h.inv_tv
        obtain ⟨hol, b', c, hG, hc0, c', rfl, hlc, hcp⟩ := (hh _ _ _ ho).2 hnl
        have hc' : c' = k := by
          rcases hcp with h | h | ⟨h, _⟩
          · cases h
          · cases h; rfl
          · cases h
        subst hc'
        rcases (hm.obj i _ ho).2 with ⟨h0, base, h1, hsp⟩ | ⟨b2, c2, cc, e, h1, h2, h3, h4, h5, h6, h7, h8, h9⟩
        · rw [hG] at h1; cases h1; exact absurd rfl hc0
        · rw [hG] at h1; cases h1
          have hown : Owned G M b' := ⟨i, _, _, ho, hG, by simp [blkOf, hc0]⟩
          have hlen : ((es.drop off).take c').length = c' := by simp; omega
          have hget : ∀ k (hk : k < ((es.drop off).take c').length), ((es.drop off).take c')[k] = es[off + k]'(by rw [hlen] at hk; omega) := fun k hk => by simp
          have := Imm.sl (F := newF B w) (w := w) b' (off * esz) c' esz ((es.drop off).take c') .full (fun k j => (cc[(off + k) * esz + j]?).getD undef) (by omega) (.inr (.inr (.inl ⟨rfl, hlen.symm⟩))) (fun k hk => by rw [hget k hk]; exact h6 _ _)
            (fun k j hk hj => by
              refine ⟨⟨hB _ hown, hm.lt hown⟩, ?_⟩
              have hk2 : off + k < es.length := by rw [hlen] at hk; omega
              rw [cell?_block h3, show off * esz + k * esz + j = (off + k) * esz + j by rw [Nat.add_mul]]
              obtain ⟨v, hv, h1c, _⟩ := h7 (off + k) j hk2 (by rw [h6 _ hk2]; exact hj)
              rw [hv]; exact ⟨rfl, h1c⟩)
            (fun k j hk hj => by
              have hk2 : off + k < es.length := by rw [hlen] at hk; omega
              simp only [hget k hk] at hj ⊢
              obtain ⟨v, hv, _, hr⟩ := h7 (off + k) j hk2 hj
              obtain ⟨u, hu⟩ := flat_get hfl (off + k) j hk2 hj
              rw [hv]
              rw [hu] at hr ⊢
              rw [show (some v).getD undef = v from rfl, hr.inv_sc]; exact .sc _)
          rw [hlen] at this
          exact this
      · cases hz
    · cases hz
  · cases hz
theorem freshAll_ok (hm : SimM P G F M nx w) (hB : ∀ b, Owned G M b → B ≤ b) : ∀ {us : List Value} {rs zs : List AV}, us.length = rs.length → (∀ i (h1 : i < us.length) (h2 : i < rs.length), RV G F M w us[i] rs[i]) → freshAll M rs = some zs →
    us.length = zs.length ∧ ∀ i (h1 : i < us.length) (h2 : i < zs.length), Imm (newF B w) w us[i] zs[i]
  | [], [], zs, _, _, h => by cases h; exact ⟨rfl, fun i h => by simp at h⟩
  | [], _ :: _, _, h, _, _ => by simp at h
  | _ :: _, [], _, h, _, _ => by simp at h
  | u :: us, r :: rs, zs, hl, hr, h => by
    simp only [freshAll] at h
    split at h
    · rename_i v vs hv hvs
      cases h
      obtain ⟨h1, h2⟩ := freshAll_ok hm hB (by simpa using hl) (fun i a b => hr (i + 1) (by simpa using a) (by simpa using b)) hvs
      refine ⟨by simpa using h1, fun i a b => ?_⟩
      cases i with
      | zero => exact freshOne_ok hm hB (hr 0 (by simp) (by simp)) hv
      | succ i => exact h2 i (by simpa using a) (by simpa using b)
    · cases h
theorem freshRes_ok (hm : SimM P G F M nx w) (hB : ∀ b, Owned G M b → B ≤ b) {fr : Fr} {ds : DS} {st : St} {a : Act} (s : SimA P fr ds G F st a w) (hM : st.mem = M) {fn : Func} {rs zs : List AV} (h : resAllR P fr st fn.results.toList = some rs) (hz : freshAll M rs = some zs) :
    ∃ u, (results fn a.tmps).run P w = .ok u w ∧ Imm (newF B w) w u (mkRes zs) := by
  subst hM
  obtain ⟨us, h1, h2, h3⟩ := resAllR_ok s h
  obtain ⟨h4, h5⟩ := freshAll_ok hm hB h2 h3 hz
  refine ⟨if h : us.toArray.size = 1 then us.toArray[0] else .tuple us.toArray, ?_, ?_⟩
  · rw [results_eq, Array.mapM_eq_mapM_toList]
    simp [h1]
  · match us, zs, h4 with
    | [], [], _ => exact .tu [] [] rfl (fun _ h => absurd h (Nat.not_lt_zero _))
    | [u], [r], _ => exact h5 0 (by simp) (by simp)
    | u :: u' :: us, r :: r' :: rs, h4 =>
      simp only [List.size_toArray, List.length_cons, mkRes]
      rw [dif_neg (by omega)]
      exact .tu _ _ h4 h5
def retF (P : Program) (fr : Fr) (results : List ResultVar) (r : AV) (e : Exit) (st : St) : Prop :=
  (e = .ret ∨ e = .normal) ∧ ∃ rs zs, resAllR P fr st results = some rs ∧ freshAll st.mem rs = some zs ∧ mkRes zs = r
/-- A contract with a new result, from the body. -/
theorem PureFr.of {c : Code} {f : FuncId} {fn : Func} {args : List AV} {r : AV} {nv : Nat} {hid : List Nat} (hf : P.funcs[f]? = some fn) (hb : fn.body = some c) (hnm : (fn.name == "runtime.NumGoroutine") = false) (hsz : args.length ≤ fn.ntmps)
    (h : ∀ h0 : Nat, EvC P ⟨0, nv, hid, fn.ntmps⟩ none ⟨h0, none, false⟩ c (st0 args) (retF P ⟨0, nv, hid, fn.ntmps⟩ fn.results.toList r)) : PureFr P f args r := by
  refine ⟨callable_of hf hnm (by rw [hb]; rfl), fun F w vals hF hi => ?_⟩
  obtain ⟨hl, hi⟩ := hi
  have s0 : SimA P ⟨0, nv, hid, fn.ntmps⟩ ⟨w.heap.size, none, false⟩ (fun _ => none) F (st0 args) { tmps := vals.toArray ++ Array.replicate (fn.ntmps - vals.toArray.size) undef, defers := [] } w := by
    refine ⟨⟨⟨fun id o h => (by cases h), fun id id' v v' b h => absurd rfl h, hF⟩, fun k => ?_, by simp; omega⟩, fun _ _ => rfl, Marks.none _ _ _ (Nat.le_refl _)⟩
    have key : ∀ x, (x = .junk ∨ ∃ h : k < args.length, x = args[k]) → RV (fun _ => none) F (st0 args).mem w ((vals.toArray ++ Array.replicate (fn.ntmps - vals.toArray.size) undef).getD k undef) x := by
      rintro x (rfl | ⟨hk, rfl⟩)
      · exact .imm (.junk _)
      · have : (vals.toArray ++ Array.replicate (fn.ntmps - vals.toArray.size) undef).getD k undef = vals[k]'(by omega) := by
          rw [Array.getD_eq_getD_getElem?, Array.getElem?_append_left (by simp; omega)]
          simp [List.getElem?_eq_getElem (show k < vals.length by omega)]
        rw [this]
        exact .imm (hi k (by omega) hk)
    refine key _ ?_
    unfold St.get
    split
    · rcases alook_vars0 args 0 k with h | ⟨h1, h2, h3⟩
      · exact .inl h
      · exact .inr ⟨by simpa using h1, by simpa [st0] using h3⟩
    · exact .inl rfl
  refine callsIn_of_wp_marks (F := Fence.wide) hf hb trivial (wpIn_mono (h _ _ _ _ _ _ _ _ _ .refl s0) ?_)
  rintro e a' w' ⟨G', F', st', s', S', he, rs, zs, hrs, hzs, rfl⟩
  have hown : ∀ b, Owned G' st'.mem b → w.heap.size ≤ b := fun b hb => (S'.own b hb).elim id fun ⟨_, _, _, h, _⟩ => by cases h
  have g : ∀ w2 : World, w.heap.size ≤ w2.heap.size → (∀ b, b < w.heap.size → w2.heap[b]? = w.heap[b]?) → Kept w w2 → Grown F w (fun b o => F b o ∨ newF w.heap.size w2 b o) w2 := fun w2 h1 h2 h3 =>
    ⟨h1, h2, fun _ _ h => .inl h, fun b o h => h.imp id fun h => h.1, fun b o h => h.elim (fun h => Nat.lt_of_lt_of_le (hF b o h) h1) fun h => h.2, h3⟩
  have hfin : ∀ (Ds : List Nat) (w2 : World), Ds.Nodup → (∀ D ∈ Ds, w.heap.size ≤ D ∧ w2.heap[D]? = some (.deferred (some []))) → w.heap.size ≤ w2.heap.size → (∀ b, b < w.heap.size → w2.heap[b]? = w.heap[b]?) → Kept w w2 →
      SimA P ⟨0, nv, hid, fn.ntmps⟩ ⟨w.heap.size, none, false⟩ G' F' st' { a' with defers := [] } w2 →
      LeavesInM Fence.wide 0 P fn a'.tmps (fun e w' => ∃ v Fr, e = .returned v ∧ Imm Fr w' v (mkRes zs) ∧ (∀ b o, Fr b o → w.heap.size ≤ b ∧ b < w'.heap.size) ∧ Grown F w (fun b o => F b o ∨ Fr b o) w') (Ds.map dmark) .returning w2 := by
    intro Ds
    induction Ds with
    | nil =>
      intro w2 _ _ h1 h2 h3 s2
      obtain ⟨u, k1, k2⟩ := freshRes_ok s2.sim.mem hown s2 rfl hrs hzs
      exact ⟨u, k1, u, newF w.heap.size w2, rfl, k2, fun _ _ h => h, g w2 h1 h2 h3⟩
    | cons D Ds ih =>
      intro w2 hnd hD h1 h2 h3 s2
      obtain ⟨d1, d2⟩ := hD D List.mem_cons_self
      have hnd := List.nodup_cons.1 hnd
      have hk : ∀ (b : Nat) (o : Obj), w2.heap[b]? = some o → isData o = true → (w2.putObj D (.deferred none)).heap[b]? = some o := fun b o hb ho => by
        rw [World.putObj_heap_other (by rintro rfl; rw [d2] at hb; cases hb; cases ho)]; exact hb
      refine ⟨(by intro h; cases h), .inl ⟨D, _, rfl, run_takeDeferred d2, ih _ hnd.2 (fun D' hD' => ?_) (by rw [World.putObj_size]; exact h1) (fun b hb => ?_) (h3.trans (.set d2 rfl rfl)) ?_⟩⟩
      · refine ⟨(hD D' (List.mem_cons_of_mem _ hD')).1, ?_⟩
        rw [World.putObj_heap_other (by rintro rfl; exact hnd.1 hD')]; exact (hD D' (List.mem_cons_of_mem _ hD')).2
      · rw [World.putObj_heap_other (by omega)]; exact h2 b hb
      · exact ⟨⟨s2.sim.mem.keepData hk (by rw [World.putObj_size]; exact Nat.le_refl _), fun k => (s2.sim.slots k).keepData hk, s2.sim.size⟩, s2.fresh, Marks.none _ _ _ (by rw [World.putObj_size]; exact h1)⟩
  obtain ⟨⟨Ds, hDs, hnd, hD⟩, _⟩ := s'.defers
  have := hfin Ds w' hnd hD S'.size (fun b hb => S'.out b hb (fun ⟨_, _, _, h, _⟩ => by cases h)) S'.kept ⟨⟨s'.sim.mem, s'.sim.slots, s'.sim.size⟩, s'.fresh, Marks.none _ _ _ S'.size⟩
  rw [← hDs] at this
  rcases he with rfl | rfl
  · exact this
  · exact this
/-- A contract with a new result is a contract. -/
theorem PureFr.pure {f : FuncId} {args : List AV} {r : AV} (h : PureFr P f args r) : PureIs P f args r :=
  ⟨h.1, fun F w vals hF hi => (h.2 F w vals hF hi).mono fun _ _ ⟨v, Fr, he, hv, _, hg⟩ => ⟨v, _, he, hv.mono (fun _ _ h => .inr h) fun _ _ _ => rfl, hg⟩⟩
end
end Go.Avl
