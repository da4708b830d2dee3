/-
  The unfolded machine is closed: what its rows say.
  TimersPlain: the law's contract.
  TimersPlain returns true at every input, and each argument reads behind the call as it read before.
  Conditions: those of the given row alone (no others).
-/
import Derived.Test.YtnnmghgifhidgaaPart8
set_option linter.unusedSimpArgs false
set_option linter.unusedVariables false
namespace Go.Avl
open Go Go.Proofs.Try
set_option maxRecDepth 10000
set_option linter.unusedSimpArgs false

theorem stepR_end {m : Mach} (hv : Valid m) {s a : Int} (h0 : 0 ≤ s) (hs : s < m.rows.length) (ha : 0 ≤ a ∧ a < m.ins) : ((stepR m s a).1 = -1 ∧ (stepR m s a).2 = -1) ∨ (0 ≤ (stepR m s a).1 ∧ (stepR m s a).1 < m.rows.length) := by
  obtain ⟨r, e, _, _, h3, h4⟩ := stepR_get hv h0 hs ha
  rw [h3]
  rcases fits_none h4 with h | h
  · exact .inl h
  · exact .inr ⟨h.1, h.2.1⟩

/-- An entry of a row, against a list of configurations. -/
def Ent (x : Timed) (L : List Cfg) (c : Cfg) (i : Int) (e : Int × Int) : Prop :=
  e.2 = (cfgStep x c i).2 ∧ (((cfgStep x c i).1.1 < 0 ∧ e.1 = -1) ∨ (0 ≤ (cfgStep x c i).1.1 ∧ 0 ≤ e.1 ∧ L[e.1.toNat]? = some (cfgStep x c i).1))
def Pre (l L : List Cfg) : Prop := ∀ (j : Nat) d, l[j]? = some d → L[j]? = some d
theorem Pre.refl (l : List Cfg) : Pre l l := fun _ _ h => h
theorem Pre.trans {a b c : List Cfg} (h : Pre a b) (k : Pre b c) : Pre a c := fun j d hd => k j d (h j d hd)
theorem Ent.pre {x : Timed} {l L : List Cfg} {c : Cfg} {i : Int} {e : Int × Int} (h : Ent x l c i e) (p : Pre l L) : Ent x L c i e :=
  ⟨h.1, h.2.imp id fun h => ⟨h.1, h.2.1, p _ _ h.2.2⟩⟩
theorem addC_nd {c : Cfg} {l : List Cfg} (h : l.Nodup) : (addC c l).Nodup := by
  unfold addC
  split
  · exact h
  · rename_i hc
    rw [List.nodup_append]
    refine ⟨h, by simp, fun a ha b hb e => ?_⟩
    simp only [List.mem_singleton] at hb
    subst hb; subst e
    exact hc ha
theorem idxC_out {c : Cfg} : ∀ {l : List Cfg}, c ∉ l → idxC c l = l.length
  | [], _ => rfl
  | d :: l, h => by
    simp only [List.mem_cons, not_or] at h
    simp only [idxC, List.length_cons]
    rw [if_neg (fun e => h.1 e.symm), idxC_out h.2]
theorem addC_idx (c : Cfg) (l : List Cfg) : (addC c l)[idxC c l]? = some c := by
  unfold addC
  split
  · rename_i h; exact idxC_get h
  · rename_i h
    rw [idxC_out h, List.getElem?_append_right (Nat.le_refl _), Nat.sub_self]; rfl
theorem entU_ok {x : Timed} (c : Cfg) (i : Int) (l : List Cfg) : Ent x (entU x c i l).2 c i (entU x c i l).1 ∧ Pre l (entU x c i l).2 ∧ (l.Nodup → (entU x c i l).2.Nodup) := by
  unfold entU
  split
  · rename_i h; exact ⟨⟨rfl, .inl ⟨h, rfl⟩⟩, .refl _, id⟩
  · rename_i h
    exact ⟨⟨rfl, .inr ⟨by omega, by simp, by simpa using addC_idx _ l⟩⟩, fun j d hd => addC_get hd, addC_nd⟩
theorem rowU_ok {x : Timed} (c : Cfg) : ∀ (n i : Nat) (l : List Cfg), Pre l (rowU x c n i l).2 ∧ (l.Nodup → (rowU x c n i l).2.Nodup) ∧ ∀ k, k < n → ∃ e, (rowU x c n i l).1[k]? = some e ∧ Ent x (rowU x c n i l).2 c ((i + k : Nat) : Int) e
  | 0, _, l => ⟨.refl _, id, fun k h => by omega⟩
  | n + 1, i, l => by
    obtain ⟨h1, h2, h3⟩ := entU_ok (x := x) c i l
    obtain ⟨k1, k2, k3⟩ := rowU_ok (x := x) c n (i + 1) (entU x c i l).2
    simp only [rowU]
    refine ⟨h2.trans k1, fun h => k2 (h3 h), fun k hk => ?_⟩
    cases k with
    | zero => exact ⟨_, rfl, by simpa using h1.pre k1⟩
    | succ k =>
      obtain ⟨e, q1, q2⟩ := k3 k (by omega)
      exact ⟨e, by simpa using q1, by rw [show i + (k + 1) = i + 1 + k by omega]; exact q2⟩
theorem unfR_ok {x : Timed} (hv : ValidT x) (hB : ∀ l, l.Nodup → GoodCs x l → l.length ≤ 64) : ∀ (f n : Nat) (l : List Cfg), f + n = 100 → n ≤ l.length → l.Nodup → GoodCs x l →
    Pre l (unfR x f n l).2 ∧ (unfR x f n l).2.Nodup ∧ GoodCs x (unfR x f n l).2 ∧ (unfR x f n l).1.length + n = (unfR x f n l).2.length ∧
      ∀ k, k < (unfR x f n l).1.length → ∃ row c, (unfR x f n l).1[k]? = some row ∧ (unfR x f n l).2[n + k]? = some c ∧ row.length = x.m.ins.toNat + 1 ∧
        ∀ i : Nat, i < x.m.ins.toNat + 1 → ∃ e, row[i]? = some e ∧ Ent x (unfR x f n l).2 c i e
  | 0, n, l, hf, hn, hd, hg => by have := hB l hd hg; omega
  | f + 1, n, l, hf, hn, hd, hg => by
    have hlen := hB l hd hg
    simp only [unfR]
    cases hc : l[n]? with
    | none =>
      have : l.length ≤ n := by simpa using hc
      exact ⟨.refl _, hd, hg, by simp; omega, fun k h => by simp at h⟩
    | some c =>
      have hnl := (List.getElem?_eq_some_iff.1 hc).1
      simp only [if_neg (show ¬ 64 < l.length by omega)]
      obtain ⟨h1, h2, h3⟩ := rowU_ok (x := x) c (x.m.ins.toNat + 1) 0 l
      have h4 := rowU_len x c (x.m.ins.toNat + 1) 0 l
      have hgc : GoodC x c := hg c (List.mem_of_getElem? hc)
      obtain ⟨k1, k2, k3, k4, k5⟩ := unfR_ok hv hB f (n + 1) (rowU x c (x.m.ins.toNat + 1) 0 l).2 (by omega) (by omega) (h2 hd) (hg.row hv hgc _ _ _)
      refine ⟨h1.trans k1, k2, k3, by simp only [List.length_cons]; omega, fun k hk => ?_⟩
      cases k with
      | zero =>
        refine ⟨_, c, rfl, k1 _ _ (h1 _ _ (by simpa using hc)), h4.2.2, fun i hi => ?_⟩
        obtain ⟨e, q1, q2⟩ := h3 i hi
        exact ⟨e, q1, by simpa using q2.pre k1⟩
      | succ k =>
        obtain ⟨row, c', q1, q2, q3, q4⟩ := k5 k (by simpa using hk)
        exact ⟨row, c', by simpa using q1, by rw [show n + (k + 1) = n + 1 + k by omega]; exact q2, q3, q4⟩

/-- Bounded: the configurations are few. -/
def Few (x : Timed) : Prop := ∀ l : List Cfg, l.Nodup → GoodCs x l → l.length ≤ 64
theorem unf_ok {x : Timed} (hv : ValidT x) (hB : Few x) : (unfAll x).2[0]? = some (0, 0) ∧ (unfAll x).2.length ≤ 64 ∧ GoodCs x (unfAll x).2 ∧ (unfAll x).1.length = (unfAll x).2.length ∧
    ∀ (j : Nat) c, (unfAll x).2[j]? = some c → ∃ row, (unfAll x).1[j]? = some row ∧ row.length = x.m.ins.toNat + 1 ∧ ∀ i : Nat, i < x.m.ins.toNat + 1 → ∃ e, row[i]? = some e ∧ Ent x (unfAll x).2 c i e := by
  obtain ⟨h1, h2, h3, h4, h5⟩ := unfR_ok hv hB 100 0 [(0, 0)] rfl (by simp) (by simp) (fun c hc => by rw [List.mem_singleton.1 hc]; exact .zero hv)
  refine ⟨h1 0 _ rfl, hB _ h2 h3, h3, by simpa [unfAll] using h4, fun j c hc => ?_⟩
  have hj := (List.getElem?_eq_some_iff.1 hc).1
  have h40 : (unfAll x).1.length = (unfAll x).2.length := by simpa [unfAll] using h4
  have hj1 : j < (unfAll x).1.length := by omega
  obtain ⟨row, c', q1, q2, q3, q4⟩ := h5 j hj1
  rw [Nat.zero_add] at q2
  have : c' = c := Option.some.inj (q2.symm.trans hc)
  subst this
  exact ⟨row, q1, q3, q4⟩

/-- What the configurations answer: None for ever behind an end. -/
def runCf (x : Timed) : Option Cfg → List Int → List Int
  | _, [] => []
  | none, _ :: w => -1 :: runCf x none w
  | some c, a :: w => (cfgStep x c a).2 :: runCf x (if (cfgStep x c a).1.1 < 0 then none else some (cfgStep x c a).1) w
theorem unf_step {x : Timed} (hv : ValidT x) (hB : Few x) {j : Nat} {c : Cfg} (hj : (unfAll x).2[j]? = some c) {a : Int} (ha : 0 ≤ a ∧ a ≤ x.m.ins) :
    Ent x (unfAll x).2 c a (stepR (unfMach x) j a) := by
  obtain ⟨row, h1, h2, h3⟩ := (unf_ok hv hB).2.2.2.2 j c hj
  obtain ⟨e, k1, k2⟩ := h3 a.toNat (by omega)
  rw [show ((a.toNat : Nat) : Int) = a by omega] at k2
  have : stepR (unfMach x) j a = e := by
    unfold stepR
    rw [if_neg (by omega)]
    simp only [unfMach, Int.toNat_natCast, List.getElem?_map, h1, Option.map_some, Option.getD_some, k1]
  rw [this]; exact k2
theorem runR_neg (m : Mach) : ∀ (w : List Int), runR m (-1) w = w.map fun _ => -1
  | [] => rfl
  | a :: w => by
    have : stepR m (-1) a = (-1, -1) := by unfold stepR; rw [if_pos (by omega)]
    simp only [runR, this, runR_neg m w, List.map_cons]
theorem runCf_none (x : Timed) : ∀ w, runCf x none w = w.map fun _ => -1
  | [] => rfl
  | _ :: w => by simp only [runCf, runCf_none x w, List.map_cons]
theorem runR_unf {x : Timed} (hv : ValidT x) (hB : Few x) : ∀ (w : List Int) (j : Nat) (c : Cfg), (∀ a ∈ w, 0 ≤ a ∧ a ≤ x.m.ins) → (unfAll x).2[j]? = some c → runR (unfMach x) j w = runCf x (some c) w
  | [], _, _, _, _ => rfl
  | a :: w, j, c, hw, hj => by
    have ha := hw a List.mem_cons_self
    obtain ⟨h1, h2⟩ := unf_step hv hB hj ha
    simp only [runR, runCf, h1]
    rcases h2 with ⟨h2, h3⟩ | ⟨h2, h3, h4⟩
    · rw [h3, if_pos h2, runR_neg, runCf_none]
    · rw [if_neg (by omega)]
      have := runR_unf hv hB w (stepR (unfMach x) j a).1.toNat _ (fun a ha => hw a (List.mem_cons_of_mem _ ha)) h4
      rw [show ((stepR (unfMach x) j a).1.toNat : Int) = (stepR (unfMach x) j a).1 by omega] at this
      rw [this]
theorem unf_valid {x : Timed} (hv : ValidT x) (hB : Few x) (hi : x.m.ins ≤ 15) (ho : x.m.outs ≤ 15) : checkM (unfMach x) = 0 := by
  obtain ⟨h1, h2, h3, h4, h5⟩ := unf_ok hv hB
  have hl : (unfMach x).rows.length = (unfAll x).2.length := by simp [unfMach, h4]
  have h0 : 0 < (unfAll x).2.length := (List.getElem?_eq_some_iff.1 h1).1
  have hi1 := hv.m.ins
  have ho1 := hv.m.outs
  have e1 : (unfMach x).ins = x.m.ins + 1 := rfl
  have e2 : (unfMach x).outs = x.m.outs + 1 := rfl
  unfold checkM
  rw [if_neg (by omega), if_neg (by omega), if_pos]
  rw [List.all_eq_true]
  intro r hr
  obtain ⟨r', hr', rfl⟩ := List.mem_map.1 (show r ∈ (unfAll x).1.map fun r => (false, r) from hr)
  obtain ⟨j, hj, rfl⟩ := List.getElem_of_mem hr'
  obtain ⟨row, k1, k2, k3⟩ := h5 j _ (List.getElem?_eq_getElem (show j < (unfAll x).2.length by omega))
  rw [List.getElem?_eq_getElem hj] at k1
  cases k1
  simp only [rowOk, Bool.and_eq_true, decide_eq_true_eq, Bool.not_eq_true', List.any_eq_false]
  refine ⟨by rw [e1, k2]; omega, fun e he => ?_⟩
  obtain ⟨i, hi, rfl⟩ := List.getElem_of_mem he
  obtain ⟨e', q1, q2, q3⟩ := k3 i (by omega)
  rw [List.getElem?_eq_getElem hi] at q1
  cases q1
  have hg := cfgStep_good hv (h3 _ (List.getElem_mem (show j < (unfAll x).2.length by omega))) (i := (i : Int)) (by omega)
  rw [hl, e2]
  unfold fitsR
  rcases q3 with ⟨q3, q4⟩ | ⟨q3, q4, q5⟩
  · rcases hg with hg | hg
    · have := hg.1.st.1; omega
    · simp [q4, q2, hg.2.1]
  · have hlt := (List.getElem?_eq_some_iff.1 q5).1
    rcases hg with hg | hg
    · simp [q4, q2, hg.2.1]; omega
    · omega
end Go.Avl
namespace Go.Avl
open Go Go.Proofs.Try
set_option maxRecDepth 10000
set_option linter.unusedSimpArgs false

/-- A machine without timers. -/
def LM.plain (x : LM) : LT := ⟨x, true, [], .zer⟩
theorem LM.plain_ok {x : LM} (h : x.Ok) : x.plain.Ok := ⟨h, fun t ht => by cases ht⟩
theorem LM.plain_tim (x : LM) (s : Int) : timAt x.plain.timed s = (0, 0, 0) := by
  unfold timAt
  cases h : x.plain.timed.ts[s.toNat]? with
  | none => rfl
  | some t =>
    have := List.mem_of_getElem? h
    obtain ⟨k, _, rfl⟩ := List.mem_map.1 (show t ∈ (List.range x.n).map x.plain.tim from this)
    rfl
def plainP (m : Mach) : List Evt → Int → Int → List Rep
  | [], _, _ => []
  | e :: es, s, now => if (stepR m s e.2).1 = -1 then [(now + e.1, (stepR m s e.2).2)] else (now + e.1, (stepR m s e.2).2) :: plainP m es (stepR m s e.2).1 (now + e.1)
theorem ticksP_plain {x : Timed} (h : ∀ s, timAt x s = (0, 0, 0)) : ∀ (k : Nat) (c : Cfg) (now : Int) (out : List Rep), ticksP x k c now out = (c, out)
  | 0, _, _, _ => rfl
  | k + 1, c, now, out => by
    have e : tick1 x c now out = (c, out) := by unfold tick1; rw [h]; rfl
    rw [ticksP, e]; exact ticksP_plain h k c _ out
theorem runP_plain {x : Timed} (h : ∀ s, timAt x s = (0, 0, 0)) : ∀ (es : List Evt) (s now : Int) (out : List Rep), runP x es (s, 0) now out = out ++ plainP x.m es s now
  | [], _, _, out => by simp [runP, plainP]
  | e :: es, s, now, out => by
    simp only [runP, plainP, ticksP_plain h]
    split
    · rfl
    · rw [runP_plain h es]; simp
def nowAt (es : List Evt) : Nat → Int
  | 0 => 0
  | i + 1 => nowAt es i + ((es[i]?).getD (0, 0)).1
theorem nowAt_cons (e : Evt) (es : List Evt) : ∀ i, nowAt (e :: es) (i + 1) = e.1 + nowAt es i
  | 0 => by simp [nowAt]
  | i + 1 => by rw [nowAt, nowAt_cons e es i, nowAt]; simp only [List.getElem?_cons_succ]; omega
def lastR (r : List Rep) : Int := ((r.getLast?).getD (0, 0)).2
theorem plainP_len (m : Mach) : ∀ (es : List Evt) (s now : Int), (plainP m es s now).length ≤ es.length
  | [], _, _ => Nat.le_refl _
  | e :: es, s, now => by
    have := plainP_len m es (stepR m s e.2).1 (now + e.1)
    simp only [plainP]; split <;> simp <;> omega
theorem plainP_ok {m : Mach} (hv : Valid m) : ∀ (es : List Evt) (s now : Int), 0 ≤ s → s < m.rows.length → (∀ e ∈ es, 0 ≤ e.2 ∧ e.2 < m.ins) → ∀ i, i < es.length →
    (i < (plainP m es s now).length → (plainP m es s now)[i]? = some (now + nowAt es (i + 1), ((runR m s (es.map (·.2)))[i]?).getD 0)) ∧ ((plainP m es s now).length ≤ i → lastR (plainP m es s now) = -1)
  | [], _, _, _, _, _, i, hi => by simp at hi
  | e :: es, s, now, h0, hs, he, i, hi => by
    have h1 := stepR_end hv h0 hs (he e List.mem_cons_self)
    simp only [plainP, List.map_cons, runR]
    by_cases hq : (stepR m s e.2).1 = -1
    · rw [if_pos hq]
      have h2 : (stepR m s e.2).2 = -1 := by omega
      cases i with
      | zero => simp [nowAt]
      | succ i => simp [lastR, h2]
    · rw [if_neg hq]
      cases i with
      | zero => simp [nowAt]
      | succ i =>
        have ih := plainP_ok hv es (stepR m s e.2).1 (now + e.1) (by omega) (by omega) (fun e' h' => he e' (List.mem_cons_of_mem _ h')) i (by simpa using hi)
        simp only [List.length_cons, List.getElem?_cons_succ, Nat.add_lt_add_iff_right, Nat.add_le_add_iff_right, nowAt_cons e es (i + 1)]
        refine ⟨fun h => by rw [ih.1 h, Int.add_assoc], fun h => ?_⟩
        have h3 := ih.2 h
        unfold lastR at h3 ⊢
        rw [List.getLast?_cons]
        cases hl : (plainP m es (stepR m s e.2).1 (now + e.1)).getLast? with
        | none => rw [hl] at h3; simp at h3
        | some r => rw [hl] at h3; simpa using h3
theorem runR_len (m : Mach) : ∀ (w : List Int) (s : Int), (runR m s w).length = w.length
  | [], _ => rfl
  | a :: w, s => by simp [runR, runR_len m w]
theorem nowAt_ok {es : List Evt} (h : ∀ e ∈ es, 0 ≤ e.1 ∧ e.1 < 20) : ∀ i, 0 ≤ nowAt es i ∧ nowAt es i ≤ 20 * i
  | 0 => by simp [nowAt]
  | i + 1 => by
    have ih := nowAt_ok h i
    rw [nowAt]
    cases he : es[i]? with
    | none => simp; omega
    | some e => have := h e (List.mem_of_getElem? he); simp; omega

theorem timersPlain_is {x : LM} (h : x.Ok) {l : List (Int × Int)} (hl : U8s l) (nl : Bool) (c : Cp) : PureIs prog 6 [.ag x.cells, .sl nl (l.map u8C2) c] (.sc (.bool true)) := by
  refine PureIs.of (nv := 3) (hid := [4, 5, 6, 7, 8, 9, 10, 11, 12, 13, 14, 15, 27, 56, 60, 71, 115]) func6 rfl (by kernel_rfl) (by simp [ntmps6]) fun _ => ?_
  rw [ntmps6, results6]
  have hP := LM.plain_ok h
  obtain ⟨b1, b2, b3, b4, b5, b6, b7, b8⟩ := LM.bounds h
  obtain ⟨q1, _, _⟩ := run_plain hP hl
  have hv : Valid x.mach := (ValidT.of (LT.timed_ok hP)).m
  have hin : x.mach.ins = x.i := rfl
  have hmr : x.mach.rows.length = x.n := by simp [LM.mach]
  have he := evsOf_ok (ins := x.i) (by omega) hl
  have hlen := evsOf_len x.i l
  have k1 := tOf_is hP
  have k2 := evsOf_is nl l c x.i (by omega) hl
  have e1 : (x.plain.m.i : Int) = x.i := rfl
  rw [e1] at q1
  generalize evsOf x.i l = es at q1 he hlen k2
  have k3 := run_is x.plain.timed (LT.small hP).1 (LT.small hP).2 es.isEmpty es .unk (by omega)
  rw [q1, runP_plain (LM.plain_tim x)] at k3
  have hpm : x.plain.timed.m = x.mach := rfl
  rw [hpm, List.nil_append] at k3
  generalize x.plain.timed = pt at k1 k3 hpm
  have hok := plainP_ok hv es 0 0 (Int.le_refl _) (by omega) (fun e h' => by rw [hin]; have := he e h'; omega)
  have hT := plainP_len x.mach es 0 0
  have k4 := run04_is hv 0 (by omega) (es.length == 0) (es.map (·.2)) .unk (fun a ha => by obtain ⟨e, h', rfl⟩ := List.mem_map.1 ha; rw [hin]; have := he e h'; omega) (by simp; omega)
  have hO : (runR x.mach 0 (es.map (·.2))).length = es.length := by simp [runR_len]
  have hnow := nowAt_ok (es := es) fun e h' => ⟨(he e h').1, (he e h').2.1⟩
  generalize plainP x.mach es 0 0 = T at hok hT k3
  generalize runR x.mach 0 (es.map (·.2)) = O at hok hO k4
  refine EvC.seq (EvC.rg (by (simp only [go_sem, Nat.reduceLT, Nat.reduceLeDiff, Nat.reduceEqDiff, Nat.reduceAdd, Nat.reduceSub, Nat.reduceMul, Nat.reduceBEq, Int.reduceToNat, Int.reduceEq, Int.reduceLT, Int.reduceLE, Int.reduceAdd, ↓reduceIte, reduceCtorEq, LM.cells]) <;> rfl) (by simp) ?_)  -- R0
  refine EvC.frzB 0 (by (simp only [go_sem, Nat.reduceLT, Nat.reduceLeDiff, Nat.reduceEqDiff, Nat.reduceAdd, Nat.reduceSub, Nat.reduceMul, Nat.reduceBEq, Int.reduceToNat, Int.reduceEq, Int.reduceLT, Int.reduceLE, Int.reduceAdd, ↓reduceIte, reduceCtorEq]) <;> rfl) ?_
  apply EvC.seq  -- R1
  apply EvC.tr
  · apply Tr.run
    · (simp only [go_sem, Nat.reduceLT, Nat.reduceLeDiff, Nat.reduceEqDiff, Nat.reduceAdd, Nat.reduceSub, Nat.reduceMul, Nat.reduceBEq, Int.reduceToNat, Int.reduceEq, Int.reduceLT, Int.reduceLE, Int.reduceAdd, ↓reduceIte, reduceCtorEq]) <;> rfl
    · simp
    apply Tr.cons
    · exact .call rfl rfl (by (simp only [go_sem, Nat.reduceLT, Nat.reduceLeDiff, Nat.reduceEqDiff, Nat.reduceAdd, Nat.reduceSub, Nat.reduceMul, Nat.reduceBEq, Int.reduceToNat, Int.reduceEq, Int.reduceLT, Int.reduceLE, Int.reduceAdd, ↓reduceIte, reduceCtorEq]) <;> rfl) (by (simp only [go_sem, Nat.reduceLT, Nat.reduceLeDiff, Nat.reduceEqDiff, Nat.reduceAdd, Nat.reduceSub, Nat.reduceMul, Nat.reduceBEq, Int.reduceToNat, Int.reduceEq, Int.reduceLT, Int.reduceLE, Int.reduceAdd, ↓reduceIte, reduceCtorEq]) <;> rfl) (by (simp only [go_sem, Nat.reduceLT, Nat.reduceLeDiff, Nat.reduceEqDiff, Nat.reduceAdd, Nat.reduceSub, Nat.reduceMul, Nat.reduceBEq, Int.reduceToNat, Int.reduceEq, Int.reduceLT, Int.reduceLE, Int.reduceAdd, ↓reduceIte, reduceCtorEq]) <;> rfl) (by (simp only [go_sem, Nat.reduceLT, Nat.reduceLeDiff, Nat.reduceEqDiff, Nat.reduceAdd, Nat.reduceSub, Nat.reduceMul, Nat.reduceBEq, Int.reduceToNat, Int.reduceEq, Int.reduceLT, Int.reduceLE, Int.reduceAdd, ↓reduceIte, reduceCtorEq]) <;> rfl) (by (simp only [go_sem, Nat.reduceLT, Nat.reduceLeDiff, Nat.reduceEqDiff, Nat.reduceAdd, Nat.reduceSub, Nat.reduceMul, Nat.reduceBEq, Int.reduceToNat, Int.reduceEq, Int.reduceLT, Int.reduceLE, Int.reduceAdd, ↓reduceIte, reduceCtorEq]) <;> rfl) (by simpa [LT.cells, LM.plain, LM.cells] using k1)
    apply Tr.done
    · (simp only [go_sem, Nat.reduceLT, Nat.reduceLeDiff, Nat.reduceEqDiff, Nat.reduceAdd, Nat.reduceSub, Nat.reduceMul, Nat.reduceBEq, Int.reduceToNat, Int.reduceEq, Int.reduceLT, Int.reduceLE, Int.reduceAdd, ↓reduceIte, reduceCtorEq, Timed.cells]) <;> rfl
    · simp
  apply EvC.seq  -- R2
  apply EvC.tr
  · apply Tr.run
    · (simp only [go_sem, Nat.reduceLT, Nat.reduceLeDiff, Nat.reduceEqDiff, Nat.reduceAdd, Nat.reduceSub, Nat.reduceMul, Nat.reduceBEq, Int.reduceToNat, Int.reduceEq, Int.reduceLT, Int.reduceLE, Int.reduceAdd, ↓reduceIte, reduceCtorEq]) <;> rfl
    · simp
    apply Tr.cons
    · exact .call rfl rfl (by (simp only [go_sem, Nat.reduceLT, Nat.reduceLeDiff, Nat.reduceEqDiff, Nat.reduceAdd, Nat.reduceSub, Nat.reduceMul, Nat.reduceBEq, Int.reduceToNat, Int.reduceEq, Int.reduceLT, Int.reduceLE, Int.reduceAdd, ↓reduceIte, reduceCtorEq]) <;> rfl) (by (simp only [go_sem, Nat.reduceLT, Nat.reduceLeDiff, Nat.reduceEqDiff, Nat.reduceAdd, Nat.reduceSub, Nat.reduceMul, Nat.reduceBEq, Int.reduceToNat, Int.reduceEq, Int.reduceLT, Int.reduceLE, Int.reduceAdd, ↓reduceIte, reduceCtorEq]) <;> rfl) (by (simp only [go_sem, Nat.reduceLT, Nat.reduceLeDiff, Nat.reduceEqDiff, Nat.reduceAdd, Nat.reduceSub, Nat.reduceMul, Nat.reduceBEq, Int.reduceToNat, Int.reduceEq, Int.reduceLT, Int.reduceLE, Int.reduceAdd, ↓reduceIte, reduceCtorEq]) <;> rfl) (by (simp only [go_sem, Nat.reduceLT, Nat.reduceLeDiff, Nat.reduceEqDiff, Nat.reduceAdd, Nat.reduceSub, Nat.reduceMul, Nat.reduceBEq, Int.reduceToNat, Int.reduceEq, Int.reduceLT, Int.reduceLE, Int.reduceAdd, ↓reduceIte, reduceCtorEq]) <;> rfl) (by (simp only [go_sem, Nat.reduceLT, Nat.reduceLeDiff, Nat.reduceEqDiff, Nat.reduceAdd, Nat.reduceSub, Nat.reduceMul, Nat.reduceBEq, Int.reduceToNat, Int.reduceEq, Int.reduceLT, Int.reduceLE, Int.reduceAdd, ↓reduceIte, reduceCtorEq]) <;> rfl) (by simpa [hpm, hin] using k2)
    apply Tr.done
    · (simp only [go_sem, Nat.reduceLT, Nat.reduceLeDiff, Nat.reduceEqDiff, Nat.reduceAdd, Nat.reduceSub, Nat.reduceMul, Nat.reduceBEq, Int.reduceToNat, Int.reduceEq, Int.reduceLT, Int.reduceLE, Int.reduceAdd, ↓reduceIte, reduceCtorEq]) <;> rfl
    · simp
  refine EvC.seq (EvC.rg (by (simp only [go_sem, Nat.reduceLT, Nat.reduceLeDiff, Nat.reduceEqDiff, Nat.reduceAdd, Nat.reduceSub, Nat.reduceMul, Nat.reduceBEq, Int.reduceToNat, Int.reduceEq, Int.reduceLT, Int.reduceLE, Int.reduceAdd, ↓reduceIte, reduceCtorEq]) <;> rfl) (by simp) ?_)  -- R3
  refine EvC.seq ?_
  refine EvC.seq (EvC.rg (by (simp only [go_sem, Nat.reduceLT, Nat.reduceLeDiff, Nat.reduceEqDiff, Nat.reduceAdd, Nat.reduceSub, Nat.reduceMul, Nat.reduceBEq, Int.reduceToNat, Int.reduceEq, Int.reduceLT, Int.reduceLE, Int.reduceAdd, ↓reduceIte, reduceCtorEq]) <;> rfl) (by simp) ?_)  -- R4
  refine EvC.block ?_  -- 0
  refine EvC.loopS (σ := Nat) (fun i => ⟨[(5, .rf 0 0), (6, .sl es.isEmpty (es.map edgeC) .unk), (7, .tl 1 i (i == 0)), (8, .sc (.int .i64 i))], [],
      [(0, .cells [.sc (.int .i64 pt.m.ins), .sc (.int .i64 pt.m.outs), .sl pt.m.nl (pt.m.rows.map rowC) .unk, .sl pt.tnl (pt.ts.map timC) .unk]), (1, .arr 1 (((es.take i).map (·.2)).map intC) true)], 2⟩) (fun i => es.length - i)
    (fun i => i ≤ es.length) [5, 6, 7, 8] 2 ?_ ?_
  · refine ⟨[(5, 0), (13, 1)], 0, rfl, (by (simp only [go_sem, Nat.reduceLT, Nat.reduceLeDiff, Nat.reduceEqDiff, Nat.reduceAdd, Nat.reduceSub, Nat.reduceMul, Nat.reduceBEq, Int.reduceToNat, Int.reduceEq, Int.reduceLT, Int.reduceLE, Int.reduceAdd, ↓reduceIte, reduceCtorEq]) <;> rfl), Nat.zero_le _⟩
  intro i hi
  have hli : (((es.take i).map (·.2)).map intC).length = i := by simp; omega
  have hi0 : (i + 1 == 0) = false := rfl
  refine EvC.seq ?_
  refine EvC.seq (EvC.rg (by (simp only [go_sem, Nat.reduceLT, Nat.reduceLeDiff, Nat.reduceEqDiff, Nat.reduceAdd, Nat.reduceSub, Nat.reduceMul, Nat.reduceBEq, Int.reduceToNat, Int.reduceEq, Int.reduceLT, Int.reduceLE, Int.reduceAdd, ↓reduceIte, reduceCtorEq]) <;> rfl) (by simp) ?_)  -- R5
  refine EvC.cond (by (simp only [go_sem, Nat.reduceLT, Nat.reduceLeDiff, Nat.reduceEqDiff, Nat.reduceAdd, Nat.reduceSub, Nat.reduceMul, Nat.reduceBEq, Int.reduceToNat, Int.reduceEq, Int.reduceLT, Int.reduceLE, Int.reduceAdd, ↓reduceIte, reduceCtorEq]) <;> rfl) (fun hc => ?_) (fun hc => ?_)
  rotate_left
  · -- else
    refine EvC.exit ?_  -- 0
    have hil : i = es.length := by simp at hc; omega
    subst hil
    have e0 : es.take es.length = es := List.take_length
    refine EvC.frz 1 (by (simp only [go_sem, Nat.reduceLT, Nat.reduceLeDiff, Nat.reduceEqDiff, Nat.reduceAdd, Nat.reduceSub, Nat.reduceMul, Nat.reduceBEq, Int.reduceToNat, Int.reduceEq, Int.reduceLT, Int.reduceLE, Int.reduceAdd, ↓reduceIte, reduceCtorEq, hli]) <;> rfl) ?_
    apply EvC.seq  -- R8
    apply EvC.tr
    · apply Tr.run
      · (simp only [go_sem, Nat.reduceLT, Nat.reduceLeDiff, Nat.reduceEqDiff, Nat.reduceAdd, Nat.reduceSub, Nat.reduceMul, Nat.reduceBEq, Int.reduceToNat, Int.reduceEq, Int.reduceLT, Int.reduceLE, Int.reduceAdd, ↓reduceIte, reduceCtorEq]) <;> rfl
      · simp
      apply Tr.cons
      · exact .call rfl rfl (by (simp only [go_sem, Nat.reduceLT, Nat.reduceLeDiff, Nat.reduceEqDiff, Nat.reduceAdd, Nat.reduceSub, Nat.reduceMul, Nat.reduceBEq, Int.reduceToNat, Int.reduceEq, Int.reduceLT, Int.reduceLE, Int.reduceAdd, ↓reduceIte, reduceCtorEq]) <;> rfl) (by (simp only [go_sem, Nat.reduceLT, Nat.reduceLeDiff, Nat.reduceEqDiff, Nat.reduceAdd, Nat.reduceSub, Nat.reduceMul, Nat.reduceBEq, Int.reduceToNat, Int.reduceEq, Int.reduceLT, Int.reduceLE, Int.reduceAdd, ↓reduceIte, reduceCtorEq]) <;> rfl) (by (simp only [go_sem, Nat.reduceLT, Nat.reduceLeDiff, Nat.reduceEqDiff, Nat.reduceAdd, Nat.reduceSub, Nat.reduceMul, Nat.reduceBEq, Int.reduceToNat, Int.reduceEq, Int.reduceLT, Int.reduceLE, Int.reduceAdd, ↓reduceIte, reduceCtorEq]) <;> rfl) (by (simp only [go_sem, Nat.reduceLT, Nat.reduceLeDiff, Nat.reduceEqDiff, Nat.reduceAdd, Nat.reduceSub, Nat.reduceMul, Nat.reduceBEq, Int.reduceToNat, Int.reduceEq, Int.reduceLT, Int.reduceLE, Int.reduceAdd, ↓reduceIte, reduceCtorEq]) <;> rfl) (by (simp only [go_sem, Nat.reduceLT, Nat.reduceLeDiff, Nat.reduceEqDiff, Nat.reduceAdd, Nat.reduceSub, Nat.reduceMul, Nat.reduceBEq, Int.reduceToNat, Int.reduceEq, Int.reduceLT, Int.reduceLE, Int.reduceAdd, ↓reduceIte, reduceCtorEq]) <;> rfl) (by simpa [Timed.cells] using k3)
      apply Tr.done
      · (simp only [go_sem, Nat.reduceLT, Nat.reduceLeDiff, Nat.reduceEqDiff, Nat.reduceAdd, Nat.reduceSub, Nat.reduceMul, Nat.reduceBEq, Int.reduceToNat, Int.reduceEq, Int.reduceLT, Int.reduceLE, Int.reduceAdd, ↓reduceIte, reduceCtorEq]) <;> rfl
      · simp
    apply EvC.seq  -- R9
    apply EvC.tr
    · apply Tr.run
      · (simp only [go_sem, Nat.reduceLT, Nat.reduceLeDiff, Nat.reduceEqDiff, Nat.reduceAdd, Nat.reduceSub, Nat.reduceMul, Nat.reduceBEq, Int.reduceToNat, Int.reduceEq, Int.reduceLT, Int.reduceLE, Int.reduceAdd, ↓reduceIte, reduceCtorEq]) <;> rfl
      · simp
      apply Tr.cons
      · exact .call rfl rfl (by (simp only [go_sem, Nat.reduceLT, Nat.reduceLeDiff, Nat.reduceEqDiff, Nat.reduceAdd, Nat.reduceSub, Nat.reduceMul, Nat.reduceBEq, Int.reduceToNat, Int.reduceEq, Int.reduceLT, Int.reduceLE, Int.reduceAdd, ↓reduceIte, reduceCtorEq]) <;> rfl) (by (simp only [go_sem, Nat.reduceLT, Nat.reduceLeDiff, Nat.reduceEqDiff, Nat.reduceAdd, Nat.reduceSub, Nat.reduceMul, Nat.reduceBEq, Int.reduceToNat, Int.reduceEq, Int.reduceLT, Int.reduceLE, Int.reduceAdd, ↓reduceIte, reduceCtorEq]) <;> rfl) (by (simp only [go_sem, Nat.reduceLT, Nat.reduceLeDiff, Nat.reduceEqDiff, Nat.reduceAdd, Nat.reduceSub, Nat.reduceMul, Nat.reduceBEq, Int.reduceToNat, Int.reduceEq, Int.reduceLT, Int.reduceLE, Int.reduceAdd, ↓reduceIte, reduceCtorEq]) <;> rfl) (by (simp only [go_sem, Nat.reduceLT, Nat.reduceLeDiff, Nat.reduceEqDiff, Nat.reduceAdd, Nat.reduceSub, Nat.reduceMul, Nat.reduceBEq, Int.reduceToNat, Int.reduceEq, Int.reduceLT, Int.reduceLE, Int.reduceAdd, ↓reduceIte, reduceCtorEq]) <;> rfl) (by (simp only [go_sem, Nat.reduceLT, Nat.reduceLeDiff, Nat.reduceEqDiff, Nat.reduceAdd, Nat.reduceSub, Nat.reduceMul, Nat.reduceBEq, Int.reduceToNat, Int.reduceEq, Int.reduceLT, Int.reduceLE, Int.reduceAdd, ↓reduceIte, reduceCtorEq]) <;> rfl) (by simpa [Mach.cells, hpm, e0] using k4)
      apply Tr.done
      · (simp only [go_sem, Nat.reduceLT, Nat.reduceLeDiff, Nat.reduceEqDiff, Nat.reduceAdd, Nat.reduceSub, Nat.reduceMul, Nat.reduceBEq, Int.reduceToNat, Int.reduceEq, Int.reduceLT, Int.reduceLE, Int.reduceAdd, ↓reduceIte, reduceCtorEq]) <;> rfl
      · simp
    refine EvC.seq ?_
    apply EvC.seq  -- R10
    apply EvC.trd
    · (simp only [go_sem, Nat.reduceLT, Nat.reduceLeDiff, Nat.reduceEqDiff, Nat.reduceAdd, Nat.reduceSub, Nat.reduceMul, Nat.reduceBEq, Int.reduceToNat, Int.reduceEq, Int.reduceLT, Int.reduceLE, Int.reduceAdd, ↓reduceIte, reduceCtorEq]) <;> rfl
    · simp
    refine EvC.cond (by (simp only [go_sem, Nat.reduceLT, Nat.reduceLeDiff, Nat.reduceEqDiff, Nat.reduceAdd, Nat.reduceSub, Nat.reduceMul, Nat.reduceBEq, Int.reduceToNat, Int.reduceEq, Int.reduceLT, Int.reduceLE, Int.reduceAdd, ↓reduceIte, reduceCtorEq]) <;> rfl) (fun hc => ?_) (fun hc => ?_)
    · -- then
      exfalso
      simp at hc
      omega
    refine EvC.skip ?_
    refine EvC.seq (EvC.rg (by (simp only [go_sem, Nat.reduceLT, Nat.reduceLeDiff, Nat.reduceEqDiff, Nat.reduceAdd, Nat.reduceSub, Nat.reduceMul, Nat.reduceBEq, Int.reduceToNat, Int.reduceEq, Int.reduceLT, Int.reduceLE, Int.reduceAdd, ↓reduceIte, reduceCtorEq]) <;> rfl) (by simp) ?_)  -- R12
    refine EvC.seq ?_
    refine EvC.seq (EvC.rg (by (simp only [go_sem, Nat.reduceLT, Nat.reduceLeDiff, Nat.reduceEqDiff, Nat.reduceAdd, Nat.reduceSub, Nat.reduceMul, Nat.reduceBEq, Int.reduceToNat, Int.reduceEq, Int.reduceLT, Int.reduceLE, Int.reduceAdd, ↓reduceIte, reduceCtorEq]) <;> rfl) (by simp) ?_)  -- R13
    refine EvC.block ?_  -- 2
    refine EvC.loopS (σ := Nat) (fun i => ⟨[(6, .sl es.isEmpty (es.map edgeC) .unk), (9, .sl T.isEmpty (T.map edgeC) .full), (11, .sl O.isEmpty (O.map intC) .unk), (12, .sc (.int .i64 0)), (13, .sc (.int .i64 (lastR (T.take i)))), (14, .sc (.int .i64 i))], [], [], 0⟩) (fun i => T.length - i)
      (fun i => i ≤ T.length) [6, 9, 11, 12, 13, 14] 0 ?_ ?_
    · refine ⟨[], 0, rfl, (by (simp only [go_sem, Nat.reduceLT, Nat.reduceLeDiff, Nat.reduceEqDiff, Nat.reduceAdd, Nat.reduceSub, Nat.reduceMul, Nat.reduceBEq, Int.reduceToNat, Int.reduceEq, Int.reduceLT, Int.reduceLE, Int.reduceAdd, ↓reduceIte, reduceCtorEq, lastR, List.take_zero, List.getLast?_nil, Option.getD_none]) <;> rfl), Nat.zero_le _⟩
    intro i hi
    refine EvC.seq ?_
    refine EvC.seq (EvC.rg (by (simp only [go_sem, Nat.reduceLT, Nat.reduceLeDiff, Nat.reduceEqDiff, Nat.reduceAdd, Nat.reduceSub, Nat.reduceMul, Nat.reduceBEq, Int.reduceToNat, Int.reduceEq, Int.reduceLT, Int.reduceLE, Int.reduceAdd, ↓reduceIte, reduceCtorEq]) <;> rfl) (by simp) ?_)  -- R14
    refine EvC.cond (by (simp only [go_sem, Nat.reduceLT, Nat.reduceLeDiff, Nat.reduceEqDiff, Nat.reduceAdd, Nat.reduceSub, Nat.reduceMul, Nat.reduceBEq, Int.reduceToNat, Int.reduceEq, Int.reduceLT, Int.reduceLE, Int.reduceAdd, ↓reduceIte, reduceCtorEq]) <;> rfl) (fun hc => ?_) (fun hc => ?_)
    rotate_left
    · -- else
      refine EvC.exit ?_  -- 2
      have hiT : i = T.length := by simp at hc; omega
      subst hiT
      rw [List.take_length]
      refine EvC.seq ?_
      refine EvC.seq (EvC.rg (by (simp only [go_sem, Nat.reduceLT, Nat.reduceLeDiff, Nat.reduceEqDiff, Nat.reduceAdd, Nat.reduceSub, Nat.reduceMul, Nat.reduceBEq, Int.reduceToNat, Int.reduceEq, Int.reduceLT, Int.reduceLE, Int.reduceAdd, ↓reduceIte, reduceCtorEq]) <;> rfl) (by simp) ?_)  -- R17
      refine EvC.block ?_  -- 4
      refine EvC.loopS (σ := Nat) (fun i => ⟨[(6, .sl es.isEmpty (es.map edgeC) .unk), (9, .sl T.isEmpty (T.map edgeC) .full), (11, .sl O.isEmpty (O.map intC) .unk), (12, .sc (.int .i64 (nowAt es i))), (13, .sc (.int .i64 (lastR T))), (15, .sc (.int .i64 i))], [], [], 0⟩) (fun i => es.length - i)
        (fun i => i ≤ es.length) [6, 9, 11, 12, 13, 15] 0 ?_ ?_
      · refine ⟨[], 0, rfl, (by (simp only [go_sem, Nat.reduceLT, Nat.reduceLeDiff, Nat.reduceEqDiff, Nat.reduceAdd, Nat.reduceSub, Nat.reduceMul, Nat.reduceBEq, Int.reduceToNat, Int.reduceEq, Int.reduceLT, Int.reduceLE, Int.reduceAdd, ↓reduceIte, reduceCtorEq, nowAt]) <;> rfl), Nat.zero_le _⟩
      intro i hi
      refine EvC.seq ?_
      refine EvC.seq (EvC.rg (by (simp only [go_sem, Nat.reduceLT, Nat.reduceLeDiff, Nat.reduceEqDiff, Nat.reduceAdd, Nat.reduceSub, Nat.reduceMul, Nat.reduceBEq, Int.reduceToNat, Int.reduceEq, Int.reduceLT, Int.reduceLE, Int.reduceAdd, ↓reduceIte, reduceCtorEq]) <;> rfl) (by simp) ?_)  -- R18
      refine EvC.cond (by (simp only [go_sem, Nat.reduceLT, Nat.reduceLeDiff, Nat.reduceEqDiff, Nat.reduceAdd, Nat.reduceSub, Nat.reduceMul, Nat.reduceBEq, Int.reduceToNat, Int.reduceEq, Int.reduceLT, Int.reduceLE, Int.reduceAdd, ↓reduceIte, reduceCtorEq]) <;> rfl) (fun hc => ?_) (fun hc => ?_)
      rotate_left
      · -- else
        refine EvC.exit ?_  -- 4
        apply EvC.seq  -- R23
        apply EvC.tr
        · apply Tr.run
          · (simp only [go_sem, Nat.reduceLT, Nat.reduceLeDiff, Nat.reduceEqDiff, Nat.reduceAdd, Nat.reduceSub, Nat.reduceMul, Nat.reduceBEq, Int.reduceToNat, Int.reduceEq, Int.reduceLT, Int.reduceLE, Int.reduceAdd, ↓reduceIte, reduceCtorEq]) <;> rfl
          · simp
          apply Tr.cons
          · exact .call rfl rfl (by (simp only [go_sem, Nat.reduceLT, Nat.reduceLeDiff, Nat.reduceEqDiff, Nat.reduceAdd, Nat.reduceSub, Nat.reduceMul, Nat.reduceBEq, Int.reduceToNat, Int.reduceEq, Int.reduceLT, Int.reduceLE, Int.reduceAdd, ↓reduceIte, reduceCtorEq]) <;> rfl) (by (simp only [go_sem, Nat.reduceLT, Nat.reduceLeDiff, Nat.reduceEqDiff, Nat.reduceAdd, Nat.reduceSub, Nat.reduceMul, Nat.reduceBEq, Int.reduceToNat, Int.reduceEq, Int.reduceLT, Int.reduceLE, Int.reduceAdd, ↓reduceIte, reduceCtorEq]) <;> rfl) (by (simp only [go_sem, Nat.reduceLT, Nat.reduceLeDiff, Nat.reduceEqDiff, Nat.reduceAdd, Nat.reduceSub, Nat.reduceMul, Nat.reduceBEq, Int.reduceToNat, Int.reduceEq, Int.reduceLT, Int.reduceLE, Int.reduceAdd, ↓reduceIte, reduceCtorEq]) <;> rfl) (by (simp only [go_sem, Nat.reduceLT, Nat.reduceLeDiff, Nat.reduceEqDiff, Nat.reduceAdd, Nat.reduceSub, Nat.reduceMul, Nat.reduceBEq, Int.reduceToNat, Int.reduceEq, Int.reduceLT, Int.reduceLE, Int.reduceAdd, ↓reduceIte, reduceCtorEq]) <;> rfl) (by (simp only [go_sem, Nat.reduceLT, Nat.reduceLeDiff, Nat.reduceEqDiff, Nat.reduceAdd, Nat.reduceSub, Nat.reduceMul, Nat.reduceBEq, Int.reduceToNat, Int.reduceEq, Int.reduceLT, Int.reduceLE, Int.reduceAdd, ↓reduceIte, reduceCtorEq]) <;> rfl) lives_is
          apply Tr.done
          · (simp only [go_sem, Nat.reduceLT, Nat.reduceLeDiff, Nat.reduceEqDiff, Nat.reduceAdd, Nat.reduceSub, Nat.reduceMul, Nat.reduceBEq, Int.reduceToNat, Int.reduceEq, Int.reduceLT, Int.reduceLE, Int.reduceAdd, ↓reduceIte, reduceCtorEq]) <;> rfl
          · simp
        refine EvC.ret ⟨.inl rfl, _, (by (simp only [go_sem, Nat.reduceLT, Nat.reduceLeDiff, Nat.reduceEqDiff, Nat.reduceAdd, Nat.reduceSub, Nat.reduceMul, Nat.reduceBEq, Int.reduceToNat, Int.reduceEq, Int.reduceLT, Int.reduceLE, Int.reduceAdd, ↓reduceIte, reduceCtorEq]) <;> rfl), ?_, rfl⟩
        simp only [go_sem, Nat.reduceLT, Nat.reduceLeDiff, Nat.reduceEqDiff, Nat.reduceAdd, Nat.reduceSub, Nat.reduceMul, Nat.reduceBEq, Int.reduceToNat, Int.reduceEq, Int.reduceLT, Int.reduceLE, Int.reduceAdd, ↓reduceIte, reduceCtorEq]
      have hil : i < es.length := by simp [hO] at hc; omega
      have hei : es[i]? = some es[i] := List.getElem?_eq_getElem hil
      have hek := he _ (List.getElem_mem hil)
      have hoi : O[i]? = some (O[i]'(by omega)) := List.getElem?_eq_getElem _
      have hok1 := hok i hil
      have hn1 := hnow (i + 1)
      have hn0 := hnow i
      have hna : nowAt es (i + 1) = nowAt es i + (es[i]).1 := by rw [nowAt, hei]; rfl
      rw [hoi] at hok1
      generalize es[i] = e at hei hek hna
      generalize O[i]'(by omega) = o at hoi hok1
      refine EvC.skip ?_
      refine EvC.seq ?_
      refine EvC.block ?_  -- 5
      refine EvC.seq (EvC.rg (by (simp only [go_sem, Nat.reduceLT, Nat.reduceLeDiff, Nat.reduceEqDiff, Nat.reduceAdd, Nat.reduceSub, Nat.reduceMul, Nat.reduceBEq, Int.reduceToNat, Int.reduceEq, Int.reduceLT, Int.reduceLE, Int.reduceAdd, ↓reduceIte, reduceCtorEq, hei, edgeC]) <;> rfl) (inI64_of (by omega) (by omega)) ?_)  -- R20
      by_cases hT' : i < T.length
      · have hti := hok1.1 hT'
        simp only [Int.zero_add, Option.getD_some] at hti
        have hTi : (i : Int) < T.length := by omega
        apply EvC.seq  -- R21
        apply EvC.drd mixed
        · (simp only [go_sem, Nat.reduceLT, Nat.reduceLeDiff, Nat.reduceEqDiff, Nat.reduceAdd, Nat.reduceSub, Nat.reduceMul, Nat.reduceBEq, Int.reduceToNat, Int.reduceEq, Int.reduceLT, Int.reduceLE, Int.reduceAdd, ↓reduceIte, reduceCtorEq, hti, hoi, edgeC, intC, hna, decide_eq_true hTi]) <;> rfl
        · simp
        · kernel_rfl
        refine EvC.cond (by (simp only [go_sem, Nat.reduceLT, Nat.reduceLeDiff, Nat.reduceEqDiff, Nat.reduceAdd, Nat.reduceSub, Nat.reduceMul, Nat.reduceBEq, Int.reduceToNat, Int.reduceEq, Int.reduceLT, Int.reduceLE, Int.reduceAdd, ↓reduceIte, reduceCtorEq]) <;> rfl) (fun hc => ?_) (fun hc => ?_)
        · exfalso
          simp [hna] at hc
          omega
        refine EvC.skip ?_
        refine EvC.rg (by (simp only [go_sem, Nat.reduceLT, Nat.reduceLeDiff, Nat.reduceEqDiff, Nat.reduceAdd, Nat.reduceSub, Nat.reduceMul, Nat.reduceBEq, Int.reduceToNat, Int.reduceEq, Int.reduceLT, Int.reduceLE, Int.reduceAdd, ↓reduceIte, reduceCtorEq]) <;> rfl) (inI64_of (by omega) (by omega)) ?_  -- R19
        refine ⟨[], i + 1, rfl, ?_, by omega, by omega⟩
        (simp only [go_sem, Nat.reduceLT, Nat.reduceLeDiff, Nat.reduceEqDiff, Nat.reduceAdd, Nat.reduceSub, Nat.reduceMul, Nat.reduceBEq, Int.reduceToNat, Int.reduceEq, Int.reduceLT, Int.reduceLE, Int.reduceAdd, ↓reduceIte, reduceCtorEq, hna]) <;> rfl
      · have hlast := hok1.2 (by omega)
        have hTi : ¬ (i : Int) < T.length := by omega
        have hTg : (T.length : Int) ≤ i := by omega
        apply EvC.seq  -- R21
        have hnone : T[i]? = none := List.getElem?_eq_none (by omega)
        apply EvC.drw mixed
        · apply Tr.run
          · (simp only [go_sem, Nat.reduceLT, Nat.reduceLeDiff, Nat.reduceEqDiff, Nat.reduceAdd, Nat.reduceSub, Nat.reduceMul, Nat.reduceBEq, Int.reduceToNat, Int.reduceEq, Int.reduceLT, Int.reduceLE, Int.reduceAdd, ↓reduceIte, reduceCtorEq, hoi, edgeC, intC, hna, hlast, decide_eq_false hTi, decide_eq_true hTg, hnone]) <;> rfl
          · simp
          apply Tr.cons
          · exact .skipv (.ia [.sc (.int .i64 0), .sc (.int .i64 0)]) rfl rfl (by (simp only [go_sem, Nat.reduceLT, Nat.reduceLeDiff, Nat.reduceEqDiff, Nat.reduceAdd, Nat.reduceSub, Nat.reduceMul, Nat.reduceBEq, Int.reduceToNat, Int.reduceEq, Int.reduceLT, Int.reduceLE, Int.reduceAdd, ↓reduceIte, reduceCtorEq]) <;> rfl) (by (simp only [go_sem, Nat.reduceLT, Nat.reduceLeDiff, Nat.reduceEqDiff, Nat.reduceAdd, Nat.reduceSub, Nat.reduceMul, Nat.reduceBEq, Int.reduceToNat, Int.reduceEq, Int.reduceLT, Int.reduceLE, Int.reduceAdd, ↓reduceIte, reduceCtorEq]) <;> rfl)
          apply Tr.run
          · (simp only [go_sem, Nat.reduceLT, Nat.reduceLeDiff, Nat.reduceEqDiff, Nat.reduceAdd, Nat.reduceSub, Nat.reduceMul, Nat.reduceBEq, Int.reduceToNat, Int.reduceEq, Int.reduceLT, Int.reduceLE, Int.reduceAdd, ↓reduceIte, reduceCtorEq, hoi, edgeC, intC, hna, hlast, decide_eq_false hTi, decide_eq_true hTg, hnone]) <;> rfl
          · simp
          apply Tr.cons
          · exact .skipv (.ia [.sc (.int .i64 0), .sc (.int .i64 0)]) rfl rfl (by (simp only [go_sem, Nat.reduceLT, Nat.reduceLeDiff, Nat.reduceEqDiff, Nat.reduceAdd, Nat.reduceSub, Nat.reduceMul, Nat.reduceBEq, Int.reduceToNat, Int.reduceEq, Int.reduceLT, Int.reduceLE, Int.reduceAdd, ↓reduceIte, reduceCtorEq]) <;> rfl) (by (simp only [go_sem, Nat.reduceLT, Nat.reduceLeDiff, Nat.reduceEqDiff, Nat.reduceAdd, Nat.reduceSub, Nat.reduceMul, Nat.reduceBEq, Int.reduceToNat, Int.reduceEq, Int.reduceLT, Int.reduceLE, Int.reduceAdd, ↓reduceIte, reduceCtorEq]) <;> rfl)
          apply Tr.done
          · (simp only [go_sem, Nat.reduceLT, Nat.reduceLeDiff, Nat.reduceEqDiff, Nat.reduceAdd, Nat.reduceSub, Nat.reduceMul, Nat.reduceBEq, Int.reduceToNat, Int.reduceEq, Int.reduceLT, Int.reduceLE, Int.reduceAdd, ↓reduceIte, reduceCtorEq, hoi, edgeC, intC, hna, hlast, decide_eq_false hTi, decide_eq_true hTg, hnone]) <;> rfl
          · simp
        · kernel_rfl
        refine EvC.cond_false (by (simp only [go_sem, Nat.reduceLT, Nat.reduceLeDiff, Nat.reduceEqDiff, Nat.reduceAdd, Nat.reduceSub, Nat.reduceMul, Nat.reduceBEq, Int.reduceToNat, Int.reduceEq, Int.reduceLT, Int.reduceLE, Int.reduceAdd, ↓reduceIte, reduceCtorEq]) <;> rfl) ?_
        refine EvC.skip ?_
        refine EvC.rg (by (simp only [go_sem, Nat.reduceLT, Nat.reduceLeDiff, Nat.reduceEqDiff, Nat.reduceAdd, Nat.reduceSub, Nat.reduceMul, Nat.reduceBEq, Int.reduceToNat, Int.reduceEq, Int.reduceLT, Int.reduceLE, Int.reduceAdd, ↓reduceIte, reduceCtorEq]) <;> rfl) (inI64_of (by omega) (by omega)) ?_  -- R19
        refine ⟨[], i + 1, rfl, ?_, by omega, by omega⟩
        (simp only [go_sem, Nat.reduceLT, Nat.reduceLeDiff, Nat.reduceEqDiff, Nat.reduceAdd, Nat.reduceSub, Nat.reduceMul, Nat.reduceBEq, Int.reduceToNat, Int.reduceEq, Int.reduceLT, Int.reduceLE, Int.reduceAdd, ↓reduceIte, reduceCtorEq, hna, hlast]) <;> rfl
    have hiT : i < T.length := by simpa using hc
    have hti : T[i]? = some T[i] := List.getElem?_eq_getElem hiT
    generalize T[i] = t at hti
    have htk : lastR (T.take (i + 1)) = t.2 := by rw [List.take_add_one, hti]; simp [lastR]
    refine EvC.skip ?_
    refine EvC.seq ?_
    refine EvC.block ?_  -- 3
    refine EvC.rg (by (simp only [go_sem, Nat.reduceLT, Nat.reduceLeDiff, Nat.reduceEqDiff, Nat.reduceAdd, Nat.reduceSub, Nat.reduceMul, Nat.reduceBEq, Int.reduceToNat, Int.reduceEq, Int.reduceLT, Int.reduceLE, Int.reduceAdd, ↓reduceIte, reduceCtorEq, hti, edgeC]) <;> rfl) (by simp) ?_  -- R16
    refine EvC.rg (by (simp only [go_sem, Nat.reduceLT, Nat.reduceLeDiff, Nat.reduceEqDiff, Nat.reduceAdd, Nat.reduceSub, Nat.reduceMul, Nat.reduceBEq, Int.reduceToNat, Int.reduceEq, Int.reduceLT, Int.reduceLE, Int.reduceAdd, ↓reduceIte, reduceCtorEq]) <;> rfl) (inI64_of (by omega) (by omega)) ?_  -- R15
    refine ⟨[], i + 1, rfl, ?_, by omega, by omega⟩
    (simp only [go_sem, Nat.reduceLT, Nat.reduceLeDiff, Nat.reduceEqDiff, Nat.reduceAdd, Nat.reduceSub, Nat.reduceMul, Nat.reduceBEq, Int.reduceToNat, Int.reduceEq, Int.reduceLT, Int.reduceLE, Int.reduceAdd, ↓reduceIte, reduceCtorEq, htk]) <;> rfl
  have hil : i < es.length := by simpa using hc
  have hei : es[i]? = some es[i] := List.getElem?_eq_getElem hil
  have hek := he _ (List.getElem_mem hil)
  generalize es[i] = e at hei hek
  have htk : es.take (i + 1) = es.take i ++ [e] := by rw [List.take_add_one, hei]; rfl
  refine EvC.skip ?_
  refine EvC.seq ?_
  refine EvC.block ?_  -- 1
  refine EvC.rg (by (simp only [go_sem, Nat.reduceLT, Nat.reduceLeDiff, Nat.reduceEqDiff, Nat.reduceAdd, Nat.reduceSub, Nat.reduceMul, Nat.reduceBEq, Int.reduceToNat, Int.reduceEq, Int.reduceLT, Int.reduceLE, Int.reduceAdd, ↓reduceIte, reduceCtorEq, hei, edgeC]) <;> rfl) (by simp [room_eq, AV.norefs, AV.noref]; omega) ?_  -- R7
  refine EvC.rg (by (simp only [go_sem, Nat.reduceLT, Nat.reduceLeDiff, Nat.reduceEqDiff, Nat.reduceAdd, Nat.reduceSub, Nat.reduceMul, Nat.reduceBEq, Int.reduceToNat, Int.reduceEq, Int.reduceLT, Int.reduceLE, Int.reduceAdd, ↓reduceIte, reduceCtorEq]) <;> rfl) (inI64_of (by omega) (by omega)) ?_  -- R6
  refine ⟨[(0, 0), (1, 1)], i + 1, rfl, ?_, by omega, by omega⟩
  have hmin : min i es.length = i := by omega
  (simp only [go_sem, Nat.reduceLT, Nat.reduceLeDiff, Nat.reduceEqDiff, Nat.reduceAdd, Nat.reduceSub, Nat.reduceMul, Nat.reduceBEq, Int.reduceToNat, Int.reduceEq, Int.reduceLT, Int.reduceLE, Int.reduceAdd, ↓reduceIte, reduceCtorEq, hi0, htk, intC, List.length_map, List.length_take, hmin]) <;> rfl
end Go.Avl
namespace Go.Proofs.Ytnnmghgifhidgaa
open Go Go.Avl Go.Proofs Go.ChangeShapes Go.RowKit

set_option maxRecDepth 100000 in
theorem timersPlain_lifted (os : Os) (started : os.Started) (H : Type) (enc : TypeId × Value → H) :
    ReturnsInHanded {} Try.checked os 6 .any (Rows.timersPlainSpec.pre6 enc Try.prog Try.f6 Rows.timersPlainRow.domain false) (Rows.timersPlainSpec.post enc Try.prog Try.f6 false true false false) := by
  refine returnsInHanded_of_change (C := Try.checked) Try.own started (by kernel_rfl) Try.func6
    (ChangeSpec.witness6 (enc := enc) (C := Try.checked) false ⟨#[], #[.agg #[.int .u8 0, .int .u8 0, .int .u8 0, .bool false, .slice none 0 0], .slice none 0 0], []⟩ 8 (by kernel_rfl) (by kernel_rfl) (by kernel_rfl) (by kernel_rfl)) ?_
  intro W base args ds gs before hval hW _ _
  have hW' := hW
  obtain ⟨p, q, hA, hV, rfl, _, _⟩ := hW'
  obtain ⟨rfl, rfl⟩ := trodVars_none hV
  have hA' : DataW.TrodAll enc Try.prog W 0 (fun _ => true) true [24, 28] args.toList ds p := by rw [← show Try.f6.params.toList = [24, 28] from rfl]; exact hA
  obtain ⟨v0, v1, d0, d1, p0, p1, rfl, rfl, rfl, h0, h1⟩ := trodAll_two hA'
  obtain ⟨x, hx, i0⟩ := rd_LM.imm_struct Try.underlying24 (hval 0 24 v0 rfl rfl) h0
  obtain ⟨l, hl, i1⟩ := rd_U8s.imm_slice Try.underlying28 (hval 1 28 v1 rfl rfl) h1
  exact law_calls Try.laidOut (by kernel_rfl) rfl (by kernel_rfl) rfl rfl (timersPlain_is hx hl l.1 .unk) (Imms.append (.one i0) (.one i1)) hW

theorem timersPlain_holds : Rows.TimersPlainSaid :=
  OpenClaim.holds_of_wide 6 Try.f6 rfl rfl rfl rfl rfl rfl rfl ⟨rfl, rfl, rfl, rfl, rfl⟩ rfl rfl rfl rfl rfl (by kernel_rfl) Try.func6 (by kernel_rfl)
    (of_decide_eq_true (by kernel_rfl)) (by unfold Func.isWrapper; first | (rw [if_pos (by decide +kernel)]; kernel_rfl) | (rw [if_neg (by decide +kernel)]; exact ⟨rfl, rfl⟩))
    (fun os started H enc _ => timersPlain_lifted os started H enc)
#print axioms timersPlain_holds
end Go.Proofs.Ytnnmghgifhidgaa
