/-
  Calls that lend objects, whatever they hold, in regions that are drawn, too.
  An empty object, to be grown by rows that are still written.
  Many objects at once: those with the numbers below n (n at most 1000000; the others have greater ones). Renaming, freezing.
  Another test of a drawn region's order: by the slots that its operations name, where the numbers of objects are not known.
  Tables whose rows are slices of their own, still written: the rows are the objects below n.
  Functions that work on objects that are there: what comes of them from given arguments and memory.
  Lists with room behind them.
  Regions that draw their order, the last operation behind all others.
  A box that keeps the front of an object that nobody else keeps: the object cut to it.
  Boxes that keep a whole object: as a view of it from its front.
  Functions whose result is a new slice that nobody else has: it may go on being written.
  A call that cuts the room behind a slice of an object of the caller's.
  Regions that draw their order: operations that wait for each other through others.
  A call whose result is an empty slice without room, as an object.
-/
import Derived.Test.YthdaggogdocmfaaDoorPart4
set_option linter.unusedSimpArgs false
set_option linter.unusedVariables false
set_option linter.unnecessarySimpa false
set_option linter.deprecated false
namespace Go.Avl
open Go

def lendC (f : AV → AV) (cs : List AV) : List AV := if AV.norefs cs = true then cs else cs.map f
def lendR (f : AV → AV) (es : List (List AV)) : List (List AV) := if es.all AV.norefs = true then es else es.map (·.map f)
/-- A value as a plain reading, what it reaches through objects by their contents. -/
def lendA (M : Mem) : Nat → AV → AV
  | 0, v => v
  | d + 1, .tl i n b => match mlook M i with
    | some (.arr _ es _) => .sl b (lendR (lendA M d) es) .unk
    | _ => .tl i n b
  | d + 1, .tv i n off len cap => match mlook M i with
    | some (.arr _ es _) => .sl false (tvEs (lendR (lendA M d) es) n off len) (tvCap len cap)
    | _ => .tv i n off len cap
  | d + 1, .rf i off => match mlook M i with
    | some (.cells cs) => .ia ((lendC (lendA M d) cs).drop off)
    | _ => .rf i off
  | d + 1, .fn f cs => .fn f (lendC (lendA M d) cs)
  | d + 1, .ag cs => .ag (lendC (lendA M d) cs)
  | _ + 1, v => v
/-- Whether that is all that it reaches. -/
def lendK (M : Mem) : Nat → AV → Bool
  | 0, v => v.noref
  | d + 1, .tl i n _ => match mlook M i with
    | some (.arr _ es _) => decide (n = es.length) && (es.all AV.norefs || es.all fun c => c.all (lendK M d))
    | _ => false
  | d + 1, .tv i n _ _ _ => match mlook M i with
    | some (.arr _ es _) => decide (n = es.length) && (es.all AV.norefs || es.all fun c => c.all (lendK M d))
    | _ => false
  | d + 1, .rf i _ => match mlook M i with
    | some (.cells cs) => AV.norefs cs || cs.all (lendK M d)
    | _ => false
  | d + 1, .fn _ cs => AV.norefs cs || cs.all (lendK M d)
  | d + 1, .ag cs => AV.norefs cs || cs.all (lendK M d)
  | _ + 1, v => v.noref
def lendIs (f : AV → List Nat) : List AV → List Nat
  | [] => []
  | c :: cs => f c ++ lendIs f cs
def lendIss (f : AV → List Nat) : List (List AV) → List Nat
  | [] => []
  | c :: cs => lendIs f c ++ lendIss f cs
/-- The objects that are read for that. -/
def lendI (M : Mem) : Nat → AV → List Nat
  | 0, _ => []
  | d + 1, .tl i _ _ => i :: match mlook M i with
    | some (.arr _ es _) => if es.all AV.norefs = true then [] else lendIss (lendI M d) es
    | _ => []
  | d + 1, .tv i _ _ _ _ => i :: match mlook M i with
    | some (.arr _ es _) => if es.all AV.norefs = true then [] else lendIss (lendI M d) es
    | _ => []
  | d + 1, .rf i _ => i :: match mlook M i with
    | some (.cells cs) => if AV.norefs cs = true then [] else lendIs (lendI M d) cs
    | _ => []
  | d + 1, .fn _ cs => if AV.norefs cs = true then [] else lendIs (lendI M d) cs
  | d + 1, .ag cs => if AV.norefs cs = true then [] else lendIs (lendI M d) cs
  | _ + 1, _ => []

section
variable {P : Program} {fr : Fr} {ro : Option Nat} {ds : DS} {st st' : St} {Q Q' : Exit → St → Prop} {G G' : Nat → Option Value} {F F' : Nat → Nat → Prop} {a : Act} {w w' : World} {x y c : Code}
  {M M' : Mem} {ops : Array Oper} {l rest : List Oper} {o : Oper} {id N : Nat} {rd : List Nat}

theorem lendIs_mem {f : AV → List Nat} {i : Nat} {v : AV} : ∀ {cs : List AV}, v ∈ cs → i ∈ f v → i ∈ lendIs f cs
  | c :: cs, h, hi => by
    simp only [lendIs, List.mem_append]
    rcases List.mem_cons.1 h with rfl | h
    · exact .inl hi
    · exact .inr (lendIs_mem h hi)
theorem lendIss_mem {f : AV → List Nat} {i : Nat} {v : List AV} : ∀ {cs : List (List AV)}, v ∈ cs → i ∈ lendIs f v → i ∈ lendIss f cs
  | c :: cs, h, hi => by
    simp only [lendIss, List.mem_append]
    rcases List.mem_cons.1 h with rfl | h
    · exact .inl hi
    · exact .inr (lendIss_mem h hi)

theorem lend_congr : ∀ (d : Nat) (v : AV), (∀ i ∈ lendI M d v, mlook M' i = mlook M i) → lendA M' d v = lendA M d v ∧ lendK M' d v = lendK M d v
  | 0, v, _ => ⟨rfl, rfl⟩
  | d + 1, v, h => by
    have cells : ∀ cs : List AV, (∀ i ∈ (if AV.norefs cs = true then [] else lendIs (lendI M d) cs), mlook M' i = mlook M i) → lendC (lendA M' d) cs = lendC (lendA M d) cs ∧ (AV.norefs cs || cs.all (lendK M' d)) = (AV.norefs cs || cs.all (lendK M d)) := fun cs hc => by
      unfold lendC
      by_cases hn : AV.norefs cs = true
      · rw [if_pos hn, if_pos hn, hn]; exact ⟨rfl, rfl⟩
      · rw [if_neg hn] at hc
        rw [if_neg hn, if_neg hn]
        have ih : ∀ c ∈ cs, lendA M' d c = lendA M d c ∧ lendK M' d c = lendK M d c := fun c hc' => lend_congr d c fun i hi => hc i (lendIs_mem hc' hi)
        refine ⟨List.map_congr_left fun c hc => (ih c hc).1, ?_⟩
        congr 1
        rw [Bool.eq_iff_iff, List.all_eq_true, List.all_eq_true]
        exact ⟨fun h c hc => by rw [← (ih c hc).2]; exact h c hc, fun h c hc => by rw [(ih c hc).2]; exact h c hc⟩
    have rows : ∀ es : List (List AV), (∀ i ∈ (if es.all AV.norefs = true then [] else lendIss (lendI M d) es), mlook M' i = mlook M i) → lendR (lendA M' d) es = lendR (lendA M d) es ∧ (es.all AV.norefs || es.all fun c => c.all (lendK M' d)) = (es.all AV.norefs || es.all fun c => c.all (lendK M d)) := fun es hc => by
      unfold lendR
      by_cases hn : es.all AV.norefs = true
      · rw [if_pos hn, if_pos hn, hn]; exact ⟨rfl, rfl⟩
      · rw [if_neg hn] at hc
        rw [if_neg hn, if_neg hn]
        have ih : ∀ r ∈ es, ∀ c ∈ r, lendA M' d c = lendA M d c ∧ lendK M' d c = lendK M d c := fun r hr c hc' => lend_congr d c fun i hi => hc i (lendIss_mem hr (lendIs_mem hc' hi))
        refine ⟨List.map_congr_left fun r hr => List.map_congr_left fun c hc => (ih r hr c hc).1, ?_⟩
        congr 1
        rw [Bool.eq_iff_iff, List.all_eq_true, List.all_eq_true]
        simp only [List.all_eq_true]
        exact ⟨fun h r hr c hc => by rw [← (ih r hr c hc).2]; exact h r hr c hc, fun h r hr c hc => by rw [(ih r hr c hc).2]; exact h r hr c hc⟩
    cases v with
    | tl i n b =>
      simp only [lendI, List.mem_cons, forall_eq_or_imp] at h
      obtain ⟨h1, h2⟩ := h
      simp only [lendA, lendK, h1]
      cases hM : mlook M i with
      | none => exact ⟨rfl, rfl⟩
      | some ob =>
        rw [hM] at h2
        cases ob with
        | arr esz es fz => obtain ⟨e1, e2⟩ := rows es h2; simp only; rw [e1, e2]; exact ⟨rfl, rfl⟩
        | _ => exact ⟨rfl, rfl⟩
    | tv i n off len cap =>
      simp only [lendI, List.mem_cons, forall_eq_or_imp] at h
      obtain ⟨h1, h2⟩ := h
      simp only [lendA, lendK, h1]
      cases hM : mlook M i with
      | none => exact ⟨rfl, rfl⟩
      | some ob =>
        rw [hM] at h2
        cases ob with
        | arr esz es fz => obtain ⟨e1, e2⟩ := rows es h2; simp only; rw [e1, e2]; exact ⟨rfl, rfl⟩
        | _ => exact ⟨rfl, rfl⟩
    | rf i off =>
      simp only [lendI, List.mem_cons, forall_eq_or_imp] at h
      obtain ⟨h1, h2⟩ := h
      simp only [lendA, lendK, h1]
      cases hM : mlook M i with
      | none => exact ⟨rfl, rfl⟩
      | some ob =>
        rw [hM] at h2
        cases ob with
        | cells cs => obtain ⟨e1, e2⟩ := cells cs h2; simp only; rw [e1, e2]; exact ⟨rfl, rfl⟩
        | _ => exact ⟨rfl, rfl⟩
    | fn f cs => obtain ⟨e1, e2⟩ := cells cs h; simp only [lendA, lendK]; rw [e1, e2]; exact ⟨rfl, rfl⟩
    | ag cs => obtain ⟨e1, e2⟩ := cells cs h; simp only [lendA, lendK]; rw [e1, e2]; exact ⟨rfl, rfl⟩
    | _ => exact ⟨rfl, rfl⟩

theorem lendR_len (f : AV → AV) (es : List (List AV)) : (lendR f es).length = es.length := by unfold lendR; split <;> simp
theorem lendC_len (f : AV → AV) (cs : List AV) : (lendC f cs).length = cs.length := by unfold lendC; split <;> simp

theorem RV.lendA {nx : Nat} (hm : SimM P G F M nx w) : ∀ (d : Nat) {v : Value} {y : AV}, RV G F M w v y → lendK M d y = true → Imm (Avl.lend G F M) w v (Avl.lendA M d y)
  | 0, v, y, h, hk => (h.imm_of hk).lend
  | d + 1, v, y, h, hk => by
    have cells : ∀ (vs : List Value) (cs : List AV), vs.length = cs.length → (∀ i (h1 : i < vs.length) (h2 : i < cs.length), RV G F M w vs[i] cs[i]) → (AV.norefs cs || cs.all (lendK M d)) = true →
        vs.length = (lendC (Avl.lendA M d) cs).length ∧ ∀ i (h1 : i < vs.length) (h2 : i < (lendC (Avl.lendA M d) cs).length), Imm (Avl.lend G F M) w vs[i] (lendC (Avl.lendA M d) cs)[i] := fun vs cs hl hr hc => by
      refine ⟨by rw [lendC_len]; exact hl, fun i h1 h2 => ?_⟩
      have h2' : i < cs.length := by rw [lendC_len] at h2; exact h2
      by_cases hn : AV.norefs cs = true
      · simp only [lendC, if_pos hn]
        exact ((hr i h1 h2').imm_of (norefs_get _ hn i h2')).lend
      · simp only [lendC, if_neg hn, List.getElem_map]
        have hn' : AV.norefs cs = false := by simpa using hn
        rw [hn', Bool.false_or, List.all_eq_true] at hc
        exact RV.lendA hm d (hr i h1 h2') (hc _ (List.getElem_mem h2'))
    have rows : ∀ (es : List (List AV)), (es.all AV.norefs || es.all fun c => c.all (lendK M d)) = true → ∀ i (hi : i < es.length), ∃ hi' : i < (lendR (Avl.lendA M d) es).length, (lendR (Avl.lendA M d) es)[i].length = es[i].length ∧
        ∀ j (hj : j < es[i].length) (hj' : j < (lendR (Avl.lendA M d) es)[i].length) (v : Value), RV G F M w v es[i][j] → Imm (Avl.lend G F M) w v (lendR (Avl.lendA M d) es)[i][j] := fun es hc i hi => by
      refine ⟨by rw [lendR_len]; exact hi, ?_⟩
      by_cases hn : es.all AV.norefs = true
      · simp only [lendR, if_pos hn]
        exact ⟨trivial, fun j hj _ v hr => (hr.imm_of (all_norefs hn i j hi hj)).lend⟩
      · simp only [lendR, if_neg hn, List.getElem_map, List.length_map]
        have hn' : es.all AV.norefs = false := by simpa using hn
        rw [hn', Bool.false_or, List.all_eq_true] at hc
        have hci := hc _ (List.getElem_mem hi)
        rw [List.all_eq_true] at hci
        exact ⟨trivial, fun j hj _ v hr => RV.lendA hm d hr (hci _ (List.getElem_mem hj))⟩
    cases y with
    | tl i n b =>
      simp only [lendK] at hk
      cases hM : mlook M i with
      | none => rw [hM] at hk; cases hk
      | some ob =>
        rw [hM] at hk
        cases ob with
        | arr esz es fz =>
          simp only [Bool.and_eq_true, decide_eq_true_eq] at hk
          obtain ⟨hnl, hc⟩ := hk
          simp only [Avl.lendA, hM]
          have hrows := rows es hc
          obtain ⟨_, hh⟩ := h.inv_tl
          obtain ⟨hG, hb⟩ := (hh _ _ _ hM).2 hnl
          rcases (hm.obj i _ hM).2 with ⟨h0, base, h1, hsp⟩ | ⟨b', c, cc, e, h1, h2, h3, h4, h5, h6, h7, h8, h9⟩
          · rw [hG] at h1; cases h1
            subst h0
            have : lendR (Avl.lendA M d) [] = [] := rfl
            rw [this]
            cases base with
            | none => simp [isNilSlice] at hb; subst hb; exact .nil _ (.inl rfl)
            | some a => simp [isNilSlice] at hb; subst hb; exact .sz a .unk (.inl rfl)
          · have hG1 := hG
            rw [hG] at h1; cases h1
            simp [isNilSlice] at hb; subst hb
            have hown : Owned G M b' := ⟨i, _, _, hM, hG1, by simp [blkOf, h2]⟩
            have hlen := lendR_len (Avl.lendA M d) es
            have := Imm.sl (F := Avl.lend G F M) (w := w) b' 0 c esz (lendR (Avl.lendA M d) es) .unk (fun i j => (cc[i * esz + j]?).getD undef) (by rw [hlen]; exact h4) (.inl rfl)
              (fun k hk => by rw [hlen] at hk; obtain ⟨_, q1, _⟩ := hrows k hk; rw [q1]; exact h6 k hk)
              (fun k j hk hj => by
                rw [hlen] at hk
                refine ⟨.inr hown, ?_⟩
                rw [cell?_block h3, Nat.zero_add]
                obtain ⟨v, hv, h1c, _⟩ := h7 k j hk (by rw [h6 k hk]; exact hj)
                rw [hv]; exact ⟨rfl, h1c⟩)
              (fun k j hk hj => by
                have hk' := hk
                rw [hlen] at hk'
                obtain ⟨_, q1, q2⟩ := hrows k hk'
                obtain ⟨v, hv, _, hr⟩ := h7 k j hk' (by rw [← q1]; exact hj)
                rw [hv]; exact q2 j (by rw [← q1]; exact hj) hj v hr)
            rw [hlen] at this
            exact this
        | _ => cases hk
    | tv i n off len cap =>
      simp only [lendK] at hk
      cases hM : mlook M i with
      | none => rw [hM] at hk; cases hk
      | some ob =>
        rw [hM] at hk
        cases ob with
        | arr esz es fz =>
          simp only [Bool.and_eq_true, decide_eq_true_eq] at hk
          obtain ⟨hnl, hc⟩ := hk
          simp only [Avl.lendA, hM]
          have hrows := rows es hc
          obtain ⟨_, hh⟩ := h.inv_tv
          obtain ⟨hol, b', c, hG, hc0, c', rfl, hlc, hcp⟩ := (hh _ _ _ hM).2 hnl
          rcases hc0 with hc0 | ⟨hc0, hc2, hc1⟩
          rotate_left
          · subst hc2
            simp only [Value.slice.injEq] at hc1
            obtain ⟨_, rfl, rfl⟩ := hc1
            have : es = [] := List.length_eq_zero_iff.1 (by omega)
            subst this
            have e1 : tvEs (lendR (Avl.lendA M d) ([] : List (List AV))) n off 0 = [] := by unfold tvEs lendR; split <;> simp
            rw [e1]
            exact .sz _ _ (by simp [tvCap])
          rcases (hm.obj i _ hM).2 with ⟨h0, base, h1, hsp⟩ | ⟨b2, c2, cc, e, h1, h2, h3, h4, h5, h6, h7, h8, h9⟩
          · rw [hG] at h1; cases h1; exact absurd rfl hc0
          · have hown : Owned G M b' := ⟨i, _, _, hM, hG, by simp [blkOf, hc0]⟩
            rw [hG] at h1; cases h1
            have hnl' : es.length = (lendR (Avl.lendA M d) es).length := (lendR_len _ _).symm
            have hlen := tvEs_len hol hnl'
            have hget := tvEs_get hol hnl'
            have := Imm.sl (F := Avl.lend G F M) (w := w) b' (off * esz) c' esz (tvEs (lendR (Avl.lendA M d) es) es.length off len) (tvCap len cap) (fun i j => (cc[(off + i) * esz + j]?).getD undef) (by rw [hlen]; exact hlc)
              (by
                rcases hcp with rfl | rfl | ⟨rfl, _⟩
                · exact .inl rfl
                · simp only [tvCap]
                  by_cases e : c' = len
                  · rw [if_pos e, hlen]; exact .inr (.inr (.inl ⟨rfl, e⟩))
                  · rw [if_neg e]; exact .inl rfl
                · exact .inl rfl)
              (fun k hk => by
                rw [hget k hk]
                rw [hlen] at hk
                obtain ⟨_, q1, _⟩ := hrows (off + k) (by omega)
                rw [q1]; exact h6 _ _)
              (fun k j hk hj => by
                rw [hlen] at hk
                have hk2 : off + k < es.length := by omega
                rw [show off * esz + k * esz + j = (off + k) * esz + j by rw [Nat.add_mul]]
                refine ⟨.inr hown, ?_⟩
                rw [cell?_block h3]
                obtain ⟨v, hv, h1c, _⟩ := h7 (off + k) j hk2 (by rw [h6 _ hk2]; exact hj)
                rw [hv]; exact ⟨rfl, h1c⟩)
              (fun k j hk hj => by
                have hk' := hk
                rw [hlen] at hk'
                have hk2 : off + k < es.length := by omega
                simp only [hget k hk] at hj ⊢
                obtain ⟨_, q1, q2⟩ := hrows (off + k) hk2
                obtain ⟨v, hv, _, hr⟩ := h7 (off + k) j hk2 (by rw [← q1]; exact hj)
                rw [hv]; exact q2 j (by rw [← q1]; exact hj) hj v hr)
            rw [hlen] at this
            exact this
        | _ => cases hk
    | rf i off =>
      simp only [lendK] at hk
      cases hM : mlook M i with
      | none => rw [hM] at hk; cases hk
      | some ob =>
        rw [hM] at hk
        cases ob with
        | cells cs =>
          simp only [Avl.lendA, hM]
          obtain ⟨b, hG, rfl⟩ := h.inv_rf
          obtain ⟨b', cc, e, h1, h2, h3, h4, h5⟩ := (hm.obj i _ hM).2
          have hown : Owned G M b' := ⟨i, _, _, hM, h1, rfl⟩
          rw [hG] at h1; cases h1
          obtain ⟨q1, q2⟩ := cells cc.toList cs (by simpa using h3) (fun i h1 h2 => by simpa using h4 i (by simpa using h1) h2) hk
          refine .ia b off _ (fun j => (cc[off + j]?).getD undef) (fun j hj => ?_) (fun j hj => ?_)
          · simp only [List.length_drop, ← q1, Array.length_toList] at hj
            refine ⟨.inr hown, ?_⟩
            rw [cell?_block h2, Array.getElem?_eq_getElem (by omega)]; rfl
          · have hj' := hj
            simp only [List.length_drop, ← q1, Array.length_toList] at hj'
            have := q2 (off + j) (by simp; omega) (by rw [← q1]; simp; omega)
            simp only [List.getElem_drop]
            rw [Array.getElem?_eq_getElem (by omega)]
            simpa using this
        | _ => cases hk
    | fn f cs =>
      obtain ⟨vs, rfl, hl, hcs⟩ := h.inv_fn
      obtain ⟨q1, q2⟩ := cells vs cs hl hcs hk
      exact .fn f vs _ q1 q2
    | ag cs =>
      obtain ⟨vs, rfl, hl, hcs⟩ := h.inv_ag
      obtain ⟨q1, q2⟩ := cells vs cs hl hcs hk
      exact .ag vs _ q1 q2
    | _ => exact (h.imm_of hk).lend

/-- A contract whose result is a plain cell. -/
theorem PureIs.frSc {f : FuncId} {args : List AV} {v : Value} (h : PureIs P f args (.sc v)) : PureFr P f args (.sc v) :=
  ⟨h.1, fun F w vals hF hi => (h.2 F w vals hF hi).mono fun _ w' ⟨u, F', he, hv, g⟩ => by
    have hu : u = v := by cases hv; rfl
    subst hu
    exact ⟨u, fun b o => F' b o ∧ w.heap.size ≤ b, he, .sc _, fun b o h => ⟨h.2, g.inF b o h.1⟩,
      ⟨g.size, g.old, fun b o h => .inl h, fun b o h => h.elim .inl fun h => .inr h.2, fun b o h => h.elim (fun h => Nat.lt_of_lt_of_le (hF.1 b o h) g.size) fun h => g.inF b o h.1, g.kept⟩⟩⟩

def argsD (fr : Fr) (st : St) (d : Nat) (args : Array Operand) : List AV := args.toList.map fun x => lendA st.mem d (od fr st true x)
def argsK (fr : Fr) (st : St) (d : Nat) (args : Array Operand) : Bool := args.toList.all fun x => lendK st.mem d (od fr st true x)
def argsI (fr : Fr) (st : St) (d : Nat) : List Operand → List Nat
  | [] => []
  | x :: xs => odds (lendI st.mem d (od fr st true x)) ++ argsI fr st d xs
def rdL (fr : Fr) (st : St) (d : Nat) (gs : List Nat) (o : Oper) (args : Array Operand) : List Nat := gs ++ (opSlots o.op.operands.toList ++ argsI fr st d args.toList)
theorem argsI_mem {d : Nat} {x : Operand} {i : Nat} : ∀ {xs : List Operand}, x ∈ xs → i ∈ lendI st.mem d (od fr st true x) → 2 * i + 1 ∈ argsI fr st d xs
  | y :: xs, h, hi => by
    simp only [argsI, List.mem_append]
    rcases List.mem_cons.1 h with rfl | h
    · exact .inl (odds_mem hi)
    · exact .inr (argsI_mem h hi)

theorem SimD.callD {f : FuncId} {callee : Operand} {args : Array Operand} {tys : Array TypeId} {xs : List AV} {r : AV} {d : Nat} {K : Act → World → Prop} {Q1 : Exit → Act → World → Prop}
    (s : SimD P fr ds G F st N a w) (hop : o.op = .call ⟨.value callee, args, tys⟩) (hd : dok fr o.dst = true) (hcal : od fr st true callee = .fn f [])
    (hxs : argsD fr st d args = xs) (hk : argsK fr st d args = true) (hc : PureFr P f xs r)
    (h : ∀ G' F' a' w', SimD P fr ds G' F' (run1 fr o.dst ⟨r, none⟩ st) N a' w' → Step All G F st.mem w G' F' (run1 fr o.dst ⟨r, none⟩ st).mem w' → (∀ j, j ≠ id → G j = none → G' j = none) → K a' w') : o.wpIn (fc ro) 0 P a w K Q1 := by
  refine ⟨fun _ _ => trivial, ?_⟩
  rw [Oper.semAt_eq _ _ _ (by rw [hop]; intro c h; cases h)]
  have hv := (s.eval callee).unopt
  have hv : RV G F st.mem w (a.eval callee) (.fn f []) := by unfold od at hcal; rwa [hcal] at hv
  obtain ⟨vs, hev, hl, _⟩ := hv.inv_fn
  have hvs : vs = [] := by cases vs with
    | nil => rfl
    | cons a l => simp at hl
  subst hvs
  have hrun : (execOp a.eval o).run P w = .ok (.enter f ((args.toList.map a.eval).toArray)) w := by
    obtain ⟨dst, op, ty, pos, after, guard⟩ := o
    simp only at hop
    subst hop
    simp only [execOp, resolve, hev, Deferred.ofValue, Sem.run_bind, Sem.run_pure, Result.andThen_ok, invoke]
    rw [hc.1]
    congr 2
    apply Array.ext'
    simp
  rw [hrun]
  have hi : Imms (Avl.lend G F st.mem) w (args.toList.map a.eval) xs := by
    subst hxs
    refine ⟨by simp [argsD], fun i h1 h2 => ?_⟩
    simp only [argsD, List.getElem_map] at h2 ⊢
    unfold argsK at hk
    rw [List.all_eq_true] at hk
    exact RV.lendA s.mem d (s.eval _).unopt (hk _ (List.getElem_mem _))
  have hin : ∀ b o, Avl.lend G F st.mem b o → b < w.heap.size := fun b o h => h.elim (s.mem.inF b o) fun h => s.mem.lt h
  refine ⟨fun h => by simp [fc, Fence.wide] at h, callsIn_fc ((hc.2 _ w _ ⟨hin, s.mem.gl.mono (fun _ _ h => .inl h) fun _ _ _ => rfl⟩ hi).mono ?_)⟩
  rintro e w' ⟨v, Fr, rfl, hv, hFr, g⟩
  have g' := s.mem.frGrown g hFr
  obtain ⟨hm', S'⟩ := simM_grown s.mem g'
  obtain ⟨s1, S1⟩ := s.put (d := o.dst) (r := ⟨r, none⟩) (u := v) hm' (fun _ => rfl) S' hd (.imm (hv.mono (fun _ _ h => .inr h) fun _ _ _ => rfl))
  exact h G _ _ w' s1 S1 (fun _ _ h => h)

/-- A call that lends objects, to the depth d. -/
theorem OpIs.callD {f : FuncId} {callee : Operand} {args : Array Operand} {tys : Array TypeId} {xs : List AV} {v : AV} (d : Nat) (hg : o.guard = none) (hop : o.op = .call ⟨.value callee, args, tys⟩) (hd : dok fr o.dst = true)
    (hcal : od fr st true callee = .fn f []) (hxs : argsD fr st d args = xs) (hk : argsK fr st d args = true) (hrd : rdL fr st d [] o args = rd) (hc : PureFr P f xs v) : OpIs P fr ro ds ops id st ⟨o, ⟨v, none⟩, rd⟩ := by
  intro st' G F a w N K Q1 s hN hG hl h
  simp only [Region.wanted, hg, if_true]
  have hslot : ∀ x ∈ o.op.operands.toList, opnd fr st' x = opnd fr st x := fun x hx => by
    cases x with
    | tmp t => exact look_slot (hl _ (by simp only; rw [← hrd]; unfold rdL; exact List.mem_append_right _ (List.mem_append_left _ (opSlots_mem hx))))
    | _ => rfl
  rw [hop] at hslot
  have hodc : od fr st' true callee = od fr st true callee := by unfold od; rw [hslot callee (by simp [Op.operands, Call.operands])]
  have hoda : ∀ x ∈ args.toList, od fr st' true x = od fr st true x := fun x hx => by
    unfold od; rw [hslot x (by simp only [Op.operands, Call.operands]; simp; exact .inr (by simpa using hx))]
  have hcg : ∀ x ∈ args.toList, lendA st'.mem d (od fr st' true x) = lendA st.mem d (od fr st true x) ∧ lendK st'.mem d (od fr st' true x) = lendK st.mem d (od fr st true x) := fun x hx => by
    rw [hoda x hx]
    exact lend_congr d _ fun i hi => look_obj (hl _ (by simp only; rw [← hrd]; unfold rdL; exact List.mem_append_right _ (List.mem_append_right _ (argsI_mem hx hi))))
  refine s.callD (d := d) hop hd (by rw [hodc]; exact hcal) ?_ ?_ hc h
  · rw [← hxs]; unfold argsD; exact List.map_congr_left fun x hx => (hcg x hx).1
  · rw [← hk]; unfold argsK
    rw [Bool.eq_iff_iff, List.all_eq_true, List.all_eq_true]
    exact ⟨fun h x hx => by rw [← (hcg x hx).2]; exact h x hx, fun h x hx => by rw [(hcg x hx).2]; exact h x hx⟩
end
attribute [go_sem] lendC lendR lendA lendK lendIs lendIss lendI argsD argsK argsI rdL
end Go.Avl
namespace Go.Avl
open Go

def St.thaw (i : Nat) (st : St) : Option St :=
  match mlook st.mem i with
  | some (.arr esz [] _) => some ⟨st.vars, st.tmps, mset st.mem i (.arr esz [] false), st.nx⟩
  | _ => none

/-- Row k of object j, with what it points at read by its contents where that is frozen. -/
def St.snapE (j k : Nat) (st : St) : Option St :=
  match mlook st.mem j with
  | some (.arr esz es false) => match es[k]? with
    | some c => some ⟨st.vars, st.tmps, mset st.mem j (.arr esz (es.set k (c.map (AV.deep (snap st.mem)))) false), st.nx⟩
    | none => none
  | _ => none

section
variable {P : Program} {fr : Fr} {ro : Option Nat} {ds : DS} {st st' : St} {Q Q' : Exit → St → Prop} {G G' : Nat → Option Value} {F F' : Nat → Nat → Prop} {a : Act} {w w' : World} {x y c : Code} {M : Mem}

theorem simM_thaw {nx i esz : Nat} {fz : Bool} (hm : SimM P G F M nx w) (ho : mlook M i = some (.arr esz [] fz)) :
    SimM P G F (mset M i (.arr esz [] false)) nx w ∧ Step All G F M w G F (mset M i (.arr esz [] false)) w := by
  have hold := (hm.obj i _ ho).2
  have S : Step All G F M w G F (mset M i (.arr esz [] false)) w :=
    { kept := .refl
      size := Nat.le_refl _
      out := fun _ _ _ => rfl
      F1 := fun _ _ h => h
      F2 := fun _ _ _ => rfl
      F3 := fun b o h => .inl h
      own := fun b ⟨id, o, v, h3, h4, h5⟩ => by
        rw [mlook_mset] at h3
        by_cases hi : id = i
        · subst hi; exact .inr ⟨id, _, v, ho, h4, h5⟩
        · rw [if_neg hi] at h3; exact .inr ⟨id, o, v, h3, h4, h5⟩
      some' := fun _ _ h => h
      same := fun _ _ _ h _ => h
      keep := fun id o' _ hG h3 => by
        obtain ⟨v, hv⟩ := Option.ne_none_iff_exists'.1 hG
        rw [mlook_mset] at h3
        by_cases hi : id = i
        · subst hi
          rw [if_pos rfl] at h3; cases h3
          exact ⟨_, v, v, ho, hv, hv, ⟨rfl, .inl ⟨rfl, rfl⟩⟩⟩
        · rw [if_neg hi] at h3
          exact ⟨o', v, v, h3, hv, hv, objKeep.refl v o'⟩ }
  have hinj : ∀ id id' v v' b, mlook (mset M i (.arr esz [] false)) id ≠ none → mlook (mset M i (.arr esz [] false)) id' ≠ none → G id = some v → G id' = some v' → blkOf v = some b → blkOf v' = some b → id = id' := by
    intro id id' v v' b h1 h2
    refine hm.inj id id' v v' b ?_ ?_
    · rw [mlook_mset] at h1; by_cases hi : id = i
      · subst hi; rw [ho]; simp
      · rwa [if_neg hi] at h1
    · rw [mlook_mset] at h2; by_cases hi : id' = i
      · subst hi; rw [ho]; simp
      · rwa [if_neg hi] at h2
  refine ⟨simM_gen hm S (fun id o' h => ?_) hinj hm.inF, S⟩
  rw [mlook_mset] at h
  by_cases hi : id = i
  · subst hi; rw [if_pos rfl] at h; cases h
    refine ⟨(hm.obj id _ ho).1, .inl ?_⟩
    rcases hold with h | ⟨b, c, cc, e, h1, h2, h3, h4, h5, h6, h7, h8, h9⟩
    · exact .inl h
    · exact .inr ⟨b, c, cc, e, h1, h2, h3, h4, h5, h6, fun k j hk => absurd hk (Nat.not_lt_zero _), fun o h => absurd (h8 o h).2 (by simp), fun h => (by cases h)⟩
  · rw [if_neg hi] at h
    exact ⟨(hm.obj id _ h).1, .inr ⟨h, rfl, fun b v hG hb => ⟨rfl, fun _ h => h⟩⟩⟩
theorem SimA.thaw {i : Nat} (s : SimA P fr ds G F st a w) (h : st.thaw i = some st') : SimA P fr ds G F st' a w ∧ Step (· < fr.base) G F st.mem w G F st'.mem w := by
  unfold St.thaw at h
  split at h
  · rename_i esz fz ho
    cases h
    obtain ⟨hm', S'⟩ := simM_thaw s.sim.mem ho
    exact ⟨⟨⟨hm', fun k => (s.sim.slots k).step S' (fun _ _ => trivial), s.sim.size⟩, s.fresh, s.defers⟩, S'.mono fun _ _ => trivial⟩
  · cases h
theorem EvC.thaw (i : Nat) (h : st.thaw i = some st') (hc : EvC P fr ro ds c st' Q) : EvC P fr ro ds c st Q :=
  EvC.conv (fun _ _ _ _ s => let ⟨s', S'⟩ := s.thaw h; ⟨_, _, s', S'⟩) hc
theorem simM_snapE {nx j esz k : Nat} {es : List (List AV)} {c0 : List AV} (hm : SimM P G F M nx w) (ho : mlook M j = some (.arr esz es false)) (hk : es[k]? = some c0) :
    SimM P G F (mset M j (.arr esz (es.set k (c0.map (AV.deep (snap M)))) false)) nx w ∧ Step All G F M w G F (mset M j (.arr esz (es.set k (c0.map (AV.deep (snap M)))) false)) w := by
  obtain ⟨es', hes⟩ : ∃ es', es' = es.set k (c0.map (AV.deep (snap M))) := ⟨_, rfl⟩
  rw [← hes]
  have hle : es'.length = es.length := by rw [hes, List.length_set]
  have hold := (hm.obj j _ ho).2
  have S : Step All G F M w G F (mset M j (.arr esz es' false)) w :=
    { kept := .refl
      size := Nat.le_refl _
      out := fun _ _ _ => rfl
      F1 := fun _ _ h => h
      F2 := fun _ _ _ => rfl
      F3 := fun b o h => .inl h
      own := fun b ⟨id, o, v, h3, h4, h5⟩ => by
        rw [mlook_mset] at h3
        by_cases hi : id = j
        · subst hi; exact .inr ⟨id, _, v, ho, h4, h5⟩
        · rw [if_neg hi] at h3; exact .inr ⟨id, o, v, h3, h4, h5⟩
      some' := fun _ _ h => h
      same := fun _ _ _ h _ => h
      keep := fun id o' _ hG h3 => by
        obtain ⟨v, hv⟩ := Option.ne_none_iff_exists'.1 hG
        rw [mlook_mset] at h3
        by_cases hi : id = j
        · subst hi
          rw [if_pos rfl] at h3; cases h3
          exact ⟨_, v, v, ho, hv, hv, ⟨rfl, .inl ⟨hle, rfl⟩⟩⟩
        · rw [if_neg hi] at h3
          exact ⟨o', v, v, h3, hv, hv, objKeep.refl v o'⟩ }
  have hinj : ∀ id id' v v' b, mlook (mset M j (.arr esz es' false)) id ≠ none → mlook (mset M j (.arr esz es' false)) id' ≠ none → G id = some v → G id' = some v' → blkOf v = some b → blkOf v' = some b → id = id' := by
    intro id id' v v' b h1 h2
    refine hm.inj id id' v v' b ?_ ?_
    · rw [mlook_mset] at h1; by_cases hi : id = j
      · subst hi; rw [ho]; simp
      · rwa [if_neg hi] at h1
    · rw [mlook_mset] at h2; by_cases hi : id' = j
      · subst hi; rw [ho]; simp
      · rwa [if_neg hi] at h2
  refine ⟨simM_gen hm S (fun id o' h => ?_) hinj hm.inF, S⟩
  rw [mlook_mset] at h
  by_cases hi : id = j
  · subst hi; rw [if_pos rfl] at h; cases h
    refine ⟨(hm.obj id _ ho).1, .inl ?_⟩
    have hkl : k < es.length := (List.getElem?_eq_some_iff.1 hk).1
    have hke : es[k] = c0 := by rw [List.getElem?_eq_getElem hkl] at hk; exact Option.some.inj hk
    rcases hold with ⟨h0, _⟩ | ⟨b, c, cc, e, h1, h2, h3, h4, h5, h6, h7, h8, h9⟩
    · rw [h0] at hkl; exact absurd hkl (Nat.not_lt_zero _)
    · refine .inr ⟨b, c, cc, e, by rw [hle]; exact h1, h2, h3, by rw [hle]; exact h4, h5, fun i hi' => ?_, fun i l hi' hl' => ?_, fun o h => absurd (h8 o h).1 (by simp), fun h => (by cases h)⟩
      · have hi2 : i < es.length := by rw [← hle]; exact hi'
        simp only [hes, List.getElem_set]
        split
        · rename_i e1; subst e1; rw [List.length_map, ← hke]; exact h6 _ hi2
        · exact h6 _ hi2
      · have hi2 : i < es.length := by rw [← hle]; exact hi'
        by_cases e1 : k = i
        · subst e1
          have e2 : es'[k] = es[k].map (AV.deep (snap M)) := by simp [hes, hke]
          have hl2 : l < es[k].length := by rw [e2, List.length_map] at hl'; exact hl'
          obtain ⟨v, k1, k2, k3⟩ := h7 k l hi2 hl2
          refine ⟨v, k1, k2, ?_⟩
          have e3 : es'[k][l] = AV.deep (snap M) es[k][l] := by simp [e2]
          rw [e3]
          exact (k3.deep fun v y h => h.snap hm).step S fun _ _ => trivial
        · have e2 : es'[i] = es[i] := by simp [hes, e1]
          have hl2 : l < es[i].length := by rw [e2] at hl'; exact hl'
          obtain ⟨v, k1, k2, k3⟩ := h7 i l hi2 hl2
          have e3 : es'[i][l] = es[i][l] := by simp [e2]
          exact ⟨v, k1, k2, by rw [e3]; exact k3.step S fun _ _ => trivial⟩
  · rw [if_neg hi] at h
    exact ⟨(hm.obj id _ h).1, .inr ⟨h, rfl, fun b v hG hb => ⟨rfl, fun _ h => h⟩⟩⟩
theorem SimA.snapE {j k : Nat} (s : SimA P fr ds G F st a w) (h : st.snapE j k = some st') : SimA P fr ds G F st' a w ∧ Step (· < fr.base) G F st.mem w G F st'.mem w := by
  unfold St.snapE at h
  split at h
  · rename_i esz es ho
    split at h
    · rename_i c0 hk
      cases h
      obtain ⟨hm', S'⟩ := simM_snapE s.sim.mem ho hk
      exact ⟨⟨⟨hm', fun k => (s.sim.slots k).step S' (fun _ _ => trivial), s.sim.size⟩, s.fresh, s.defers⟩, S'.mono fun _ _ => trivial⟩
    · cases h
  · cases h
theorem EvC.snapE (j k : Nat) (h : st.snapE j k = some st') (hc : EvC P fr ro ds c st' Q) : EvC P fr ro ds c st Q :=
  EvC.conv (fun _ _ _ _ s => let ⟨s', S'⟩ := s.snapE h; ⟨_, _, s', S'⟩) hc
end
attribute [go_sem] St.snapE
attribute [go_sem] St.thaw
end Go.Avl
namespace Go.Avl
open Go

def msegA : Nat → List RObj → Mem
  | _, [] => []
  | b, o :: r => (b, o) :: msegA (b + 1) r
def mseg (l : List RObj) : Mem := msegA 0 l
theorem mlook_msegA : ∀ (l : List RObj) (b i : Nat), mlook (msegA b l) i = if b ≤ i then l[i - b]? else none
  | [], b, i => by simp [msegA, mlook]
  | o :: r, b, i => by
    simp only [msegA, mlook]
    by_cases h : i = b
    · subst h; simp
    · rw [if_neg h, mlook_msegA r (b + 1) i]
      by_cases h2 : b ≤ i
      · rw [if_pos (by omega), if_pos h2, show i - b = (i - (b + 1)) + 1 by omega]; rfl
      · rw [if_neg (by omega), if_neg h2]
theorem mlook_mseg (l : List RObj) (i : Nat) : mlook (mseg l) i = l[i]? := by rw [mseg, mlook_msegA, if_pos (Nat.zero_le _), Nat.sub_zero]
theorem mset_msegA : ∀ (l : List RObj) (b i : Nat) (o : RObj), b ≤ i → i < b + l.length → mset (msegA b l) i o = msegA b (l.set (i - b) o)
  | [], b, i, o, h1, h2 => by simp at h2; omega
  | x :: r, b, i, o, h1, h2 => by
    simp only [msegA, mset]
    by_cases h : i = b
    · subst h; simp [msegA]
    · rw [if_neg h, mset_msegA r (b + 1) i o (by omega) (by simp at h2; omega), show i - b = (i - (b + 1)) + 1 by omega]; rfl
theorem mset_mseg {l : List RObj} {i : Nat} (o : RObj) (h : i < l.length) : mset (mseg l) i o = mseg (l.set i o) := by
  rw [mseg, mset_msegA l 0 i o (Nat.zero_le _) (by omega)]; rfl
theorem msegA_append : ∀ (l r : List RObj) (b : Nat), msegA b (l ++ r) = msegA b l ++ msegA (b + l.length) r
  | [], r, b => by simp [msegA]
  | x :: l, r, b => by simp only [List.cons_append, msegA, msegA_append l r (b + 1), List.length_cons]; rw [show b + 1 + l.length = b + (l.length + 1) by omega]
theorem mseg_snoc (l : List RObj) (o : RObj) {n : Nat} (h : l.length = n) : mseg l ++ [(n, o)] = mseg (l ++ [o]) := by
  subst h; rw [mseg, mseg, msegA_append]; simp [msegA]

/-- A number below n is none of the great ones. -/
theorem lo_ne {s : Nat} (h : s < 1000000) (k : Nat) (hk : 1000000 ≤ k) : (s = k) = False := eq_false (by omega)
theorem lo_ne' {s : Nat} (h : s < 1000000) (k : Nat) (hk : 1000000 ≤ k) : (k = s) = False := eq_false (by omega)

def idK (n : Nat) : List (Nat × Nat) := (List.range n).map fun i => (i, i)
def segK (A : List (Nat × Nat)) (n : Nat) (B : List (Nat × Nat)) : List (Nat × Nat) := A ++ (idK n ++ B)

theorem rlook_append (A B : List (Nat × Nat)) (k : Nat) : rlook (A ++ B) k = (rlook A k).or (rlook B k) := by
  induction A with
  | nil => simp [rlook]
  | cons p A ih =>
    obtain ⟨i, j⟩ := p
    simp only [List.cons_append, rlook]
    split
    · rfl
    · exact ih
theorem blook_append (A B : List (Nat × Nat)) (k : Nat) : blook (A ++ B) k = (blook A k).or (blook B k) := by
  induction A with
  | nil => simp [blook]
  | cons p A ih =>
    obtain ⟨i, j⟩ := p
    simp only [List.cons_append, blook]
    split
    · rfl
    · exact ih
theorem idK_succ (n : Nat) : idK (n + 1) = idK n ++ [(n, n)] := by simp [idK, List.range_succ]
theorem rlook_idK (n k : Nat) : rlook (idK n) k = if k < n then some k else none := by
  induction n with
  | zero => simp [idK, rlook]
  | succ n ih =>
    rw [idK_succ, rlook_append, ih]
    by_cases h : k < n
    · rw [if_pos h, if_pos (by omega)]; rfl
    · rw [if_neg h]
      by_cases h2 : k = n
      · subst h2; simp [rlook]
      · rw [if_neg (by omega)]; simp [rlook, h2]
theorem blook_idK (n k : Nat) : blook (idK n) k = if k < n then some k else none := by
  induction n with
  | zero => simp [idK, blook]
  | succ n ih =>
    rw [idK_succ, blook_append, ih]
    by_cases h : k < n
    · rw [if_pos h, if_pos (by omega)]; rfl
    · rw [if_neg h]
      by_cases h2 : k = n
      · subst h2; simp [blook]
      · rw [if_neg (by omega)]; simp [blook, h2]
theorem rlook_segK_hi {n : Nat} (hn : n ≤ 1000000) (A B : List (Nat × Nat)) (k : Nat) (hk : 1000000 ≤ k) : rlook (segK A n B) k = rlook (A ++ B) k := by
  rw [segK, rlook_append, rlook_append, rlook_append, rlook_idK, if_neg (by omega)]; simp
theorem rlook_hi : ∀ {A : List (Nat × Nat)} {s : Nat}, s < 1000000 → (A.all fun p => decide (1000000 ≤ p.1)) = true → rlook A s = none
  | [], _, _, _ => rfl
  | (i, j) :: A, s, hs, h => by
    simp only [List.all_cons, Bool.and_eq_true, decide_eq_true_eq] at h
    simp only [rlook]
    rw [if_neg (by omega)]
    exact rlook_hi hs h.2
theorem blook_hi : ∀ {A : List (Nat × Nat)} {s : Nat}, s < 1000000 → (A.all fun p => decide (1000000 ≤ p.2)) = true → blook A s = none
  | [], _, _, _ => rfl
  | (i, j) :: A, s, hs, h => by
    simp only [List.all_cons, Bool.and_eq_true, decide_eq_true_eq] at h
    simp only [blook]
    rw [if_neg (by omega)]
    exact blook_hi hs h.2
theorem rlook_segK_lo {n s : Nat} (hs : s < n) (hn : n ≤ 1000000) {A B : List (Nat × Nat)} (hA : (A.all fun p => decide (1000000 ≤ p.1)) = true) : rlook (segK A n B) s = some s := by
  rw [segK, rlook_append, rlook_append, rlook_idK, if_pos hs, rlook_hi (by omega) hA]; rfl

theorem renMem_append (M : Mem) (K : List (Nat × Nat)) : ∀ (A B : List (Nat × Nat)), renMem M K (A ++ B) = renMem M K A ++ renMem M K B
  | [], B => rfl
  | (i, j) :: A, B => by
    simp only [List.cons_append, renMem, renMem_append M K A B]
    split <;> simp
theorem renMem_segK (M : Mem) (A B : List (Nat × Nat)) (n : Nat) : renMem M (segK A n B) (segK A n B) = renMem M (segK A n B) A ++ (renMem M (segK A n B) (idK n) ++ renMem M (segK A n B) B) := by
  conv => lhs; arg 3; rw [segK]
  rw [renMem_append, renMem_append]
theorem renMem_congr {M M' : Mem} (K : List (Nat × Nat)) : ∀ {K' : List (Nat × Nat)}, (∀ p ∈ K', mlook M p.1 = mlook M' p.1) → renMem M K K' = renMem M' K K'
  | [], _ => rfl
  | (i, j) :: K', h => by
    simp only [renMem]
    rw [h (i, j) List.mem_cons_self, renMem_congr K fun p hp => h p (List.mem_cons_of_mem _ hp)]
theorem mset_mset_same (M : Mem) (i : Nat) (o o' : RObj) : mset (mset M i o) i o' = mset M i o' := by
  induction M with
  | nil => simp [mset]
  | cons p M ih =>
    obtain ⟨k, u⟩ := p
    simp only [mset]
    split
    · rename_i h; subst h; simp [mset]
    · rename_i h; simp only [mset, if_neg h, ih]
theorem mset_comm {i j : Nat} {o o' : RObj} : ∀ {M : Mem}, (mlook M j).isSome = true → j ≠ i → mset (mset M i o) j o' = mset (mset M j o') i o
  | [], h, _ => by simp [mlook] at h
  | (k, u) :: M, h, hne => by
    by_cases h1 : i = k
    · subst h1; simp only [mset, if_true, if_neg hne]
    · by_cases h2 : j = k
      · subst h2; simp only [mset, if_neg h1, if_true]
      · simp only [mset, if_neg h1, if_neg h2]
        simp only [mlook, if_neg h2] at h
        rw [mset_comm h hne]
theorem mset_seg_hi {l : List RObj} {s k : Nat} (hs : s < l.length) (hn : l.length ≤ 1000000) (hk : 1000000 ≤ k) (o o' : RObj) : mset (mset (mseg l) k o) s o' = mset (mseg (l.set s o')) k o := by
  rw [mset_comm (by rw [mlook_mseg, List.getElem?_eq_getElem hs]; rfl) (by omega), mset_mseg _ hs]
theorem mem_idK {n : Nat} {p : Nat × Nat} (h : p ∈ idK n) : p.1 < n ∧ p.2 = p.1 := by
  obtain ⟨i, h1, rfl⟩ := List.mem_map.1 h
  exact ⟨List.mem_range.1 h1, rfl⟩
theorem renMem_idK_cons {n : Nat} (hn : n ≤ 1000000) (k : Nat) (hk : 1000000 ≤ k) (o : RObj) (M : Mem) (K : List (Nat × Nat)) : renMem ((k, o) :: M) K (idK n) = renMem M K (idK n) :=
  renMem_congr K fun p hp => by have := (mem_idK hp).1; simp only [mlook]; rw [if_neg (by omega)]
theorem renMem_idK_mset {n : Nat} (hn : n ≤ 1000000) (k : Nat) (hk : 1000000 ≤ k) (o : RObj) (M : Mem) (K : List (Nat × Nat)) : renMem (mset M k o) K (idK n) = renMem M K (idK n) :=
  renMem_congr K fun p hp => by have := (mem_idK hp).1; rw [mlook_mset, if_neg (by omega)]
theorem renMem_idK (K : List (Nat × Nat)) (l : List RObj) : ∀ n, n ≤ l.length → renMem (mseg l) K (idK n) = mseg ((l.take n).map (RObj.ren K))
  | 0, _ => rfl
  | n + 1, h => by
    rw [idK_succ, renMem_append, renMem_idK K l n (by omega), List.take_add_one, List.getElem?_eq_getElem (by omega), List.map_append, Option.toList_some, List.map_singleton]
    rw [← mseg_snoc _ _ (n := n) (by simp; omega)]
    congr 1
    simp only [renMem, mlook_mseg]
    rw [List.getElem?_eq_getElem (by omega)]
theorem renMem_seg {n : Nat} {l : List RObj} (K : List (Nat × Nat)) (h : l.length = n) : renMem (mseg l) K (idK n) = mseg (l.map (RObj.ren K)) := by
  subst h; rw [renMem_idK K l _ (Nat.le_refl _), List.take_length]

theorem gcOk_append {base nx : Nat} : ∀ {A B : List (Nat × Nat)}, gcOk base nx A = true → gcOk base nx B = true → (∀ p ∈ A, blook B p.2 = none ∧ rlook B p.1 = none) → gcOk base nx (A ++ B) = true
  | [], B, _, h, _ => h
  | (i, j) :: A, B, h1, h2, h3 => by
    simp only [gcOk, Bool.and_eq_true, beq_iff_eq] at h1
    have h4 := h3 (i, j) List.mem_cons_self
    simp only [List.cons_append, gcOk, Bool.and_eq_true, beq_iff_eq]
    refine ⟨⟨⟨h1.1.1.1, ?_⟩, ?_⟩, gcOk_append h1.2 h2 fun p hp => h3 p (List.mem_cons_of_mem _ hp)⟩
    · rw [blook_append, h1.1.1.2, h4.1]; rfl
    · rw [rlook_append, h1.1.2, h4.2]; rfl
theorem gcOk_idK {base nx : Nat} (hb : base ≤ nx) : ∀ {n : Nat}, n ≤ nx → gcOk base nx (idK n) = true
  | 0, _ => by simp [idK, gcOk, hb]
  | n + 1, h => by
    rw [idK_succ]
    refine gcOk_append (gcOk_idK hb (by omega)) ?_ fun p hp => ?_
    · simp [gcOk, blook, rlook, hb]; omega
    · have := mem_idK hp
      simp only [blook, rlook]
      rw [if_neg (by omega), if_neg (by omega)]; exact ⟨rfl, rfl⟩
/-- A renaming of the great numbers, beside the small ones. -/
theorem segK_ok {base nx n : Nat} {A : List (Nat × Nat)} (hA : gcOk base nx A = true) (h1 : (A.all fun p => decide (1000000 ≤ p.1)) = true) (h2 : (A.all fun p => decide (1000000 ≤ p.2)) = true) (hn : n ≤ 1000000) (hx : 1000000 ≤ nx) : gcOk base nx (segK A n []) = true := by
  have hb := gcOk_base hA
  rw [segK, List.append_nil]
  refine gcOk_append hA (gcOk_idK hb (by omega)) fun p hp => ?_
  rw [List.all_eq_true] at h1 h2
  have a1 := of_decide_eq_true (h1 p hp)
  have a2 := of_decide_eq_true (h2 p hp)
  rw [blook_idK, rlook_idK, if_neg (by omega), if_neg (by omega)]; exact ⟨rfl, rfl⟩
/-- .. and one object more among the small ones. -/
theorem segK_ok1 {nx n k : Nat} {A : List (Nat × Nat)} (hA : gcOk 0 nx ((k, nx - 1) :: A) = true) (h1 : (((k, nx - 1) :: A).all fun p => decide (1000000 ≤ p.1)) = true) (h2 : (A.all fun p => decide (1000000 ≤ p.2)) = true) (hn : n < 1000000) (hx : 1000000 ≤ nx) : gcOk 0 nx (segK A n [(k, n)]) = true := by
  simp only [gcOk, Bool.and_eq_true, beq_iff_eq] at hA
  simp only [List.all_cons, Bool.and_eq_true, decide_eq_true_eq] at h1
  have h0 := segK_ok hA.2 h1.2 h2 (Nat.le_of_lt hn) hx
  have e : segK A n [(k, n)] = segK A n [] ++ [(k, n)] := by simp [segK]
  rw [e]
  refine gcOk_append h0 ?_ fun p hp => ?_
  · simp [gcOk, blook, rlook]; omega
  · have hb : p.2 ≠ n ∧ p.1 ≠ k := by
      rw [segK, List.append_nil] at hp
      rcases List.mem_append.1 hp with hp | hp
      · rw [List.all_eq_true] at h2
        have a2 := of_decide_eq_true (h2 p hp)
        refine ⟨by omega, fun hk => ?_⟩
        have := rlook_ne (show (p.1, p.2) ∈ A from hp)
        rw [hk] at this; exact this hA.1.2
      · have := mem_idK hp
        omega
    simp only [blook, rlook]
    rw [if_neg hb.1, if_neg hb.2]; exact ⟨rfl, rfl⟩

/-! ### Freezing them -/
def RObj.fzn : RObj → RObj
  | .arr esz es _ => .arr esz es true
  | o => o
def fzAll : Nat → Mem → Mem
  | 0, M => M
  | n + 1, M => match mlook (fzAll n M) n with
    | some o => mset (fzAll n M) n o.fzn
    | none => fzAll n M
/-- The cells of an object, read by their contents where these are frozen. -/
def St.snapA (j : Nat) (st : St) : Option St :=
  match mlook st.mem j with
  | some (.arr esz es false) => some ⟨st.vars, st.tmps, mset st.mem j (.arr esz (es.map fun c => c.map (AV.deep (snap st.mem))) false), st.nx⟩
  | _ => none

section
variable {P : Program} {fr : Fr} {ro : Option Nat} {ds : DS} {st st' : St} {Q Q' : Exit → St → Prop} {G G' : Nat → Option Value} {F F' : Nat → Nat → Prop} {a : Act} {w w' : World} {x y c : Code} {M : Mem}

theorem mlook_fzAll (M : Mem) (n i : Nat) : mlook (fzAll n M) i = if i < n then (mlook M i).map RObj.fzn else mlook M i := by
  induction n with
  | zero => simp [fzAll]
  | succ n ih =>
    have e : mlook (fzAll n M) n = mlook M n := by
      have : ∀ k, n ≤ k → mlook (fzAll n M) k = mlook M k := by
        clear ih
        intro k hk
        induction n with
        | zero => rfl
        | succ n ih2 =>
          simp only [fzAll]
          split
          · rw [mlook_mset, if_neg (by omega)]; exact ih2 (by omega)
          · exact ih2 (by omega)
      exact this n (Nat.le_refl _)
    simp only [fzAll]
    rw [e]
    split
    · rename_i o ho
      rw [mlook_mset]
      by_cases h : i = n
      · subst h; rw [if_pos rfl, if_pos (by omega), ho]; rfl
      · rw [if_neg h, ih]
        by_cases h2 : i < n
        · rw [if_pos h2, if_pos (by omega)]
        · rw [if_neg h2, if_neg (by omega)]
    · rename_i ho
      rw [ih]
      by_cases h : i = n
      · subst h; rw [if_neg (by omega), if_pos (by omega), ho]; rfl
      · by_cases h2 : i < n
        · rw [if_pos h2, if_pos (by omega)]
        · rw [if_neg h2, if_neg (by omega)]
theorem fzAll_cons {n : Nat} (hn : n ≤ 1000000) (k : Nat) (hk : 1000000 ≤ k) (o : RObj) (M : Mem) : fzAll n ((k, o) :: M) = (k, o) :: fzAll n M := by
  induction n with
  | zero => rfl
  | succ n ih =>
    have hne : ¬ n = k := by omega
    simp only [fzAll, ih (by omega), mlook, if_neg hne]
    split
    · simp only [mset, if_neg hne]
    · rfl
theorem fzAll_seg' (l : List RObj) : ∀ n, n ≤ l.length → fzAll n (mseg l) = mseg ((l.take n).map RObj.fzn ++ l.drop n)
  | 0, _ => by simp [fzAll]
  | n + 1, h => by
    have hd : l.drop n = l[n] :: l.drop (n + 1) := List.drop_eq_getElem_cons (by omega)
    have hl : ((l.take n).map RObj.fzn).length = n := by simp; omega
    simp only [fzAll]
    rw [fzAll_seg' l n (by omega), mlook_mseg, List.getElem?_append_right (by omega), hl, Nat.sub_self, hd]
    simp only [List.getElem?_cons_zero]
    rw [mset_mseg _ (by simp; omega), List.set_append_right _ _ (by omega), hl, Nat.sub_self, List.set_cons_zero, List.take_add_one, List.getElem?_eq_getElem (by omega), Option.toList_some, List.map_append, List.map_singleton, List.append_assoc]
    rfl
theorem fzAll_seg {n : Nat} {l : List RObj} (h : l.length = n) : fzAll n (mseg l) = mseg (l.map RObj.fzn) := by
  subst h; rw [fzAll_seg' l _ (Nat.le_refl _), List.take_length, List.drop_length, List.append_nil]
theorem SimA.fzAll (n : Nat) (s : SimA P fr ds G F st a w) (h : ∀ i, i < n → ∃ esz es fz, mlook st.mem i = some (.arr esz es fz) ∧ es.all AV.norefs = true) :
    ∃ F', SimA P fr ds G F' ⟨st.vars, st.tmps, Avl.fzAll n st.mem, st.nx⟩ a w ∧ Step (· < fr.base) G F st.mem w G F' (Avl.fzAll n st.mem) w := by
  induction n with
  | zero => exact ⟨F, s, .refl⟩
  | succ n ih =>
    obtain ⟨F1, s1, S1⟩ := ih fun i hi => h i (by omega)
    obtain ⟨esz, es, fz, ho, hn⟩ := h n (Nat.lt_succ_self _)
    have hm : mlook (Avl.fzAll n st.mem) n = some (.arr esz es fz) := by rw [mlook_fzAll, if_neg (by omega)]; exact ho
    have he : St.fz n ⟨st.vars, st.tmps, Avl.fzAll n st.mem, st.nx⟩ = some ⟨st.vars, st.tmps, mset (Avl.fzAll n st.mem) n (.arr esz es true), st.nx⟩ := by
      simp only [St.fz, hm, hn]; rfl
    obtain ⟨F2, s2, S2⟩ := s1.fz he
    refine ⟨F2, ?_, ?_⟩
    · simp only [Avl.fzAll, hm]; exact s2
    · simp only [Avl.fzAll, hm]; exact S1.trans S2
theorem EvC.fzAll (n : Nat) (h : ∀ i, i < n → ∃ esz es fz, mlook st.mem i = some (.arr esz es fz) ∧ es.all AV.norefs = true) (hc : EvC P fr ro ds c ⟨st.vars, st.tmps, Avl.fzAll n st.mem, st.nx⟩ Q) : EvC P fr ro ds c st Q :=
  EvC.conv (fun _ _ _ _ s => let ⟨F', s', S'⟩ := s.fzAll n h; ⟨_, F', s', S'⟩) hc

theorem simM_snapA {nx j esz : Nat} {es : List (List AV)} (hm : SimM P G F M nx w) (ho : mlook M j = some (.arr esz es false)) :
    SimM P G F (mset M j (.arr esz (es.map fun c => c.map (AV.deep (snap M))) false)) nx w ∧ Step All G F M w G F (mset M j (.arr esz (es.map fun c => c.map (AV.deep (snap M))) false)) w := by
  obtain ⟨es', hes⟩ : ∃ es', es' = es.map fun c => c.map (AV.deep (snap M)) := ⟨_, rfl⟩
  rw [← hes]
  have hle : es'.length = es.length := by rw [hes, List.length_map]
  have hold := (hm.obj j _ ho).2
  have S : Step All G F M w G F (mset M j (.arr esz es' false)) w :=
    { kept := .refl
      size := Nat.le_refl _
      out := fun _ _ _ => rfl
      F1 := fun _ _ h => h
      F2 := fun _ _ _ => rfl
      F3 := fun b o h => .inl h
      own := fun b ⟨id, o, v, h3, h4, h5⟩ => by
        rw [mlook_mset] at h3
        by_cases hi : id = j
        · subst hi; exact .inr ⟨id, _, v, ho, h4, h5⟩
        · rw [if_neg hi] at h3; exact .inr ⟨id, o, v, h3, h4, h5⟩
      some' := fun _ _ h => h
      same := fun _ _ _ h _ => h
      keep := fun id o' _ hG h3 => by
        obtain ⟨v, hv⟩ := Option.ne_none_iff_exists'.1 hG
        rw [mlook_mset] at h3
        by_cases hi : id = j
        · subst hi
          rw [if_pos rfl] at h3; cases h3
          exact ⟨_, v, v, ho, hv, hv, ⟨rfl, .inl ⟨hle, rfl⟩⟩⟩
        · rw [if_neg hi] at h3
          exact ⟨o', v, v, h3, hv, hv, objKeep.refl v o'⟩ }
  have hinj : ∀ id id' v v' b, mlook (mset M j (.arr esz es' false)) id ≠ none → mlook (mset M j (.arr esz es' false)) id' ≠ none → G id = some v → G id' = some v' → blkOf v = some b → blkOf v' = some b → id = id' := by
    intro id id' v v' b h1 h2
    refine hm.inj id id' v v' b ?_ ?_
    · rw [mlook_mset] at h1; by_cases hi : id = j
      · subst hi; rw [ho]; simp
      · rwa [if_neg hi] at h1
    · rw [mlook_mset] at h2; by_cases hi : id' = j
      · subst hi; rw [ho]; simp
      · rwa [if_neg hi] at h2
  refine ⟨simM_gen hm S (fun id o' h => ?_) hinj hm.inF, S⟩
  rw [mlook_mset] at h
  by_cases hi : id = j
  · subst hi; rw [if_pos rfl] at h; cases h
    refine ⟨(hm.obj id _ ho).1, .inl ?_⟩
    rcases hold with ⟨h0, h0'⟩ | ⟨b, c, cc, e, h1, h2, h3, h4, h5, h6, h7, h8, h9⟩
    · exact .inl ⟨by rw [hes, h0]; rfl, h0'⟩
    · refine .inr ⟨b, c, cc, e, by rw [hle]; exact h1, h2, h3, by rw [hle]; exact h4, h5, fun i hi' => ?_, fun i l hi' hl' => ?_, fun o h => absurd (h8 o h).1 (by simp), fun h => (by cases h)⟩
      · have hi2 : i < es.length := by rw [← hle]; exact hi'
        simp only [hes, List.getElem_map, List.length_map]
        exact h6 _ hi2
      · have hi2 : i < es.length := by rw [← hle]; exact hi'
        have e2 : es'[i] = es[i].map (AV.deep (snap M)) := by simp [hes]
        have hl2 : l < es[i].length := by rw [e2, List.length_map] at hl'; exact hl'
        obtain ⟨v, k1, k2, k3⟩ := h7 i l hi2 hl2
        refine ⟨v, k1, k2, ?_⟩
        have e3 : es'[i][l] = AV.deep (snap M) es[i][l] := by simp [e2]
        rw [e3]
        exact (k3.deep fun v y h => h.snap hm).step S fun _ _ => trivial
  · rw [if_neg hi] at h
    exact ⟨(hm.obj id _ h).1, .inr ⟨h, rfl, fun b v hG hb => ⟨rfl, fun _ h => h⟩⟩⟩
theorem SimA.snapA {j : Nat} (s : SimA P fr ds G F st a w) (h : st.snapA j = some st') : SimA P fr ds G F st' a w ∧ Step (· < fr.base) G F st.mem w G F st'.mem w := by
  unfold St.snapA at h
  split at h
  · rename_i esz es ho
    cases h
    obtain ⟨hm', S'⟩ := simM_snapA s.sim.mem ho
    exact ⟨⟨⟨hm', fun k => (s.sim.slots k).step S' (fun _ _ => trivial), s.sim.size⟩, s.fresh, s.defers⟩, S'.mono fun _ _ => trivial⟩
  · cases h
theorem EvC.snapA (j : Nat) (h : st.snapA j = some st') (hc : EvC P fr ro ds c st' Q) : EvC P fr ro ds c st Q :=
  EvC.conv (fun _ _ _ _ s => let ⟨s', S'⟩ := s.snapA h; ⟨_, _, s', S'⟩) hc
end
attribute [go_sem] St.snapA mlook_mseg renMem_segK
end Go.Avl
namespace Go.Avl
open Go

/-- The slots that an operation reads, its guard's among them. -/
def slotsOf (ops : List It) (o : Oper) : List Nat := opSlots o.op.operands.toList ++ match o.guard with
  | some (j, _) => match ops[j]? with
    | some u => match u.o.dst with
      | some k => [2 * k]
      | none => []
    | none => []
  | none => []
def dstC (o : Oper) : List Nat := match o.dst with
  | some k => [2 * k]
  | none => []
def rdOk (ops : List It) (t : It) : Bool := t.rd.all fun x => (x % 2 == 1 && !memless t.o.op) || (slotsOf ops t.o).contains x
def confT (ops : List It) (i : Nat) (t : It) : Nat → List It → Bool
  | _, [] => true
  | m, u :: l => (i == m || (depsOf t.o).contains m || (depsOf u.o).contains i || (!((slotsOf ops t.o ++ dstC t.o).any fun x => (dstC u.o).contains x) && !((!memless t.o.op || t.r.fx.isSome) && u.r.fx.isSome))) && confT ops i t (m + 1) l
def confS (all : List It) : Nat → List It → Bool
  | _, [] => true
  | i, t :: l => (depsOf t.o).all (fun e => decide (e < i)) && confT all i t 0 all && confS all (i + 1) l

theorem confT_spec {all : List It} {i : Nat} {t : It} : ∀ (l : List It) (m0 : Nat), confT all i t m0 l = true → ∀ m u, l[m]? = some u → i = m0 + m ∨ m0 + m ∈ depsOf t.o ∨ i ∈ depsOf u.o ∨ ((∀ x, x ∈ slotsOf all t.o ∨ x ∈ dstC t.o → x ∉ dstC u.o) ∧ (memless t.o.op = true ∧ t.r.fx = none ∨ u.r.fx = none)) := by
  intro l
  induction l with
  | nil => intro m0 _ m u hm; simp at hm
  | cons u0 l ih =>
    intro m0 h m u hm
    simp only [confT, Bool.and_eq_true] at h
    cases m with
    | zero =>
      have e : u0 = u := by simpa using hm
      subst e
      have h1 := h.1
      simp only [Bool.or_eq_true, beq_iff_eq, List.contains_iff_mem, Bool.and_eq_true, Bool.not_eq_true', List.any_eq_false, List.mem_append] at h1
      rcases h1 with ((h1 | h1) | h1) | h1
      · exact .inl h1
      · exact .inr (.inl h1)
      · exact .inr (.inr (.inl h1))
      · refine .inr (.inr (.inr ⟨fun x hx hm => h1.1 x hx (by simpa using hm), ?_⟩))
        have h2 := h1.2
        cases hu : u0.r.fx with
        | none => exact .inr rfl
        | some p =>
          left
          rw [hu] at h2
          cases ht : t.r.fx with
          | none => rw [ht] at h2; simp at h2; exact ⟨h2, rfl⟩
          | some q => rw [ht] at h2; simp at h2
    | succ m =>
      have := ih (m0 + 1) h.2 m u (by simpa using hm)
      rwa [show m0 + 1 + m = m0 + (m + 1) by omega] at this
theorem confS_spec {all : List It} : ∀ (l : List It) (i0 : Nat), confS all i0 l = true → ∀ i t, l[i]? = some t → (∀ e ∈ depsOf t.o, e < i0 + i) ∧ confT all (i0 + i) t 0 all = true := by
  intro l
  induction l with
  | nil => intro i0 _ i t hi; simp at hi
  | cons t0 l ih =>
    intro i0 h i t hi
    simp only [confS, Bool.and_eq_true] at h
    cases i with
    | zero =>
      have e : t0 = t := by simpa using hi
      subst e
      refine ⟨fun e he => ?_, h.1.2⟩
      have := h.1.1
      rw [List.all_eq_true] at this
      simpa using this e he
    | succ i =>
      have := ih (i0 + 1) h.2 i t (by simpa using hi)
      rwa [show i0 + 1 + i = i0 + (i + 1) by omega] at this
theorem wl_split {d : Option Nat} {r : Rc} {x : Nat} (h : x ∈ wl d r) : (d.isSome = true ∧ x ∈ (match d with | some k => [2 * k] | none => [])) ∨ (x % 2 = 1 ∧ r.fx ≠ none) := by
  unfold wl at h
  rcases List.mem_append.1 h with h | h
  · cases d with
    | none => cases h
    | some k => exact .inl ⟨rfl, h⟩
  · right
    cases hf : r.fx with
    | none => rw [hf] at h; cases h
    | some p => rw [hf] at h; simp at h; exact ⟨by omega, by simp⟩
theorem Conf.ofS {l : List It} (h1 : l.all (rdOk l) = true) (h2 : confS l 0 l = true) : Conf l where
  back := fun i t hi e he => by have := (confS_spec l 0 h2 i t hi).1 e he; omega
  edge := fun i m t u hi hm hne x hx hu => by
    have h3 := (confS_spec l 0 h2 i t hi).2
    rw [Nat.zero_add] at h3
    have h4 := confT_spec l 0 h3 m u hm
    rw [Nat.zero_add] at h4
    rcases h4 with h4 | h4 | h4 | ⟨h4, h5⟩
    · exact absurd h4 hne
    · exact .inl h4
    · exact .inr h4
    · exfalso
      rw [List.all_eq_true] at h1
      have h6 := h1 t (List.mem_of_getElem? hi)
      unfold rdOk at h6
      rw [List.all_eq_true] at h6
      have hd : ∀ {o : Oper} {r : Rc}, x ∈ wl o.dst r → x ∈ dstC o ∨ (x % 2 = 1 ∧ r.fx ≠ none) := fun {o r} h => by
        rcases wl_split h with h | h
        · exact .inl h.2
        · exact .inr h
      have he : ∀ {o : Oper}, x ∈ dstC o → x % 2 = 0 := fun {o} h => by
        unfold dstC at h
        split at h
        · simp at h; omega
        · cases h
      rcases hd hu with hu | ⟨hu1, hu2⟩
      · have hev := he hu
        rcases hx with hx | hx
        · have := h6 x hx
          simp only [Bool.or_eq_true, Bool.and_eq_true, beq_iff_eq, List.contains_iff_mem] at this
          rcases this with h | h
          · omega
          · exact h4 x (.inl h) hu
        · rcases hd hx with hx | ⟨h, _⟩
          · exact h4 x (.inr hx) hu
          · omega
      · rcases h5 with ⟨h5, h5'⟩ | h5
        · rcases hx with hx | hx
          · have := h6 x hx
            simp only [Bool.or_eq_true, Bool.and_eq_true, beq_iff_eq, List.contains_iff_mem, h5, Bool.not_true, Bool.false_eq_true, and_false, false_or] at this
            have hs : ∀ y ∈ slotsOf l t.o, y % 2 = 0 := fun y hy => by
              unfold slotsOf at hy
              rcases List.mem_append.1 hy with hy | hy
              · have hos : ∀ xs : List Operand, ∀ y ∈ opSlots xs, y % 2 = 0 := by
                  intro xs
                  induction xs with
                  | nil => intro y hy; simp [opSlots] at hy
                  | cons z xs ih =>
                    intro y hy
                    cases z with
                    | tmp t =>
                      simp only [opSlots, List.mem_cons] at hy
                      rcases hy with hy | hy
                      · omega
                      · exact ih y hy
                    | const v => exact ih y (by simpa only [opSlots] using hy)
                    | global g => exact ih y (by simpa only [opSlots] using hy)
                    | func f => exact ih y (by simpa only [opSlots] using hy)
                exact hos _ y hy
              · split at hy
                · split at hy
                  · split at hy
                    · simp at hy; omega
                    · cases hy
                  · cases hy
                · cases hy
            have := hs x this
            omega
          · rcases hd hx with hx | ⟨_, h⟩
            · have := he hx; omega
            · exact h h5'
        · exact hu2 h5
theorem confOne_of {i : Nat} {t : It} {all : List It} (hc : Conf all) (hi : all[i]? = some t) : ∀ (l : List It) (m0 : Nat), (∀ m u, l[m]? = some u → all[m0 + m]? = some u) → confOne i t m0 l = true
  | [], _, _ => rfl
  | u :: l, m0, h => by
    simp only [confOne, Bool.and_eq_true]
    refine ⟨?_, confOne_of hc hi l (m0 + 1) fun m u hm => by rw [show m0 + 1 + m = m0 + (m + 1) by omega]; exact h (m + 1) u (by simpa using hm)⟩
    have hu := h 0 u (by simp)
    rw [Nat.add_zero] at hu
    by_cases e : i = m0
    · simp [e]
    by_cases hx : ((t.rd ++ wl t.o.dst t.r).any fun x => (wl u.o.dst u.r).contains x) = true
    · rw [List.any_eq_true] at hx
      obtain ⟨x, h1, h2⟩ := hx
      rcases hc.edge i m0 t u hi hu e x (List.mem_append.1 h1) (by simpa using h2) with h | h
      · simp [h]
      · simp [h]
    · simp only [Bool.not_eq_true] at hx
      rw [hx]; simp
theorem confAll_of' {all : List It} (hc : Conf all) : ∀ (l : List It) (i0 : Nat), (∀ i t, l[i]? = some t → all[i0 + i]? = some t) → confAll all i0 l = true
  | [], _, _ => rfl
  | t :: l, i0, h => by
    have ht := h 0 t (by simp)
    rw [Nat.add_zero] at ht
    simp only [confAll, Bool.and_eq_true]
    refine ⟨⟨?_, confOne_of hc ht all 0 fun m u hm => by rw [Nat.zero_add]; exact hm⟩, confAll_of' hc l (i0 + 1) fun i t hi => by rw [show i0 + 1 + i = i0 + (i + 1) by omega]; exact h (i + 1) t (by simpa using hi)⟩
    rw [List.all_eq_true]
    intro e he
    simpa using hc.back i0 t ht e he
/-- The order of a drawn region, by its slots. -/
theorem confAll_slots {l : List It} (h1 : l.all (rdOk l) = true) (h2 : confS l 0 l = true) : confAll l 0 l = true :=
  confAll_of' (Conf.ofS h1 h2) l 0 fun i t h => by rw [Nat.zero_add]; exact h
theorem odd_code (x : Nat) : ((2 * x + 1) % 2 == 1) = true := by simp
end Go.Avl
namespace Go.Avl
open Go

/-- What has no references stays as it is. -/
theorem deep_fix {σ : AV → AV} (hσ : ∀ v, v.noref = true → σ v = v) : ∀ (d : Nat) (v : AV), SizeOf.sizeOf v ≤ d → v.noref = true → v.deep σ = v
  | 0, v, h, _ => by cases v <;> simp at h
  | d + 1, v, h, hn => by
    have hl : ∀ cs : List AV, SizeOf.sizeOf cs ≤ d → AV.norefs cs = true → AV.deeps σ cs = cs := by
      intro cs
      induction cs with
      | nil => intro _ _; rfl
      | cons c cs ih =>
        intro h1 h2
        simp only [AV.norefs, Bool.and_eq_true] at h2
        simp only [List.cons.sizeOf_spec] at h1
        rw [AV.deeps, deep_fix hσ d c (by omega) h2.1, ih (by omega) h2.2]
    cases v with
    | ag cs => simp only [AV.ag.sizeOf_spec] at h; rw [AV.deep, hl cs (by omega) (by simpa [AV.noref] using hn)]
    | tu cs => simp only [AV.tu.sizeOf_spec] at h; rw [AV.deep, hl cs (by omega) (by simpa [AV.noref] using hn)]
    | ifc t v => simp only [AV.ifc.sizeOf_spec] at h; rw [AV.deep, deep_fix hσ d v (by omega) (by simpa [AV.noref] using hn)]
    | fn f cs => simp only [AV.fn.sizeOf_spec] at h; rw [AV.deep, hl cs (by omega) (by simpa [AV.noref] using hn)]
    | opt b v => simp only [AV.opt.sizeOf_spec] at h; rw [AV.deep, deep_fix hσ d v (by omega) (by simpa [AV.noref] using hn)]
    | _ => exact hσ _ hn
theorem deeps_fix {σ : AV → AV} (hσ : ∀ v, v.noref = true → σ v = v) : ∀ {cs : List AV}, AV.norefs cs = true → AV.deeps σ cs = cs
  | [], _ => rfl
  | c :: cs, h => by
    simp only [AV.norefs, Bool.and_eq_true] at h
    rw [AV.deeps, deep_fix hσ _ c (Nat.le_refl _) h.1, deeps_fix hσ h.2]
theorem snap_fix (M : Mem) (v : AV) (h : v.noref = true) : snap M v = v := by cases v <;> first | rfl | cases h
theorem toIa_fix (i : Nat) (cs : List AV) (v : AV) (h : v.noref = true) : toIa i cs v = v := by cases v <;> first | rfl | cases h
theorem deeps_snap {cs : List AV} (h : AV.norefs cs = true) (M : Mem) : AV.deeps (snap M) cs = cs := deeps_fix (snap_fix M) h
theorem deeps_toIa {cs : List AV} (h : AV.norefs cs = true) (i : Nat) (ds : List AV) : AV.deeps (toIa i ds) cs = cs := deeps_fix (toIa_fix i ds) h

section
variable {α : Type}
def upd1 (f : Nat → α) (t : Nat) (x : α) : Nat → α := fun k => if k = t then x else f k
def upd2 (W : Nat → Nat → α) (s t : Nat) (x : α) : Nat → Nat → α := fun a b => if a = s ∧ b = t then x else W a b
def gcells (C : α → List AV) (f : Nat → α) (m : Nat) : List (List AV) := (List.range m).map fun t => C (f t)
theorem gcells_len (C : α → List AV) (f : Nat → α) (m : Nat) : (gcells C f m).length = m := by simp [gcells]
theorem gcells_get (C : α → List AV) (f : Nat → α) {m t : Nat} (h : t < m) : (gcells C f m)[t]? = some (C (f t)) := by rw [gcells, List.getElem?_map, List.getElem?_range h]; rfl
theorem gcells_norefs {C : α → List AV} (hC : ∀ x, AV.norefs (C x) = true) (f : Nat → α) (m : Nat) : (gcells C f m).all AV.norefs = true := by simp [List.all_eq_true, gcells, hC]
theorem gcells_all {C : α → List AV} {e : Nat} (hC : ∀ x, (C x).length = e) (f : Nat → α) (m : Nat) : ((gcells C f m).all fun y => decide (y.length = e)) = true := by simp [List.all_eq_true, gcells, hC]
theorem gcells_const (C : α → List AV) (x : α) (m : Nat) : List.replicate m (C x) = gcells C (fun _ => x) m :=
  List.ext_getElem (by simp [gcells]) fun i h1 h2 => by simp [gcells]
theorem gcells_congr (C : α → List AV) {f g : Nat → α} {m : Nat} (h : ∀ t, t < m → f t = g t) : gcells C f m = gcells C g m :=
  List.map_congr_left fun t ht => by rw [h t (List.mem_range.1 ht)]
theorem range_set {β : Type} (f : Nat → β) {n s : Nat} (x : β) (h : s < n) : ((List.range n).map f).set s x = (List.range n).map fun i => if i = s then x else f i := by
  refine List.ext_getElem (by simp) fun i h1 h2 => ?_
  simp only [List.getElem_set, List.getElem_map, List.getElem_range]
  by_cases e : s = i
  · subst e; simp
  · rw [if_neg e, if_neg (Ne.symm e)]
theorem gcells_set (C : α → List AV) (f : Nat → α) {m t : Nat} (x : α) (h : t < m) : (gcells C f m).set t (C x) = gcells C (upd1 f t x) m := by
  rw [gcells, range_set _ _ h, gcells]
  refine List.map_congr_left fun k _ => ?_
  by_cases e : k = t
  · subst e; simp [upd1]
  · simp [upd1, e]
theorem gcells_snoc (C : α → List AV) (f : Nat → α) (m : Nat) : gcells C f m ++ [C (f m)] = gcells C f (m + 1) := by simp [gcells, List.range_succ]

/-- The cells of the outer slice: each row a slice of its own. -/
def mcell (m n : Nat) : List (List AV) := (List.range n).map fun s => [.tv s m 0 m (.val m)]
theorem mcell_len (m n : Nat) : (mcell m n).length = n := by simp [mcell]
theorem mcell_get {m n s : Nat} (h : s < n) : (mcell m n)[s]? = some [.tv s m 0 m (.val m)] := by rw [mcell, List.getElem?_map, List.getElem?_range h]; rfl
theorem mcell_succ (m n : Nat) : mcell m n ++ [[.tv n m 0 m (.val m)]] = mcell m (n + 1) := by simp [mcell, List.range_succ]
theorem mcell_ren {m n : Nat} {K : List (Nat × Nat)} (h : ∀ s, s < n → rlook K s = some s) : (mcell m n).map (fun c => c.map (AV.ren K)) = mcell m n := by
  rw [mcell, List.map_map]
  refine List.map_congr_left fun s hs => ?_
  simp only [Function.comp, List.map_cons, List.map_nil, AV.ren, AV.noref, Bool.false_eq_true, if_false, AV.deep, renLeaf, h s (List.mem_range.1 hs)]
theorem mcell_snap {m n e : Nat} {M : Mem} {row : Nat → List (List AV)} (h : ∀ s, s < n → mlook M s = some (.arr e (row s) true)) (hl : ∀ s, s < n → (row s).length = m) : (mcell m n).map (fun c => c.map (AV.deep (snap M))) = (List.range n).map fun s => [.sl false (row s) .full] := by
  rw [mcell, List.map_map]
  refine List.map_congr_left fun s hs => ?_
  have hs := List.mem_range.1 hs
  have e2 : tvEs (row s) m 0 m = row s := by simp [tvEs]
  simp only [Function.comp, List.map_cons, List.map_nil, AV.deep, snap, h s hs, hl s hs, if_true, e2, tvCap]

/-- Some rows made, the others nil. -/
def mpart (m n s : Nat) : List (List AV) := mcell m s ++ List.replicate (n - s) [.sl true [] .zer]
theorem mpart_len {m n s : Nat} (h : s ≤ n) : (mpart m n s).length = n := by simp [mpart, mcell_len]; omega
theorem mpart_zero (m n : Nat) : mpart m n 0 = List.replicate n [.sl true [] .zer] := by simp [mpart, mcell]
theorem mpart_all (m n : Nat) : mpart m n n = mcell m n := by simp [mpart]
theorem mpart_get {m n s : Nat} (h : s < n) : (mpart m n s)[s]? = some [.sl true [] .zer] := by
  rw [mpart, List.getElem?_append_right (by rw [mcell_len]; omega), mcell_len, Nat.sub_self, List.getElem?_replicate, if_pos (by omega)]
theorem mpart_ren {m n s k : Nat} {K : List (Nat × Nat)} (h : s < n) (hk : rlook K k = some s) (hK : ∀ j, j < s → rlook K j = some j) : ((mpart m n s).set s [.tv k m 0 m (.val m)]).map (fun c => c.map (AV.ren K)) = mpart m n (s + 1) := by
  obtain ⟨d, hd⟩ : ∃ d, n - s = d + 1 := ⟨n - s - 1, by omega⟩
  have hd' : n - (s + 1) = d := by omega
  rw [mpart, List.set_append_right _ _ (by rw [mcell_len]; omega), mcell_len, Nat.sub_self, hd, List.replicate_succ, List.set_cons_zero, List.map_append, mcell_ren hK, List.map_cons, mpart, hd', ← mcell_succ, List.append_assoc]
  congr 1
  simp [AV.ren, AV.noref, AV.deep, renLeaf, hk]
theorem mpart_same {m n s : Nat} {K : List (Nat × Nat)} (hK : ∀ j, j < s → rlook K j = some j) : (mpart m n s).map (fun c => c.map (AV.ren K)) = mpart m n s := by
  rw [mpart, List.map_append, mcell_ren hK]
  congr 1
  simp [AV.ren, AV.noref]
theorem mpart_norefs {m n s k : Nat} (h : s < n) : ((mpart m n s).set s [.tv k m 0 m (.val m)]).all AV.norefs = false := by
  rw [List.all_eq_false]
  refine ⟨[.tv k m 0 m (.val m)], ?_, by simp [AV.norefs, AV.noref]⟩
  rw [List.mem_iff_getElem]
  exact ⟨s, by rw [List.length_set, mpart_len (Nat.le_of_lt h)]; exact h, by simp⟩
def grow (e : Nat) (C : α → List AV) (W : Nat → Nat → α) (m s : Nat) : RObj := .arr e (gcells C (W s) m) false
/-- The rows, as objects. -/
def gtab (e : Nat) (C : α → List AV) (W : Nat → Nat → α) (n m : Nat) : Mem := mseg ((List.range n).map (grow e C W m))
theorem gtab_zero (e : Nat) (C : α → List AV) (W : Nat → Nat → α) (m : Nat) : gtab e C W 0 m = [] := rfl
theorem gtab_look (e : Nat) (C : α → List AV) (W : Nat → Nat → α) {n m s : Nat} (h : s < n) : mlook (gtab e C W n m) s = some (.arr e (gcells C (W s) m) false) := by
  rw [gtab, mlook_mseg, List.getElem?_map, List.getElem?_range h]; rfl
theorem gtab_set (e : Nat) (C : α → List AV) (W : Nat → Nat → α) {n m s t : Nat} (x : α) (hs : s < n) (ht : t < m) : mset (gtab e C W n m) s (.arr e ((gcells C (W s) m).set t (C x)) false) = gtab e C (upd2 W s t x) n m := by
  rw [gtab, mset_mseg _ (by simpa using hs), range_set _ _ hs, gcells_set C _ x ht, gtab]
  congr 1
  refine List.map_congr_left fun i _ => ?_
  by_cases e2 : i = s
  · subst e2; rw [if_pos rfl, grow]
    congr 1
    refine gcells_congr C fun k _ => ?_
    simp [upd1, upd2]
  · rw [if_neg e2, grow, grow]
    congr 1
    refine gcells_congr C fun k _ => ?_
    simp [upd2, e2]
theorem gtab_set_hi (e : Nat) (C : α → List AV) (W : Nat → Nat → α) {n m s t k : Nat} (x : α) (hs : s < n) (ht : t < m) (hn : n ≤ 1000000) (hk : 1000000 ≤ k) (o : RObj) : mset (mset (gtab e C W n m) k o) s (.arr e ((gcells C (W s) m).set t (C x)) false) = mset (gtab e C (upd2 W s t x) n m) k o := by
  rw [mset_comm (by rw [gtab_look e C W hs]; rfl) (by omega), gtab_set e C W x hs ht]
theorem gtab_ren (e : Nat) {C : α → List AV} (hC : ∀ x, AV.norefs (C x) = true) (W : Nat → Nat → α) (n m : Nat) (K : List (Nat × Nat)) : renMem (gtab e C W n m) K (idK n) = gtab e C W n m := by
  rw [gtab, renMem_seg K (by simp), List.map_map]
  congr 1
  refine List.map_congr_left fun s _ => ?_
  simp only [Function.comp, grow, RObj.ren, gcells_norefs hC, if_true]
theorem gtab_snoc (e : Nat) (C : α → List AV) (W : Nat → Nat → α) (n m : Nat) : gtab e C W n m ++ [(n, .arr e (gcells C (W n) m) false)] = gtab e C W (n + 1) m := by
  rw [gtab, mseg_snoc _ _ (n := n) (by simp), gtab, List.range_succ, List.map_append]; rfl
theorem gtab_snoc1 (e : Nat) (C : α → List AV) (x : α) (n m : Nat) : gtab e C (fun _ _ => x) n m ++ [(n, .arr e (gcells C (fun _ => x) m) false)] = gtab e C (fun _ _ => x) (n + 1) m := gtab_snoc e C (fun _ _ => x) n m
/-- The same, frozen. -/
def gtabF (e : Nat) (C : α → List AV) (W : Nat → Nat → α) (n m : Nat) : Mem := mseg ((List.range n).map fun s => (grow e C W m s).fzn)
theorem gtab_fz (e : Nat) (C : α → List AV) (W : Nat → Nat → α) (n m : Nat) : fzAll n (gtab e C W n m) = gtabF e C W n m := by
  rw [gtab, fzAll_seg (by simp), List.map_map]; rfl
theorem gtabF_look (e : Nat) (C : α → List AV) (W : Nat → Nat → α) {n m s : Nat} (h : s < n) : mlook (gtabF e C W n m) s = some (.arr e (gcells C (W s) m) true) := by
  rw [gtabF, mlook_mseg, List.getElem?_map, List.getElem?_range h]; rfl
end
end Go.Avl
namespace Go.Avl
open Go

def retB (P : Program) (fr : Fr) (results : List ResultVar) (R : AV → Mem → Nat → Prop) : Exit → St → Prop :=
  fun e st => (e = .ret ∨ e = .normal) ∧ ∃ rs, resAllR P fr st results = some rs ∧ R (mkRes rs) st.mem st.nx
def BodyIs (P : Program) (f : FuncId) (args : List AV) (M : Mem) (nx : Nat) (R : AV → Mem → Nat → Prop) : Prop :=
  ∃ fn c nv hid, P.funcs[f]? = some fn ∧ fn.body = some c ∧ (fn.name == "runtime.NumGoroutine") = false ∧ args.length ≤ fn.ntmps ∧
    ∀ h0 : Nat, EvC P ⟨nx, nv, hid, fn.ntmps⟩ none ⟨h0, none, false⟩ c ⟨vars0 0 args, [], M, nx⟩ (retB P ⟨nx, nv, hid, fn.ntmps⟩ fn.results.toList R)

section
variable {P : Program} {fr : Fr} {ro : Option Nat} {ds : DS} {st st' : St} {Q Q' : Exit → St → Prop} {c : Code} {M : Mem} {ops : Array Oper} {l rest : List Oper} {o : Oper}

theorem BodyIs.of {f : FuncId} {fn : Func} {args : List AV} {nx nv : Nat} {hid : List Nat} {R : AV → Mem → Nat → Prop} (hf : P.funcs[f]? = some fn) (hb : fn.body = some c) (hnm : (fn.name == "runtime.NumGoroutine") = false) (hsz : args.length ≤ fn.ntmps)
    (h : ∀ h0 : Nat, EvC P ⟨nx, nv, hid, fn.ntmps⟩ none ⟨h0, none, false⟩ c ⟨vars0 0 args, [], M, nx⟩ (retB P ⟨nx, nv, hid, fn.ntmps⟩ fn.results.toList R)) : BodyIs P f args M nx R :=
  ⟨fn, c, nv, hid, hf, hb, hnm, hsz, h⟩
theorem BodyIs.mono {f : FuncId} {args : List AV} {nx : Nat} {R R' : AV → Mem → Nat → Prop} (h : BodyIs P f args M nx R) (hr : ∀ r M nx, R r M nx → R' r M nx) : BodyIs P f args M nx R' := by
  obtain ⟨fn, c, nv, hid, h1, h2, h3, h4, h5⟩ := h
  exact ⟨fn, c, nv, hid, h1, h2, h3, h4, fun h0 => (h5 h0).mono fun e st ⟨k1, rs, k2, k3⟩ => ⟨k1, rs, k2, hr _ _ _ k3⟩⟩
theorem XR.callI {f : FuncId} {cs : List AV} {callee : Operand} {args : Array Operand} {tys : Array TypeId} {xs : List AV} (hg : o.guard = none) (hop : o.op = .call ⟨.value callee, args, tys⟩) (hd : dok fr o.dst = true)
    (hcal : od fr st true callee = .fn f cs) (hxs : bodyArgs fr st args ++ cs = xs)
    (hb : BodyIs P f xs st.mem st.nx fun r M' nx' => XR P fr ro ds ops rest ((⟨st.vars, st.tmps, M', nx'⟩ : St).put fr o.dst r) Q) : XR P fr ro ds ops (o :: rest) st Q := by
  obtain ⟨fn, c, nv, hid, h1, h2, h3, h4, h5⟩ := hb
  exact XR.callB nv hid hg hop hd hcal hxs h1 h2 h3 h4 fun h0 => (h5 h0).mono fun e st ⟨k1, rs, k2, k3⟩ => ⟨k1, rs, k2, k3⟩
theorem XR.callIG {j k : Nat} {want : Bool} {f : FuncId} {cs : List AV} {callee : Operand} {args : Array Operand} {tys : Array TypeId} {xs : List AV} (hg : o.guard = some (j, want)) (hj : gslot ops j = some k) (hk : gval want (st.get fr k) = some true)
    (hop : o.op = .call ⟨.value callee, args, tys⟩) (hd : dok fr o.dst = true)
    (hcal : od fr st true callee = .fn f cs) (hxs : bodyArgs fr st args ++ cs = xs)
    (hb : BodyIs P f xs st.mem st.nx fun r M' nx' => XR P fr ro ds ops rest ((⟨st.vars, st.tmps, M', nx'⟩ : St).put fr o.dst r) Q) : XR P fr ro ds ops (o :: rest) st Q :=
  fun _ _ _ _ _ _ a w S s => by
    have hw := wanted_ok s hg hj hk
    simp only [wpListIn, hw, if_true]
    obtain ⟨fn, c, nv, hid, h1, h2, h3, h4, h5⟩ := hb
    exact s.callB (R := fun r M' nx' => XR P fr ro ds ops rest ((⟨st.vars, st.tmps, M', nx'⟩ : St).put fr o.dst r) Q) hop (dok_spec hd) hcal hxs h1 h2 h3 h4 h5
      fun _ _ _ _ _ _ _ hR s' S' => hR _ _ _ _ _ _ _ _ (S.trans (by rw [St.put_mem]; exact S'.mono fun _ _ => trivial)) s'
end
attribute [go_sem] resAllR resOneR bodyArgs
end Go.Avl
namespace Go.Avl
open Go

/-- Elements, and zero values as far as there is room. -/
def roomL (m : Nat) (z : List AV) (xs : List (List AV)) : List (List AV) := xs ++ List.replicate (m - xs.length) z
theorem roomL_len {m : Nat} {z : List AV} {xs : List (List AV)} (h : xs.length ≤ m) : (roomL m z xs).length = m := by simp [roomL]; omega
theorem roomL_nil (m : Nat) (z : List AV) : roomL m z [] = List.replicate m z := by simp [roomL]
theorem roomL_full {m : Nat} {z : List AV} {xs : List (List AV)} (h : xs.length = m) : roomL m z xs = xs := by simp [roomL, h]
theorem roomL_app {m : Nat} {z : List AV} {xs : List (List AV)} (y : List AV) (h : xs.length < m) : (roomL m z xs).take xs.length ++ y :: (roomL m z xs).drop (xs.length + 1) = roomL m z (xs ++ [y]) := by
  obtain ⟨d, hd⟩ : ∃ d, m - xs.length = d + 1 := ⟨m - xs.length - 1, by omega⟩
  have hd' : m - (xs.length + 1) = d := by omega
  have e1 : (roomL m z xs).take xs.length = xs := by simp [roomL]
  have e2 : (roomL m z xs).drop (xs.length + 1) = List.replicate d z := by
    rw [roomL, hd, List.replicate_succ, List.drop_append]
    simp
  rw [e1, e2, roomL, List.length_append, List.length_singleton, hd', List.append_assoc]; rfl
theorem roomL_get {m : Nat} {z : List AV} {xs : List (List AV)} {i : Nat} (h : i < xs.length) : (roomL m z xs)[i]? = xs[i]? := by
  rw [roomL, List.getElem?_append_left h]
theorem roomL_norefs {m : Nat} {z : List AV} {xs : List (List AV)} (hz : AV.norefs z = true) (h : xs.all AV.norefs = true) : (roomL m z xs).all AV.norefs = true := by
  simp only [roomL, List.all_append, h, Bool.true_and, List.all_replicate, hz]
  simp
theorem roomL_take {m : Nat} {z : List AV} {xs : List (List AV)} : (roomL m z xs).take xs.length = xs := by simp [roomL]
end Go.Avl
namespace Go.Avl
open Go

/-- Each operation has another one behind it that waits for it: one of the list, or the last one. -/
def ancOk (last : List Nat) : Nat → List It → Bool
  | _, [] => true
  | i, _ :: l => (last.contains i || l.any fun u => (depsOf u.o).contains i) && ancOk last (i + 1) l
section
variable {P : Program} {fr : Fr} {ro : Option Nat} {ds : DS} {st st' : St} {Q : Exit → St → Prop} {G G' : Nat → Option Value} {F F' : Nat → Nat → Prop} {a : Act} {w w' : World}
  {M M' : Mem} {ops : Array Oper} {o : Oper} {id N : Nat} {S S' : Nat → Bool} {d : Option Nat} {r : Rc} {x y : Nat} {l : List It}

theorem ancOk_spec {last : List Nat} : ∀ (l : List It) (i0 : Nat), ancOk last i0 l = true → ∀ i, i < l.length → i0 + i ∈ last ∨ ∃ (m : Nat) (t : It), i < m ∧ l[m]? = some t ∧ i0 + i ∈ depsOf t.o := by
  intro l
  induction l with
  | nil => intro i0 _ i hi; simp at hi
  | cons t l ih =>
    intro i0 h i hi
    simp only [ancOk, Bool.and_eq_true, Bool.or_eq_true, List.contains_iff_mem, List.any_eq_true] at h
    obtain ⟨h1, h2⟩ := h
    cases i with
    | zero =>
      rcases h1 with h1 | ⟨u, hu, hd⟩
      · exact .inl h1
      · obtain ⟨m, hm, rfl⟩ := List.getElem_of_mem hu
        exact .inr ⟨m + 1, l[m], by omega, by simp [List.getElem?_eq_getElem hm], hd⟩
    | succ i =>
      rcases ih (i0 + 1) h2 i (by simpa using hi) with h | ⟨m, u, hm, hu, hd⟩
      · exact .inl (by rw [show i0 + (i + 1) = i0 + 1 + i by omega]; exact h)
      · exact .inr ⟨m + 1, u, by omega, by simpa using hu, by rw [show i0 + (i + 1) = i0 + 1 + i by omega]; exact hd⟩

theorem drawAnyL {nx : Nat} {ol : Oper} {l : List It} {st : St} {G0 : Nat → Option Value} {F0 : Nat → Nat → Prop} {M0 : Mem} {w0 : World} (hops : ∀ i : Nat, i < l.length → (ops[i]? : Option Oper) = (l[i]?).map fun t => t.o) (hol : ops[l.length]? = some ol) (hn : ops.size = l.length + 1) (hc : Conf l)
    (hlb : ∀ e ∈ depsOf ol, e < l.length) (hanc : ∀ i, i < l.length → i ∈ depsOf ol ∨ ∃ (m : Nat) (t : It), i < m ∧ l[m]? = some t ∧ i ∈ depsOf t.o)
    (his : ∀ i t, l[i]? = some t → OpIs P fr ro ds ops (nx + i) (foldS fr (fun j => decide (j < i)) 0 l st) t)
    (hQ : ∀ G F a w, SimD P fr ds G F (foldS fr (fun _ => true) 0 l st) (nx + l.length) a w → (∀ j, nx + l.length ≤ j → G j = none) → Step (· < fr.base) G0 F0 M0 w0 G F (foldS fr (fun _ => true) 0 l st).mem w →
      if Region.wanted ol (yielded ops a.tmps) = true then ol.wpIn (fc ro) 0 P a w (Post P fr ds G0 F0 M0 w0 Q .normal) (Post P fr ds G0 F0 M0 w0 Q) else (∀ f, ol.about P w a.eval = some f → (fc ro).fn f) ∧ Post P fr ds G0 F0 M0 w0 Q .normal (a.put ol.dst undef) w) :
    ∀ (fuel : Nat) (listed : Array Bool) (G : Nat → Option Value) (F : Nat → Nat → Prop) (a : Act) (w : World), listed.size = l.length + 1 → inS listed l.length = false →
      SimD P fr ds G F (foldS fr (inS listed) 0 l st) (nx + l.length) a w → Step (· < fr.base) G0 F0 M0 w0 G F (foldS fr (inS listed) 0 l st).mem w →
      (∀ j, nx ≤ j → (∀ i, i < l.length → inS listed i = true → j ≠ nx + i) → G j = none) →
      (∀ i t, l[i]? = some t → inS listed i = true → ∀ e ∈ depsOf t.o, inS listed e = true) →
      (List.range l.length).countP (fun i => !inS listed i) + 1 ≤ fuel →
      wpAnyIn (fc ro) 0 P .any ops (Post P fr ds G0 F0 M0 w0 Q) fuel listed a w := by
  have readyOf : ∀ (listed : Array Bool), listed.size = l.length + 1 → ∀ i, i < l.length → (i ∈ Region.ready .any ops listed ↔ inS listed i = false ∧ ∃ t, l[i]? = some t ∧ ∀ e ∈ depsOf t.o, inS listed e = true) := by
    intro listed hsz i hi
    rw [mem_ready]
    constructor
    · rintro ⟨h1, o, ho, h2⟩
      rw [hops i hi] at ho
      obtain ⟨t, ht, rfl⟩ := Option.map_eq_some_iff.1 ho
      refine ⟨?_, t, ht, fun e he => ?_⟩
      · unfold inS
        rw [Array.getD_eq_getD_getElem?] at h1 ⊢
        rw [Array.getElem?_eq_getElem (by omega)] at h1 ⊢
        exact h1
      · simp only [depsOf, List.mem_map, List.mem_filter] at he
        obtain ⟨e', ⟨he1, he2⟩, rfl⟩ := he
        exact h2 e' (by simpa using he1) he2
    · rintro ⟨h1, t, ht, h2⟩
      refine ⟨?_, t.o, by rw [hops i hi, ht]; rfl, fun e he hb => h2 e.on ?_⟩
      · unfold inS at h1
        rw [Array.getD_eq_getD_getElem?] at h1 ⊢
        rw [Array.getElem?_eq_getElem (by omega)] at h1 ⊢
        exact h1
      · simp only [depsOf, List.mem_map, List.mem_filter]
        exact ⟨e, ⟨by simpa using he, hb⟩, rfl⟩
  have readyL : ∀ (listed : Array Bool), listed.size = l.length + 1 → inS listed l.length = false → ((∀ e ∈ depsOf ol, inS listed e = true) → l.length ∈ Region.ready .any ops listed) ∧ (l.length ∈ Region.ready .any ops listed → ∀ e ∈ depsOf ol, inS listed e = true) := by
    intro listed hsz hl0
    refine ⟨fun h2 => ?_, fun h => ?_⟩
    · rw [mem_ready]
      refine ⟨?_, ol, hol, fun e he hb => h2 e.on ?_⟩
      · unfold inS at hl0
        rw [Array.getD_eq_getD_getElem?] at hl0 ⊢
        rw [Array.getElem?_eq_getElem (by omega)] at hl0 ⊢
        exact hl0
      · simp only [depsOf, List.mem_map, List.mem_filter]
        exact ⟨e, ⟨by simpa using he, hb⟩, rfl⟩
    · rw [mem_ready] at h
      obtain ⟨_, o, ho, h2⟩ := h
      rw [hol] at ho
      cases ho
      intro e he
      simp only [depsOf, List.mem_map, List.mem_filter] at he
      obtain ⟨e', ⟨he1, he2⟩, rfl⟩ := he
      exact h2 e' (by simpa using he1) he2
  have readyLt : ∀ (listed : Array Bool) (i : Nat), i ∈ Region.ready .any ops listed → i ≤ l.length := by
    intro listed i hi
    rw [mem_ready] at hi
    obtain ⟨_, o, ho, _⟩ := hi
    have := (Array.getElem?_eq_some_iff.1 ho).1
    omega
  have noneReady : ∀ (listed : Array Bool), listed.size = l.length + 1 → Region.ready .any ops listed = [] → ∀ i, i < l.length → inS listed i = true := by
    intro listed hsz hr i
    induction i using Nat.strongRecOn with
    | _ i ih =>
      intro hi
      cases hs : inS listed i with
      | true => rfl
      | false =>
        have : i ∈ Region.ready .any ops listed := (readyOf listed hsz i hi).2 ⟨hs, l[i], List.getElem?_eq_getElem hi, fun e he => by
          have := hc.back i l[i] (List.getElem?_eq_getElem hi) e he
          exact ih e this (by omega)⟩
        rw [hr] at this; cases this
  intro fuel
  induction fuel with
  | zero =>
    intro listed G F a w hsz hl0 s S hfr hcl hcount
    omega
  | succ fuel ih =>
    intro listed G F a w hsz hl0 s S hfr hcl hcount
    refine ⟨fun hr => ?_, fun i hi => ?_⟩
    · have hall := noneReady listed hsz hr
      have := (readyL listed hsz hl0).1 fun e he => hall e (hlb e he)
      rw [hr] at this; cases this
    by_cases hil : i < l.length
    rotate_left
    · obtain rfl : i = l.length := by have := readyLt listed i hi; omega
      have hd := (readyL listed hsz hl0).2 hi
      have hall : ∀ k i, i < l.length → l.length - i ≤ k → inS listed i = true := by
        intro k
        induction k with
        | zero => intro i h1 h2; omega
        | succ k ihk =>
          intro i h1 h2
          rcases hanc i h1 with h | ⟨m, t, hm, ht, hd'⟩
          · exact hd i h
          · have hml : m < l.length := (List.getElem?_eq_some_iff.1 ht).1
            exact hcl m t ht (ihk m hml (by omega)) i hd'
      have hall : ∀ i, i < l.length → inS listed i = true := fun i h => hall l.length i h (by omega)
      have e : foldS fr (inS listed) 0 l st = foldS fr (fun _ => true) 0 l st := foldS_congr fun m hm => by rw [Nat.zero_add]; exact hall m hm
      rw [e] at s S
      have hq := hQ G F a w s (fun j hj => hfr j (by omega) fun i hi _ => by omega) S
      have hend : ∀ a w, Post P fr ds G0 F0 M0 w0 Q .normal a w → wpAnyIn (fc ro) 0 P .any ops (Post P fr ds G0 F0 M0 w0 Q) fuel (listed.setIfInBounds l.length true) a w := fun a w h => by
        refine wpAnyIn_done ?_ h fuel
        cases hr : Region.ready .any ops (listed.setIfInBounds l.length true) with
        | nil => rfl
        | cons i rs =>
          exfalso
          have hi : i ∈ Region.ready .any ops (listed.setIfInBounds l.length true) := by rw [hr]; exact List.mem_cons_self
          have hile := readyLt _ i hi
          rw [mem_ready] at hi
          have h1 := hi.1
          rw [Array.getD_eq_getD_getElem?, Array.getElem?_setIfInBounds] at h1
          by_cases hie : l.length = i
          · subst hie
            rw [if_pos rfl, if_pos (by omega)] at h1
            cases h1
          · rw [if_neg hie] at h1
            have := hall i (by omega)
            unfold inS at this
            rw [Array.getD_eq_getD_getElem?] at this
            rw [Array.getElem?_eq_getElem (by omega)] at h1 this
            simp only [Option.getD_some] at h1 this
            rw [this] at h1; cases h1
      unfold wpOpIn
      rw [hol]
      simp only
      split at hq
      · rename_i hw
        rw [if_pos hw]
        exact Oper.wpIn_mono hend hq
      · rename_i hw
        rw [if_neg hw]
        exact ⟨hq.1, hend _ _ hq.2⟩
    obtain ⟨hSi, t, ht, hdep⟩ := (readyOf listed hsz i hil).1 hi
    unfold wpOpIn
    rw [hops i hil, ht]
    simp only [Option.map_some]
    have hadd : ∀ j, inS (listed.setIfInBounds i true) j = addS (inS listed) i j := by
      intro j
      unfold inS addS
      simp only [Array.getD_eq_getD_getElem?, Array.getElem?_setIfInBounds]
      by_cases h : i = j
      · subst h
        simp [show i < listed.size by omega]
      · simp [h, Ne.symm h]
    have hfold : foldS fr (inS (listed.setIfInBounds i true)) 0 l st = foldS fr (addS (inS listed) i) 0 l st := foldS_congr fun m _ => hadd _
    have hlook : ∀ x, look fr (foldS fr (inS (listed.setIfInBounds i true)) 0 l st) x = look fr (run1 fr t.o.dst t.r (foldS fr (inS listed) 0 l st)) x := by
      intro x
      rw [hfold]
      refine foldS_add ht hSi (fun m u hu hlt hSm x hx => ?_) x
      cases hw : wrt u.o.dst u.r x with
      | none => rfl
      | some v =>
        exfalso
        rcases hc.edge i m t u ht hu (by omega) x (.inr (wrt_wl hx)) (wrt_wl (by rw [hw]; rfl)) with h | h
        · have := hc.back i t ht m h; omega
        · have := hcl m u hu hSm i h
          rw [hSi] at this; cases this
    refine his i t ht _ G F a w (nx + l.length) _ _ s (by omega) (hfr _ (by omega) fun i' _ hS' he => ?_) (fun x hx => ?_) (fun G' F' a' w' s' S' hfr' => ?_)
    · have : i = i' := by omega
      subst this
      rw [hSi] at hS'; cases hS'
    · rw [look_foldS, look_foldS]
      refine lastW_agree l 0 _ fun m u hu hw => ?_
      rw [Nat.zero_add]
      by_cases hmi : m = i
      · subst hmi; rw [hSi]; simp
      · rcases hc.edge i m t u ht hu (fun h => hmi h.symm) x (.inl hx) (wrt_wl hw) with h | h
        · have := hc.back i t ht m h
          rw [hdep m h]; simp [this]
        · have h1 := hc.back m u hu i h
          cases hSm : inS listed m with
          | false => simp; omega
          | true =>
            have := hcl m u hu hSm i h
            rw [hSi] at this; cases this
    · refine ih _ G' F' a' w' (by simpa using hsz) (by rw [hadd]; simp [addS, hl0]; omega) (s'.ext hlook) ((S.trans (S'.mono fun _ _ => trivial)).ext (look_mem hlook)) (fun j hj hne => ?_) (fun i' t' ht' hS' e he => ?_) ?_
      · refine hfr' j (hne i hil (by rw [hadd]; simp [addS])) (hfr j hj fun i' hi' hS' => hne i' hi' (by rw [hadd]; simp [addS, hS']))
      · rw [hadd] at hS' ⊢
        simp only [addS, Bool.or_eq_true, decide_eq_true_eq] at hS' ⊢
        rcases hS' with hS' | rfl
        · exact .inl (hcl i' t' ht' hS' e he)
        · rw [ht] at ht'; cases ht'
          exact .inl (hdep e he)
      · have := countP_less (p := fun i => !inS listed i) (q := fun j => !inS (listed.setIfInBounds i true) j) hil (by simp [hSi]) (by simp only [hadd]; simp [addS]) (fun j hj => by
          rw [hadd] at hj
          simp only [addS, Bool.not_or, Bool.and_eq_true] at hj
          exact hj.1)
        omega


/-- A region that draws its order; its last operation by any rule. -/
theorem EvC.drawL {idr : Nat} {l : List Oper} {ol : Oper} {its : List It} (hm : P.follows .mixedOrders = true) (ht : Tr P fr ro ds (l ++ [ol]).toArray st.nx l st.clr its st') (hc : confAll its 0 its = true)
    (hlb : (depsOf ol).all (fun e => decide (e < its.length)) = true) (hanc : ancOk (depsOf ol) 0 its = true)
    (hq : XR P fr ro ds (l ++ [ol]).toArray [ol] ⟨st'.vars, st'.tmps, st'.mem, st.nx + its.length⟩ Q) : EvC P fr ro ds (.region idr (l ++ [ol]).toArray true) st Q := by
  intro G0 F0 M0 w0 G F a w S s
  obtain ⟨h1, h2, h3⟩ := ht.spec
  obtain ⟨hm', S'⟩ := simM_drew (w' := { w with drawn := w.drawn + 1 }) (s.clr.sim.mem.more (Nat.le_add_right _ its.length)) rfl ⟨rfl, rfl, rfl, fun _ => rfl⟩
  have hlen : l.length = its.length := by rw [← h1]; simp
  refine wpIn_region_any hm ?_
  have hnone : ∀ i, inS (Array.replicate (l ++ [ol]).toArray.size false) i = false := fun i => by
    unfold inS
    simp only [Array.getD_eq_getD_getElem?, Array.getElem?_replicate]
    split <;> rfl
  have e : foldS fr (inS (Array.replicate (l ++ [ol]).toArray.size false)) 0 its st.clr = st.clr := by
    have : ∀ (l' : List It) (m : Nat) (st : St), foldS fr (inS (Array.replicate (l ++ [ol]).toArray.size false)) m l' st = st := by
      intro l'
      induction l' with
      | nil => intro m st; rfl
      | cons u l' ih => intro m st; simp only [foldS]; rw [hnone]; exact ih _ _
    exact this _ _ _
  refine drawAnyL (ol := ol) (l := its) (nx := st.nx) (st := st.clr) (fun i hi => ?_) (by rw [← hlen]; simp) (by simp [hlen]) (.of hc) (fun e he => by
    rw [List.all_eq_true] at hlb
    exact of_decide_eq_true (hlb e he)) (fun i hi => by
    have := ancOk_spec its 0 hanc i hi
    simpa using this) h2 (fun G F a w s hfr S => ?_) _ _ G F a _ (by simp [hlen]) (hnone _) ?_ ?_ (fun j hj _ => s.fresh j hj) (fun i t _ h => by rw [hnone] at h; cases h) ?_
  · rw [List.getElem?_toArray, List.getElem?_append_left (by omega), ← h1]; simp
  · have hx := hq G0 F0 M0 w0 G F a w (by rw [← h3] at S; exact S) ⟨⟨by rw [h3]; exact s.mem, fun k => by
      have := s.slots k
      rw [← h3] at this
      exact this, s.size⟩, hfr, s.defers⟩
    simp only [wpListIn] at hx
    exact hx
  · rw [e]
    exact ⟨hm', fun k => (s.clr.sim.slots k).step S' (fun _ _ => trivial), s.clr.sim.size, s.clr.defers⟩
  · rw [e]; exact S.trans (S'.mono fun _ _ => trivial)
  · have : (List.range its.length).countP (fun i => !inS (Array.replicate (l ++ [ol]).toArray.size false) i) ≤ its.length := by
      refine Nat.le_trans List.countP_le_length (by simp)
    simp [hlen] at this ⊢
    omega

theorem trun_pre {all : List Oper} : ∀ {l : List Oper} {id : Nat} {st : St} {ok : Bool} {its : List It} {st' : St} {rest : List Oper} {id' : Nat}, trun P fr all l id st = .stop ok its st' rest id' → ok = true →
    ∃ pre, l = pre ++ rest ∧ id' = id + its.length ∧ Tr P fr ro ds all.toArray id pre st its st'
  | [], id, st, ok, its, st', rest, id', h, _ => by simp only [trun] at h; cases h
  | o :: l, id, st, ok, its, st', rest, id', h, hok => by
    have stopCase : trun P fr all (o :: l) id st = .stop true [] st (o :: l) id → ∃ pre, o :: l = pre ++ rest ∧ id' = id + its.length ∧ Tr P fr ro ds all.toArray id pre st its st' := fun h1 => by
      rw [h1] at h; cases h
      exact ⟨[], rfl, rfl, .nil _ _⟩
    have goCase : ∀ {b : Bool} {r : Rc} {rd : List Nat}, trun P fr all (o :: l) id st = (trun P fr all l (id + 1) (run1 fr o.dst r st)).cons b ⟨o, r, rd⟩ →
        (b = true → OpIs P fr ro ds all.toArray id st ⟨o, r, rd⟩) → ∃ pre, o :: l = pre ++ rest ∧ id' = id + its.length ∧ Tr P fr ro ds all.toArray id pre st its st' := by
      intro b r rd h1 h2
      rw [h1] at h
      cases hres : trun P fr all l (id + 1) (run1 fr o.dst r st) with
      | done ok its st1 => rw [hres] at h; simp only [TRes.cons] at h; cases h
      | stop ok1 its1 st1 rest1 id1 =>
        rw [hres] at h
        simp only [TRes.cons] at h
        cases h
        simp only [Bool.and_eq_true] at hok
        obtain ⟨pre, e1, e2, t⟩ := trun_pre hres hok.2
        exact ⟨o :: pre, by rw [e1]; rfl, by rw [e2]; simp; omega, .cons (h2 hok.1) t⟩
    cases hd : dok fr o.dst with
    | false => exact stopCase (by simp only [trun, hd])
    | true =>
      cases hg : o.guard with
      | none =>
        cases he : efRc id (xop P fr st true id o) with
        | none => exact stopCase (by simp only [trun, hd, hg, he])
        | some p =>
          obtain ⟨b, r⟩ := p
          exact goCase (by simp only [trun, hd, hg, he]) fun hb => .op hg hd he hb rfl
      | some p =>
        obtain ⟨j, want⟩ := p
        cases hj : gslot all.toArray j with
        | none => exact stopCase (by simp only [trun, hd, hg, hj])
        | some k =>
          cases hk : gval want (st.get fr k) with
          | none => exact stopCase (by simp only [trun, hd, hg, hj, hk])
          | some g =>
            cases he : efRcG g (xop P fr st g id o) with
            | none => exact stopCase (by simp only [trun, hd, hg, hj, hk, he])
            | some p =>
              obtain ⟨b, r⟩ := p
              exact goCase (by simp only [trun, hd, hg, hj, hk, he]) fun hb => .guard hg hj hk hd he hb rfl

/-- Operations one behind the other, as far as the rest that is named. -/
def TrTo (P : Program) (fr : Fr) (ro : Option Nat) (ds : DS) (ops : Array Oper) (id : Nat) (l : List Oper) (st : St) (its : List It) (st' : St) (rest : List Oper) : Prop :=
  ∃ pre, l = pre ++ rest ∧ Tr P fr ro ds ops id pre st its st'
theorem TrTo.here {l : List Oper} : TrTo P fr ro ds ops id l st [] st l := ⟨[], rfl, .nil _ _⟩
theorem TrTo.cons {l rest : List Oper} {rd : List Nat} {its : List It} (h : OpIs P fr ro ds ops id st ⟨o, r, rd⟩) (t : TrTo P fr ro ds ops (id + 1) l (run1 fr o.dst r st) its st' rest) : TrTo P fr ro ds ops id (o :: l) st (⟨o, r, rd⟩ :: its) st' rest := by
  obtain ⟨pre, rfl, t⟩ := t
  exact ⟨o :: pre, rfl, .cons h t⟩
theorem TrTo.run {all l rest rest' : List Oper} {ok : Bool} {its its2 : List It} {id' : Nat} {st2 : St} (h : trun P fr all l id st = .stop ok its st' rest id') (hok : ok = true) (t : TrTo P fr ro ds all.toArray id' rest st' its2 st2 rest') : TrTo P fr ro ds all.toArray id l st (its ++ its2) st2 rest' := by
  obtain ⟨pre, e1, e2, t1⟩ := trun_pre (ro := ro) (ds := ds) h hok
  obtain ⟨pre2, e3, t2⟩ := t
  subst e3
  subst e1
  exact ⟨pre ++ pre2, by rw [List.append_assoc], t1.append e2 t2⟩

/-- The same, of a region as it stands. -/
theorem EvC.drl {idr : Nat} {all : List Oper} {ol : Oper} {its : List It} (hm : P.follows .mixedOrders = true) (ht : TrTo P fr ro ds all.toArray st.nx all st.clr its st' [ol]) (hc : confAll its 0 its = true)
    (hlb : (depsOf ol).all (fun e => decide (e < its.length)) = true) (hanc : ancOk (depsOf ol) 0 its = true)
    (hq : XR P fr ro ds all.toArray [ol] ⟨st'.vars, st'.tmps, st'.mem, st.nx + its.length⟩ Q) : EvC P fr ro ds (.region idr all.toArray true) st Q := by
  obtain ⟨pre, rfl, t⟩ := ht
  exact .drawL hm t hc hlb hanc hq
end
end Go.Avl
namespace Go.Avl
open Go

/-- Cell j of box k keeps the front of an object: a new object, of the front alone. -/
def St.shrinkC (k j : Nat) (st : St) : Option St :=
  match mlook st.mem k with
  | some (.cells cs) => match cs[j]? with
    | some (.tv i n 0 len .rest) => match mlook st.mem i with
      | some (.arr esz es false) => if n = es.length then some ⟨st.vars, st.tmps, mset ((st.nx, .arr esz (es.take len) false) :: mdel st.mem i) k (.cells (cs.set j (.tl st.nx len false))), st.nx + 1⟩ else none
      | _ => none
    | _ => none
  | _ => none

section
variable {P : Program} {fr : Fr} {ro : Option Nat} {ds : DS} {st st' : St} {Q Q' : Exit → St → Prop} {G G' : Nat → Option Value} {F F' : Nat → Nat → Prop} {a : Act} {w w' : World} {x y c : Code} {M : Mem}
  {ops : Array Oper} {l rest : List Oper}

theorem simM_shrink {nx i esz n len b c' : Nat} {es : List (List AV)} (hm : SimM P G F M nx w) (hf : ∀ j, nx ≤ j → G j = none) (ho : mlook M i = some (.arr esz es false)) (hG : G i = some (.slice (some ⟨b, 0, none⟩) n c')) (hc0 : c' ≠ 0) (hn : n = es.length) (hlen : len ≤ n) :
    SimM P (upG G nx (.slice (some ⟨b, 0, none⟩) len c')) F ((nx, .arr esz (es.take len) false) :: mdel M i) (nx + 1) w ∧ Step All G F M w (upG G nx (.slice (some ⟨b, 0, none⟩) len c')) F ((nx, .arr esz (es.take len) false) :: mdel M i) w := by
  have htl : (es.take len).length = len := by rw [List.length_take]; omega
  have hob := (hm.obj i _ ho)
  have hne : i ≠ nx := Nat.ne_of_lt hob.1
  obtain ⟨G1, hG1⟩ : ∃ G1, G1 = upG G nx (.slice (some ⟨b, 0, none⟩) len c') := ⟨_, rfl⟩
  obtain ⟨M1, hM1⟩ : ∃ M1 : Mem, M1 = (nx, .arr esz (es.take len) false) :: mdel M i := ⟨_, rfl⟩
  rw [← hG1, ← hM1]
  have hlk : ∀ j, mlook M1 j = if j = nx then some (.arr esz (es.take len) false) else if j = i then none else mlook M j := fun j => by
    rw [hM1]; simp only [mlook]
    by_cases hj : j = nx
    · rw [if_pos hj, if_pos hj]
    · rw [if_neg hj, if_neg hj, mlook_mdel']
  have hgo : ∀ j, j ≠ nx → G1 j = G j := fun j hj => by rw [hG1, upG_other G _ hj]
  have hgs : G1 nx = some (.slice (some ⟨b, 0, none⟩) len c') := by rw [hG1, upG_self]
  have hbk : blkOf (.slice (some ⟨b, 0, none⟩) n c') = some b := by simp [blkOf, hc0]
  have hbk0 : blkOf (.slice (some ⟨b, 0, none⟩) len c') = some b := by simp [blkOf, hc0]
  have S : Step All G F M w G1 F M1 w :=
    { kept := .refl
      size := Nat.le_refl _
      out := fun _ _ _ => rfl
      F1 := fun _ _ h => h
      F2 := fun _ _ _ => rfl
      F3 := fun _ _ h => .inl h
      own := fun b' ⟨id, o, v, h1, h2, h3⟩ => by
        rw [hlk] at h1
        by_cases hj : id = nx
        · subst hj
          rw [hgs] at h2; cases h2
          rw [hbk0] at h3; cases h3
          exact .inr ⟨i, _, _, ho, hG, hbk⟩
        · rw [if_neg hj] at h1
          rw [hgo id hj] at h2
          split at h1
          · cases h1
          · exact .inr ⟨id, o, v, h1, h2, h3⟩
      some' := fun id _ hid => by
        by_cases hj : id = nx
        · subst hj; rw [hgs]; simp
        · rw [hgo id hj]; exact hid
      same := fun id v _ hid _ => by
        have hj : id ≠ nx := fun e => by rw [e, hf _ (Nat.le_refl _)] at hid; cases hid
        rw [hgo id hj]; exact hid
      keep := fun id o' _ hid h1 => by
        have hj : id ≠ nx := fun e => hid (by rw [e]; exact hf _ (Nat.le_refl _))
        rw [hlk, if_neg hj] at h1
        obtain ⟨v, hv⟩ := Option.ne_none_iff_exists'.1 hid
        split at h1
        · cases h1
        · exact ⟨o', v, v, h1, hv, (hgo id hj).trans hv, objKeep.refl v o'⟩ }
  have hm' : SimM P G1 F M1 (nx + 1) w := by
    refine simM_gen hm S (fun id o' h1 => ?_) (fun id id' v v' b' h1 h2 h3 h4 h5 h6 => ?_) hm.inF
    · rw [hlk] at h1
      by_cases hj : id = nx
      · subst hj
        rw [if_pos rfl] at h1; cases h1
        refine ⟨Nat.lt_succ_self _, .inl ?_⟩
        rcases hob.2 with ⟨_, base, h1, _⟩ | ⟨b2, c2, cc, e, k1, k2, k3, k4, k5, k6, k7, k8, k9⟩
        · rw [hG] at h1; cases h1; exact absurd rfl hc0
        · rw [hG] at k1; cases k1
          refine .inr ⟨b, c', cc, e, by rw [hgs, htl], hc0, k3, by rw [htl]; omega, k5, fun i h => by rw [List.getElem_take]; exact k6 _ _, fun i j h hj => ?_, fun o h => ?_, fun h => by cases h⟩
          · simp only [List.getElem_take] at hj ⊢
            obtain ⟨v, q1, q2, q3⟩ := k7 i j (by rw [htl] at h; omega) hj
            exact ⟨v, q1, q2, q3.step S fun _ _ => trivial⟩
          · have := (k8 o h).1
            cases this
      · rw [if_neg hj] at h1
        split at h1
        · cases h1
        · exact ⟨Nat.lt_succ_of_lt (hm.obj id o' h1).1, .inr ⟨h1, hgo id hj, fun b v _ _ => ⟨rfl, fun _ h => h⟩⟩⟩
    · have back : ∀ {id : Nat} {v : Value}, mlook M1 id ≠ none → G1 id = some v → blkOf v = some b' → (id = nx ∧ b' = b) ∨ (id ≠ nx ∧ id ≠ i ∧ mlook M id ≠ none ∧ G id = some v) := fun {id v} q1 q2 q3 => by
        by_cases hj : id = nx
        · subst hj
          rw [hgs] at q2; cases q2
          rw [hbk0] at q3; cases q3
          exact .inl ⟨rfl, rfl⟩
        · rw [hlk, if_neg hj] at q1
          rw [hgo id hj] at q2
          by_cases hi : id = i
          · rw [if_pos hi] at q1; exact absurd rfl q1
          · rw [if_neg hi] at q1; exact .inr ⟨hj, hi, q1, q2⟩
      have hio : mlook M i ≠ none := by rw [ho]; simp
      rcases back h1 h3 h5 with ⟨e1, e2⟩ | ⟨q1, q2, q3, q4⟩ <;> rcases back h2 h4 h6 with ⟨e3, e4⟩ | ⟨p1, p2, p3, p4⟩
      · rw [e1, e3]
      · subst e2
        exact absurd (hm.inj id' i _ _ _ p3 hio p4 hG h6 hbk) p2
      · subst e4
        exact absurd (hm.inj id i _ _ _ q3 hio q4 hG h5 hbk) q2
      · exact hm.inj id id' _ _ _ q3 p3 q4 p4 h5 h6
  exact ⟨hm', S⟩

theorem SimA.shrinkC {k j : Nat} (s : SimA P fr ds G F st a w) (h : st.shrinkC k j = some st') : ∃ G', SimA P fr ds G' F st' a w ∧ Step (· < fr.base) G F st.mem w G' F st'.mem w := by
  unfold St.shrinkC at h
  split at h
  · rename_i cs hok
    split at h
    · rename_i i n len hj
      split at h
      · rename_i esz es ho
        split at h
        rotate_left
        · cases h
        rename_i hn
        cases h
        obtain ⟨hin, b, cc, el, k1, k2, k3, k4, k5⟩ := s.sim.mem.obj k _ hok
        obtain ⟨hjl, hjv⟩ := List.getElem?_eq_some_iff.1 hj
        have hv := k4 j (by omega) hjl
        rw [hjv] at hv
        obtain ⟨hG0, hh⟩ := hv.inv_tv
        obtain ⟨hol, b', c, hG, hc0, c', hval, _, hcp⟩ := (hh _ _ _ ho).2 hn
        replace hc0 : c ≠ 0 := hc0.resolve_right fun h => by cases h.2.1
        have hcc : c' = c := by
          rcases hcp with h | h | ⟨_, h⟩
          · cases h
          · cases h
          · omega
        subst hcc
        rw [Nat.zero_mul] at hval
        have hki : k ≠ i := fun e => by rw [e, ho] at hok; cases hok
        obtain ⟨hm', S'⟩ := simM_shrink (len := len) s.sim.mem s.fresh ho hG hc0 hn (by omega)
        have hne : k ≠ st.nx := Nat.ne_of_lt hin
        obtain ⟨M1, hM1⟩ : ∃ M1 : Mem, M1 = ((st.nx, RObj.arr esz (es.take len) false) :: mdel st.mem i) := ⟨_, rfl⟩
        obtain ⟨G1, hG1⟩ : ∃ G1, G1 = upG G st.nx (.slice (some ⟨b', 0, none⟩) len c') := ⟨_, rfl⟩
        rw [← hM1, ← hG1] at hm' S'
        have ho1 : mlook M1 k = some (.cells cs) := by rw [hM1, mlook_cons, if_neg hne, mlook_mdel', if_neg hki]; exact hok
        have hgi : G1 k = some (.pointer (some ⟨b, 0, none⟩)) := by rw [hG1, upG_other G _ hne]; exact k1
        have harr : ∀ {id esz' es fz}, mlook (mset M1 k (.cells (cs.set j (.tl st.nx len false)))) id = some (.arr esz' es fz) → mlook M1 id = some (.arr esz' es fz) := fun {id esz' es fz} h => by
          rw [mlook_mset] at h
          split at h
          · cases h
          · exact h
        have hrv : ∀ {v : Value} {x : AV}, RV G1 F M1 w v x → RV G1 F (mset M1 k (.cells (cs.set j (.tl st.nx len false)))) w v x := fun h => by
          induction h with
          | imm h => exact .imm h
          | ag vs cs hl _ ih => exact .ag vs cs hl ih
          | tu vs cs hl _ ih => exact .tu vs cs hl ih
          | ifc t v x _ ih => exact .ifc t v x ih
          | fn f vs cs hl _ ih => exact .fn f vs cs hl ih
          | opt b v x _ h' ih => exact .opt b v x ih h'
          | rf id off b h => exact .rf id off b h
          | tl id len nl v hG h => exact .tl id len nl v hG fun esz es fz ho => h esz es fz (harr ho)
          | tv id n off len cap v hG h => exact .tv id n off len cap v hG fun esz es fz ho => h esz es fz (harr ho)
          | ea id n i off v hG h => exact .ea id n i off v hG fun esz es fz ho => h esz es fz (harr ho)
          | mp id b h => exact .mp id b h
        have hsome : ∀ id, mlook (mset M1 k (.cells (cs.set j (.tl st.nx len false)))) id ≠ none → mlook M1 id ≠ none := fun id h he => by
          rw [mlook_mset] at h
          split at h
          · rename_i e; subst e; rw [ho1] at he; cases he
          · exact h he
        have hobj : ∀ {id o}, ObjOk P G1 F M1 w id o → ObjOk P G1 F (mset M1 k (.cells (cs.set j (.tl st.nx len false)))) w id o := fun {id o} h => by
          cases o with
          | cells cs => obtain ⟨b, c, e, k1, k2, k3, k4, k5⟩ := h; exact ⟨b, c, e, k1, k2, k3, fun i a b => hrv (k4 i a b), k5⟩
          | arr esz es fz =>
            rcases h with h | ⟨b, c, cc, e, k1, k2, k3, k4, k5, k6, k7, k8⟩
            · exact .inl h
            · exact .inr ⟨b, c, cc, e, k1, k2, k3, k4, k5, k6, fun i j a b => let ⟨v, x, y, z⟩ := k7 i j a b; ⟨v, x, y, hrv z⟩, k8⟩
          | map kt es => obtain ⟨b, ents, clock, k1, k2, k3, k4, k5⟩ := h; exact ⟨b, ents, clock, k1, k2, k3, fun i a b => let ⟨x, y, z⟩ := k4 i a b; ⟨x, hrv y, z⟩, k5⟩
        have S2 : Step All G1 F M1 w G1 F (mset M1 k (.cells (cs.set j (.tl st.nx len false)))) w :=
          { kept := .refl, size := Nat.le_refl _
            out := fun _ _ _ => rfl
            F1 := fun _ _ h => h
            F2 := fun _ _ _ => rfl
            F3 := fun _ _ h => .inl h
            own := fun b ⟨id, o, v, h1, h2, h3⟩ => .inr (by
              obtain ⟨o', ho'⟩ := Option.ne_none_iff_exists'.1 (hsome id (by rw [h1]; simp))
              exact ⟨id, o', v, ho', h2, h3⟩)
            some' := fun _ _ h => h
            same := fun _ _ _ h _ => h
            keep := fun id o _ hG h1 => by
              obtain ⟨v, hvG⟩ := Option.ne_none_iff_exists'.1 hG
              rw [mlook_mset] at h1
              by_cases e : id = k
              · rw [if_pos e] at h1
                cases h1
                subst e
                exact ⟨_, v, v, ho1, hvG, hvG, rfl⟩
              · rw [if_neg e] at h1
                exact ⟨o, v, v, h1, hvG, hvG, objKeep.refl v o⟩ }
        have htl : (es.take len).length = len := by rw [List.length_take]; omega
        rw [← hM1]
        refine ⟨G1, ⟨⟨⟨fun id o h => ?_, fun id id' v v' b h1 h2 => hm'.inj id id' v v' b (hsome _ h1) (hsome _ h2), hm'.inF, hm'.gl⟩, fun k => hrv ((s.sim.slots k).step S' fun _ _ => trivial), s.sim.size⟩, fun k hk => ?_, s.defers⟩, (S'.trans S2).mono fun _ _ => trivial⟩
        · rw [mlook_mset] at h
          by_cases e : id = k
          · rw [if_pos e] at h
            cases h
            subst e
            refine ⟨Nat.lt_succ_of_lt hin, b, cc, el, hgi, k2, by rw [List.length_set]; exact k3, fun q q1 q2 => ?_, k5⟩
            by_cases hq : q = j
            · subst hq
              rw [List.getElem_set_self, hval]
              refine .tl st.nx len false _ (by rw [hG1, upG_self]; simp) fun esz' es' fz hx => ?_
              rw [mlook_mset, if_neg (Ne.symm hne), hM1, mlook_cons, if_pos rfl] at hx; cases hx
              exact ⟨by rw [htl]; exact Nat.le_refl _, fun _ => ⟨by rw [hG1]; exact upG_self _ _ _, rfl⟩⟩
            · rw [List.getElem_set_ne (Ne.symm hq)]
              exact hrv ((k4 q q1 (by simpa using q2)).step S' fun _ _ => trivial)
          · rw [if_neg e] at h
            exact ⟨(hm'.obj id o h).1, hobj (hm'.obj id o h).2⟩
        · have hk : st.nx + 1 ≤ k := hk
          rw [hG1, upG_other G _ (by omega)]; exact s.fresh k (by omega)
      · cases h
    · cases h
  · cases h
theorem EvC.shrinkC (k j : Nat) {st' : St} (h : st.shrinkC k j = some st') (hc : EvC P fr ro ds c st' Q) : EvC P fr ro ds c st Q :=
  EvC.conv (fun _ F _ _ s => let ⟨G', s', S'⟩ := s.shrinkC h; ⟨G', F, s', S'⟩) hc
attribute [go_sem] St.shrinkC
end
end Go.Avl
namespace Go.Avl
open Go

/-- The newest slice of object i, as a view. -/
def tvOf (M : Mem) (i : Nat) : AV → AV
  | .tl j n b => if j = i ∧ n ≠ 0 then match mlook M i with
    | some (.arr _ es _) => if n = es.length then .tv i n 0 n .rest else .tl j n b
    | _ => .tl j n b else .tl j n b
  | v => v
def St.toTv (i : Nat) (st : St) : St := ⟨st.vars, st.tmps, memMap (tvOf st.mem i) st.mem, st.nx⟩
section
variable {P : Program} {fr : Fr} {ro : Option Nat} {ds : DS} {st st' : St} {Q Q' : Exit → St → Prop} {G G' : Nat → Option Value} {F F' : Nat → Nat → Prop} {a : Act} {w w' : World} {c : Code}
theorem tvOf_rv {M : Mem} {nx i : Nat} (hm : SimM P G F M nx w) {v : Value} {y : AV} (h : RV G F M w v y) : RV G F M w v (tvOf M i y) := by
  unfold tvOf
  split
  · rename_i j n b
    split
    · rename_i hj
      obtain ⟨rfl, h0⟩ := hj
      split
      · rename_i esz es fz ho
        split
        · rename_i hn
          exact h.tl_tv hm ho hn h0
        · exact h
      · exact h
    · exact h
  · exact h
theorem EvC.toTv (i : Nat) (hc : EvC P fr ro ds c (st.toTv i) Q) : EvC P fr ro ds c st Q :=
  EvC.conv (fun _ F _ _ s => let ⟨s', S'⟩ := s.memMap (f := tvOf st.mem i) fun _ _ h => tvOf_rv s.sim.mem h; ⟨_, F, s', S'⟩) hc
/-- Ways that meet again: behind code that ends in one of some states, by their shape. -/
theorem EvC.mergeS {α : Type} (sh : α → St) (ok : α → Prop) (L : List Nat) (nx : Nat) {c rest : Code} (h1 : EvC P fr ro ds c st (fun e st' => e = .normal ∧ ∃ (K : List (Nat × Nat)) (a : α), gcOk fr.base nx K = true ∧ st'.gc L K nx = sh a ∧ ok a))
    (h2 : ∀ a, ok a → EvC P fr ro ds rest (sh a) Q) : EvC P fr ro ds (.seq c rest) st Q :=
  .seq (h1.mono fun e st' ⟨he, K, a, hk, hs, ha⟩ => by
    subst he
    show EvC P fr ro ds rest st' Q
    exact .gc L K nx hk (by rw [hs]; exact h2 a ha))
/-- The same, the ways' ends carried over by any rules. -/
theorem EvC.mergeC {α : Type} (sh : α → St) (ok : α → Prop) {c rest : Code} (h1 : EvC P fr ro ds c st (fun e st' => e = .normal ∧ ∃ a : α, ok a ∧ ∀ (c : Code) (Q : Exit → St → Prop), EvC P fr ro ds c (sh a) Q → EvC P fr ro ds c st' Q))
    (h2 : ∀ a, ok a → EvC P fr ro ds rest (sh a) Q) : EvC P fr ro ds (.seq c rest) st Q :=
  .seq (h1.mono fun e st' ⟨he, a, ha, hc⟩ => by
    subst he
    exact hc _ _ (h2 a ha))
theorem EvC.gcE {c : Code} {Q : Exit → St → Prop} (L : List Nat) (K : List (Nat × Nat)) (nx : Nat) {st2 : St} (hk : gcOk fr.base nx K = true) (he : st.gc L K nx = st2) (h : EvC P fr ro ds c st2 Q) : EvC P fr ro ds c st Q := .gc L K nx hk (by rw [he]; exact h)
end
attribute [go_sem] St.toTv tvOf
end Go.Avl
namespace Go.Avl
open Go

/-- The result is a whole new object. -/
def newRes (F : Nat → Nat → Prop) (w : World) (esz : Nat) (es : List (List AV)) (e : Ending) (w' : World) : Prop :=
  ∃ (b c : Nat) (cc : Array Value) (elem : TypeId) (F' : Nat → Nat → Prop), e = .returned (.slice (some ⟨b, 0, none⟩) es.length c) ∧ c ≠ 0 ∧ w.heap.size ≤ b ∧ w'.heap[b]? = some (.cells cc elem (0, 0)) ∧ es.length ≤ c ∧ cc.size = c * esz ∧
    (∀ i (h : i < es.length), es[i].length = esz) ∧ (∀ i j (h : i < es.length) (h' : j < es[i].length), ∃ v, cc[i * esz + j]? = some v ∧ v.oneCell' = true ∧ Imm F' w' v es[i][j]) ∧ (∀ o, ¬ F' b o) ∧ Grown F w F' w'
def PureNew (P : Program) (f : FuncId) (args : List AV) (esz : Nat) (es : List (List AV)) : Prop :=
  callable P f ∧ ∀ F w vals, FOk F w → Imms F w vals args → CallsIn Fence.wide 0 P f vals.toArray w fun e w' => newRes F w esz es e w'
def retN (P : Program) (fr : Fr) (results : List ResultVar) (esz : Nat) (es : List (List AV)) (e : Exit) (st : St) : Prop :=
  (e = .ret ∨ e = .normal) ∧ ∃ (r0 : AV) (i : Nat), resAllR P fr st results = some [r0] ∧ (r0 = .tl i es.length false ∨ r0 = .tv i es.length 0 es.length .rest) ∧ mlook st.mem i = some (.arr esz es false) ∧ es.length ≠ 0 ∧ es.all AV.norefs = true

section
variable {P : Program} {fr : Fr} {ro : Option Nat} {ds : DS} {st st' : St} {Q Q' : Exit → St → Prop} {G G' : Nat → Option Value} {F F' : Nat → Nat → Prop} {a : Act} {w w' : World} {M M' : Mem}
  {ops : Array Oper} {l rest : List Oper} {o : Oper} {N id : Nat} {rd gs : List Nat}

/-- Such a contract, from the body. -/
theorem PureNew.of {c : Code} {f : FuncId} {fn : Func} {args : List AV} {esz : Nat} {es : List (List AV)} {nv : Nat} {hid : List Nat} (hf : P.funcs[f]? = some fn) (hb : fn.body = some c) (hnm : (fn.name == "runtime.NumGoroutine") = false) (hsz : args.length ≤ fn.ntmps)
    (h : ∀ h0 : Nat, EvC P ⟨0, nv, hid, fn.ntmps⟩ none ⟨h0, none, false⟩ c (st0 args) (retN P ⟨0, nv, hid, fn.ntmps⟩ fn.results.toList esz es)) : PureNew P f args esz es := by
  refine ⟨callable_of hf hnm (by rw [hb]; rfl), fun F w vals hF hi => ?_⟩
  obtain ⟨hl, hi⟩ := hi
  have s0 : SimA P ⟨0, nv, hid, fn.ntmps⟩ ⟨w.heap.size, none, false⟩ (fun _ => none) F (st0 args) { tmps := vals.toArray ++ Array.replicate (fn.ntmps - vals.toArray.size) undef, defers := [] } w := by
    refine ⟨⟨⟨fun id o h => (by cases h), fun id id' v v' b h => absurd rfl h, hF.1, hF.2⟩, fun k => ?_, by simp; omega⟩, fun _ _ => rfl, Marks.none _ _ _ (Nat.le_refl _)⟩
    have key : ∀ x, (x = .junk ∨ ∃ h : k < args.length, x = args[k]) → RV (fun _ => none) F (st0 args).mem w ((vals.toArray ++ Array.replicate (fn.ntmps - vals.toArray.size) undef).getD k undef) x := by
      rintro x (rfl | ⟨hk, rfl⟩)
      · exact .imm (.junk _)
      · have : (vals.toArray ++ Array.replicate (fn.ntmps - vals.toArray.size) undef).getD k undef = vals[k]'(by omega) := by
          rw [Array.getD_eq_getD_getElem?, Array.getElem?_append_left (by simp; omega)]
          simp [List.getElem?_eq_getElem (show k < vals.length by omega)]
        rw [this]
        exact .imm (hi k (by omega) hk)
    refine key _ ?_
    unfold St.get
    split
    · rcases alook_vars0 args 0 k with h | ⟨h1, h2, h3⟩
      · exact .inl h
      · exact .inr ⟨by simpa using h1, by simpa [st0] using h3⟩
    · exact .inl rfl
  refine callsIn_of_wp_marks (F := Fence.wide) hf hb trivial (wpIn_mono (h _ _ _ _ _ _ _ _ _ .refl s0) ?_)
  rintro e a' w' ⟨G', F', st', s', S', he, r0, i, hrs, hr0, ho, hne, hnr⟩
  have hown : ∀ b, Owned G' st'.mem b → w.heap.size ≤ b := fun b hb => (S'.own b hb).elim id fun ⟨_, _, _, h, _⟩ => by cases h
  have g : ∀ w2 : World, w.heap.size ≤ w2.heap.size → (∀ b, b < w.heap.size → w2.heap[b]? = w.heap[b]?) → Kept w w2 → (∀ b o, F' b o → b < w2.heap.size) → Grown F w F' w2 := fun w2 h1 h2 h3 h4 =>
    ⟨h1, h2, S'.F1, fun b o h => by
      rcases S'.F3 b o h with h | h | ⟨_, _, _, h, _⟩
      · exact .inl h
      · exact .inr h
      · exact (by cases h), h4, h3⟩
  have hfin : ∀ (Ds : List Nat) (w2 : World), Ds.Nodup → (∀ D ∈ Ds, w.heap.size ≤ D ∧ w2.heap[D]? = some (.deferred (some []))) → w.heap.size ≤ w2.heap.size → (∀ b, b < w.heap.size → w2.heap[b]? = w.heap[b]?) → Kept w w2 →
      SimA P ⟨0, nv, hid, fn.ntmps⟩ ⟨w.heap.size, none, false⟩ G' F' st' { a' with defers := [] } w2 →
      LeavesInM Fence.wide 0 P fn a'.tmps (fun e w' => newRes F w esz es e w') (Ds.map dmark) .returning w2 := by
    intro Ds
    induction Ds with
    | nil =>
      intro w2 _ _ h1 h2 h3 s2
      obtain ⟨u, k1, k2⟩ := resultsR_ok s2 hrs
      have hu : u = u := rfl
      refine ⟨u, k1, ?_⟩
      have k2 : RV G' F' st'.mem w2 u r0 := k2
      have hv : G' i = some u ∧ isNilSlice u = false := by
        rcases hr0 with rfl | rfl
        · obtain ⟨_, hh⟩ := k2.inv_tl
          obtain ⟨q1, q2⟩ := (hh _ _ _ ho).2 rfl
          exact ⟨q1, q2.symm⟩
        · obtain ⟨_, hh⟩ := k2.inv_tv
          obtain ⟨_, b, c, hG, hc0, c', hval, _, hcp⟩ := (hh _ _ _ ho).2 rfl
          subst hval
          have hc0 : c ≠ 0 := hc0.resolve_right fun h => hne h.1
          rcases hcp with h | h | ⟨h, _⟩
          · cases h
          · cases h
          · have : c' = c := by omega
            subst this
            exact ⟨by rw [hG, Nat.zero_mul], rfl⟩
      obtain ⟨hGi, _⟩ := hv
      rcases (s2.sim.mem.obj i _ ho).2 with ⟨h0, _⟩ | ⟨b, c, cc, el, q1, q2, q3, q4, q5, q6, q7, q8, _⟩
      · subst h0; exact absurd rfl hne
      · rw [hGi] at q1
        cases q1
        refine ⟨b, c, cc, el, F', rfl, q2, hown b ⟨i, _, _, ho, hGi, by simp [blkOf, q2]⟩, q3, q4, q5, q6, fun k j hk hj => ?_, fun o hF => (by cases (q8 o hF).1), g w2 h1 h2 h3 s2.sim.mem.inF⟩
        obtain ⟨v, hv, h1c, hr⟩ := q7 k j hk hj
        exact ⟨v, hv, h1c, hr.imm_of (all_norefs hnr k j hk hj)⟩
    | cons D Ds ih =>
      intro w2 hnd hD h1 h2 h3 s2
      obtain ⟨d1, d2⟩ := hD D List.mem_cons_self
      have hnd := List.nodup_cons.1 hnd
      have hk : ∀ (b : Nat) (o : Obj), w2.heap[b]? = some o → isData o = true → (w2.putObj D (.deferred none)).heap[b]? = some o := fun b o hb ho => by
        rw [World.putObj_heap_other (by rintro rfl; rw [d2] at hb; cases hb; cases ho)]; exact hb
      refine ⟨(by intro h; cases h), .inl ⟨D, _, rfl, run_takeDeferred d2, ih _ hnd.2 (fun D' hD' => ?_) (by rw [World.putObj_size]; exact h1) (fun b hb => ?_) (h3.trans (.set d2 rfl rfl)) ?_⟩⟩
      · refine ⟨(hD D' (List.mem_cons_of_mem _ hD')).1, ?_⟩
        rw [World.putObj_heap_other (by rintro rfl; exact hnd.1 hD')]; exact (hD D' (List.mem_cons_of_mem _ hD')).2
      · rw [World.putObj_heap_other (by omega)]; exact h2 b hb
      · exact ⟨⟨s2.sim.mem.keepData hk (by rw [World.putObj_size]; exact Nat.le_refl _), fun k => (s2.sim.slots k).keepData hk, s2.sim.size⟩, s2.fresh, Marks.none _ _ _ (by rw [World.putObj_size]; exact h1)⟩
  obtain ⟨⟨Ds, hDs, hnd, hD⟩, _⟩ := s'.defers
  have := hfin Ds w' hnd hD S'.size (fun b hb => S'.out b hb (fun ⟨_, _, _, h, _⟩ => by cases h)) S'.kept ⟨⟨s'.sim.mem, s'.sim.slots, s'.sim.size⟩, s'.fresh, Marks.none _ _ _ S'.size⟩
  rw [← hDs] at this
  rcases he with rfl | rfl
  · exact this
  · exact this

/-- A new object in a block that came with a call. -/
theorem simM_grownNew {nx b : Nat} (hm : SimM P G F M nx w) (g : Grown F w F' w') (hid : G id = none) (hn : id < nx) (h : Value) (ob : RObj) (hb : blkOf h = some b) (hb1 : w.heap.size ≤ b)
    (S' : Step All G F M w (upG G id h) F' ((id, ob) :: M) w' → ObjOk P (upG G id h) F' ((id, ob) :: M) w' id ob) :
    SimM P (upG G id h) F' ((id, ob) :: M) nx w' ∧ Step All G F M w (upG G id h) F' ((id, ob) :: M) w' := by
  have hne : ∀ j, G j ≠ none → j ≠ id := fun j hj e => hj (e ▸ hid)
  have S : Step All G F M w (upG G id h) F' ((id, ob) :: M) w' :=
    { kept := g.kept
      size := g.size
      out := fun b hb _ => g.old b hb
      F1 := g.F1
      F2 := fun b o' hF => cell?_same (g.old b (hm.inF b o' hF)) o'
      F3 := fun b o h => (g.F3 b o h).imp (fun h => h) fun h => .inl h
      own := fun b1 ⟨j, o', v, ho, hv, hbv⟩ => by
        by_cases e : j = id
        · subst e
          rw [upG_self] at hv; cases hv
          rw [hb] at hbv; cases hbv
          exact .inl hb1
        · rw [mlook_cons, if_neg e] at ho
          rw [upG_other G h e] at hv
          exact .inr ⟨j, o', v, ho, hv, hbv⟩
      some' := fun j _ hj => by rw [upG_other G h (hne j hj)]; exact hj
      same := fun j v _ hj _ => by rw [upG_other G h (hne j (by simp [hj]))]; exact hj
      keep := fun j o' _ hj ho => by
        have e := hne j hj
        rw [mlook_cons, if_neg e] at ho
        cases hv : G j with
        | none => exact absurd hv hj
        | some v => exact ⟨o', v, v, ho, rfl, by rw [upG_other G h e]; exact hv, objKeep.refl v o'⟩ }
  refine ⟨simM_gen hm S (fun j o' ho => ?_) (fun i j v v' b1 hi hj hv hv' hbv hbv' => ?_) g.inF, S⟩
  · by_cases e : j = id
    · subst e
      rw [mlook_cons, if_pos rfl] at ho; cases ho
      exact ⟨hn, .inl (S' S)⟩
    · rw [mlook_cons, if_neg e] at ho
      refine ⟨(hm.obj j o' ho).1, .inr ⟨ho, upG_other G h e, fun b1 v hv hbv => ?_⟩⟩
      have hlt : b1 < w.heap.size := hm.lt ⟨j, o', v, ho, hv, hbv⟩
      exact ⟨g.old b1 hlt, fun o h => by rcases g.F3 b1 o h with h | h; exact h; omega⟩
  · have old : ∀ j v, j ≠ id → mlook ((id, ob) :: M) j ≠ none → upG G id h j = some v → mlook M j ≠ none ∧ G j = some v := fun j v e h1 h2 =>
      ⟨by rwa [mlook_cons, if_neg e] at h1, by rwa [upG_other G h e] at h2⟩
    have lt : ∀ j v, mlook M j ≠ none → G j = some v → blkOf v = some b1 → b1 < w.heap.size := fun j v h1 h2 h3 => by
      cases ho : mlook M j with
      | none => exact absurd ho h1
      | some o' => exact hm.lt ⟨j, o', v, ho, h2, h3⟩
    by_cases ei : i = id
    · by_cases ej : j = id
      · rw [ei, ej]
      · subst ei
        rw [upG_self] at hv; cases hv
        obtain ⟨h1, h2⟩ := old j v' ej hj hv'
        have := lt j v' h1 h2 hbv'
        rw [hb] at hbv; cases hbv
        omega
    · by_cases ej : j = id
      · subst ej
        rw [upG_self] at hv'; cases hv'
        obtain ⟨h1, h2⟩ := old i v ei hi hv
        have := lt i v h1 h2 hbv
        rw [hb] at hbv'; cases hbv'
        omega
      · obtain ⟨h1, h2⟩ := old i v ei hi hv
        obtain ⟨h3, h4⟩ := old j v' ej hj hv'
        exact hm.inj i j v v' b1 h1 h3 h2 h4 hbv hbv'

theorem SimD.callN {f : FuncId} {cs : List AV} {callee : Operand} {args : Array Operand} {tys : Array TypeId} {xs : List AV} {esz : Nat} {es : List (List AV)} {K : Act → World → Prop} {Q1 : Exit → Act → World → Prop}
    (s : SimD P fr ds G F st N a w) (hN : id < N) (hid : G id = none) (hop : o.op = .call ⟨.value callee, args, tys⟩) (hd : dok fr o.dst = true) (hcal : od fr st true callee = .fn f cs)
    (hxs : callArgs fr st args ++ cs = xs) (hn : AV.norefs xs = true) (hc : PureNew P f xs esz es)
    (h : ∀ G' F' a' w', SimD P fr ds G' F' (run1 fr o.dst ⟨.tl id es.length false, some (id, .arr esz es false)⟩ st) N a' w' → Step All G F st.mem w G' F' (run1 fr o.dst ⟨.tl id es.length false, some (id, .arr esz es false)⟩ st).mem w' → (∀ j, j ≠ id → G j = none → G' j = none) → K a' w') : o.wpIn (fc ro) 0 P a w K Q1 := by
  refine ⟨fun _ _ => trivial, ?_⟩
  rw [Oper.semAt_eq _ _ _ (by rw [hop]; intro c h; cases h)]
  have hv := (s.eval callee).unopt
  have hv : RV G F st.mem w (a.eval callee) (.fn f cs) := by unfold od at hcal; rwa [hcal] at hv
  obtain ⟨vs, hev, hl, hcs⟩ := hv.inv_fn
  have hrun : (execOp a.eval o).run P w = .ok (.enter f ((args.toList.map a.eval ++ vs).toArray)) w := by
    obtain ⟨dst, op, ty, pos, after, guard⟩ := o
    simp only at hop
    subst hop
    simp only [execOp, resolve, hev, Deferred.ofValue, Sem.run_bind, Sem.run_pure, Result.andThen_ok, invoke]
    rw [hc.1]
    congr 2
    apply Array.ext'
    simp
  rw [hrun]
  have hi : Imms F w (args.toList.map a.eval ++ vs) xs := by
    subst hxs
    refine .of_rv (G := G) (M := st.mem) (by simp [callArgs, hl]) (fun i h1 h2 => ?_) hn
    by_cases hlt : i < args.toList.length
    · rw [List.getElem_append_left (by simpa using hlt), List.getElem_append_left (by simpa [callArgs] using hlt)]
      simp only [callArgs, List.getElem_map]
      exact ((s.eval _).unopt).snap s.mem
    · rw [List.getElem_append_right (by simpa using hlt), List.getElem_append_right (by simpa [callArgs] using hlt)]
      simp only [List.length_map, callArgs]
      exact hcs _ _ _
  refine ⟨fun h => by simp [fc, Fence.wide] at h, callsIn_fc ((hc.2 F w _ s.mem.fok hi).mono ?_)⟩
  rintro e w' ⟨b, c, cc, el, F', rfl, q2, qb, q3, q4, q5, q6, q7, q8, g⟩
  obtain ⟨hm', S'⟩ := simM_grownNew (id := id) s.mem g hid hN (.slice (some ⟨b, 0, none⟩) es.length c) (.arr esz es false) (by simp [blkOf, q2]) qb fun S =>
    .inr ⟨b, c, cc, el, upG_self _ _ _, q2, q3, q4, q5, q6, fun i j hi hj => by
      obtain ⟨v, k1, k2, k3⟩ := q7 i j hi hj
      exact ⟨v, k1, k2, .imm k3⟩, fun o hF => absurd hF (q8 o), fun hz => by cases hz⟩
  have hmid : mlook st.mem id = none := s.mem.noM hid
  obtain ⟨s1, S1⟩ := s.put (d := o.dst) (r := ⟨.tl id es.length false, some (id, .arr esz es false)⟩) (u := .slice (some ⟨b, 0, none⟩) es.length c) hm' (fun i => by
    simp only [Rc.mem]
    rw [mlook_mset, mlook_cons]) S' hd (.tl id es.length false _ (by rw [upG_self]; simp) fun esz' es' fz' ho => by
      rw [mlook_cons, if_pos rfl] at ho; cases ho
      exact ⟨Nat.le_refl _, fun _ => ⟨upG_self _ _ _, rfl⟩⟩)
  exact h _ _ _ w' s1 S1 fun j hj hG => by rw [upG_other G _ hj]; exact hG

/-- A call whose result is a new object. -/
theorem OpIs.callN {f : FuncId} {cs : List AV} {callee : Operand} {args : Array Operand} {tys : Array TypeId} {xs : List AV} {esz : Nat} {es : List (List AV)} (hg : o.guard = none) (hop : o.op = .call ⟨.value callee, args, tys⟩) (hd : dok fr o.dst = true)
    (hcal : od fr st true callee = .fn f cs) (hxs : callArgs fr st args ++ cs = xs) (hn : AV.norefs xs = true) (hrd : rdOf fr st [] o = rd) (hc : PureNew P f xs esz es) : OpIs P fr ro ds ops id st ⟨o, ⟨.tl id es.length false, some (id, .arr esz es false)⟩, rd⟩ := by
  intro st' G F a w N K Q1 s hN hG hl h
  simp only [Region.wanted, hg, if_true]
  obtain ⟨e1, e2⟩ := callArgs_look (gs := []) (by rw [hrd]; exact hl) hop
  exact s.callN hN hG hop hd (by rw [e1]; exact hcal) (by rw [e2]; exact hxs) hn hc h
end
end Go.Avl
namespace Go.Avl
open Go

section
variable {P : Program} {fr : Fr} {ro : Option Nat} {ds : DS} {st st' : St} {Q Q' : Exit → St → Prop} {G G' : Nat → Option Value} {F F' : Nat → Nat → Prop} {a : Act} {w w' : World} {M M' : Mem}
  {ops : Array Oper} {l rest : List Oper} {o : Oper} {N id : Nat} {rd gs : List Nat}

/-- What a function that clips does to a slice, whatever it holds. -/
def Clips (P : Program) (f : FuncId) : Prop := ∀ (a : Addr) (n c : Nat), n ≤ c → (n : Int) < 1000000 → PureIs P f [.sc (.slice (some a) n c)] (.sc (.slice (some a) n n))
theorem OpIs.clip {f : FuncId} {callee x : Operand} {tys : Array TypeId} {i n esz : Nat} {nl fz : Bool} {es : List (List AV)} (hg : o.guard = none) (hop : o.op = .call ⟨.value callee, #[x], tys⟩) (hd : dok fr o.dst = true)
    (hcal : od fr st true callee = .fn f []) (hx : od fr st true x = .tl i n nl) (ho : mlook st.mem i = some (.arr esz es fz)) (hn : n = es.length) (h0 : n ≠ 0) (hlt : (n : Int) < 1000000) (hrd : rdOf fr st [] o = rd) (hc : Clips P f) :
    OpIs P fr ro ds ops id st ⟨o, ⟨.tv i n 0 n (.val n), none⟩, rd⟩ := by
  intro st' G F a w N K Q1 s hN hG hl h
  simp only [Region.wanted, hg, if_true]
  have hs := opSame_look (gs := []) (by rw [hrd]; exact hl) (by rw [hop]; rfl) (by rw [hop]; rfl)
  rw [hop] at hs
  have e1 : od fr st' true callee = .fn f [] := by rw [(hs.od (x := callee) (by simp [Op.operands, Call.operands]) true).1, hcal]
  obtain ⟨e2, e3⟩ := hs.od (x := x) (by simp [Op.operands, Call.operands]) true
  have e4 : mlook st'.mem i = some (.arr esz es fz) := by rw [e3 i (by rw [hx]; simp [AV.ids])]; exact ho
  rw [hx] at e2
  refine ⟨fun _ _ => trivial, ?_⟩
  rw [Oper.semAt_eq _ _ _ (by rw [hop]; intro c h; cases h)]
  have hv := (s.eval callee).unopt
  have hv : RV G F st'.mem w (a.eval callee) (.fn f []) := by unfold od at e1; rwa [e1] at hv
  obtain ⟨vs, hev, hl2, _⟩ := hv.inv_fn
  have hvs : vs = [] := by cases vs with
    | nil => rfl
    | cons a l => simp at hl2
  subst hvs
  have hxv := (s.eval x).unopt
  have hxv : RV G F st'.mem w (a.eval x) (.tl i n nl) := by unfold od at e2; rwa [e2] at hxv
  obtain ⟨hGi, hnl, va, vc, hval, hcase⟩ := tl_handle s.mem hxv e4 hn
  rcases hcase with ⟨h1, _⟩ | ⟨b, cc, el, rfl, k2, k3, k4, _⟩
  · subst h1; exact absurd hn h0
  have hrun : (execOp a.eval o).run P w = .ok (.enter f #[a.eval x]) w := by
    obtain ⟨dst, op, ty, pos, after, guard⟩ := o
    simp only at hop
    subst hop
    simp only [execOp, resolve, hev, Deferred.ofValue, Sem.run_bind, Sem.run_pure, Result.andThen_ok, invoke]
    rw [(hc ⟨b, 0, none⟩ n vc (by omega) hlt).1]
    congr 2
    all_goals (apply Array.ext'; simp)
  rw [hrun]
  rw [← hn] at hval
  have hi : Imms F w [a.eval x] [.sc (.slice (some ⟨b, 0, none⟩) n vc)] := ⟨rfl, fun j h1 h2 => by
    have : j = 0 := by simp at h1; omega
    subst this
    simp only [List.getElem_cons_zero]
    rw [hval, hn]; exact .sc _⟩
  refine ⟨fun h => by simp [fc, Fence.wide] at h, callsIn_fc (((hc ⟨b, 0, none⟩ n vc (by omega) hlt).2 F w _ s.mem.fok hi).mono ?_)⟩
  rintro e w' ⟨u, F', rfl, hu, g⟩
  obtain ⟨hm', S'⟩ := simM_grown s.mem g
  have hu' : u = .slice (some ⟨b, 0, none⟩) n n := by cases hu; rfl
  subst hu'
  obtain ⟨s1, S1⟩ := s.put (d := o.dst) (r := ⟨.tv i n 0 n (.val n), none⟩) (u := .slice (some ⟨b, 0, none⟩) n n) hm' (fun _ => rfl) S' hd (.tv i n 0 n _ _ (by rw [hGi]; simp) fun esz' es' fz' ho' => by
    rw [e4] at ho'; cases ho'
    exact ⟨by omega, fun _ => ⟨by omega, b, vc, by rw [hGi, hval, hn], .inl k2, n, by rw [Nat.zero_mul], Nat.le_refl _, .inr (.inl rfl)⟩⟩)
  exact h G F' _ w' s1 S1 (fun _ _ h => h)
end
end Go.Avl
namespace Go.Avl
open Go

/-- Operation i waits for m, at once or through others. -/
inductive Anc (l : List It) : Nat → Nat → Prop
  | base {i m : Nat} {t : It} (h : l[i]? = some t) (hm : m ∈ depsOf t.o) : Anc l i m
  | step {i e m : Nat} {t : It} (h : l[i]? = some t) (he : e ∈ depsOf t.o) (h2 : Anc l e m) : Anc l i m
def ancB (l : List It) : Nat → Nat → Nat → Bool
  | 0, _, _ => false
  | k + 1, i, m => match l[i]? with
    | none => false
    | some t => (depsOf t.o).contains m || (depsOf t.o).any fun e => ancB l k e m
theorem ancB_spec {l : List It} : ∀ {k i m : Nat}, ancB l k i m = true → Anc l i m
  | 0, _, _, h => by cases h
  | k + 1, i, m, h => by
    simp only [ancB] at h
    split at h
    · cases h
    · rename_i t ht
      rw [Bool.or_eq_true] at h
      rcases h with h | h
      · exact .base ht (by simpa using h)
      · rw [List.any_eq_true] at h
        obtain ⟨e, he, h⟩ := h
        exact .step ht he (ancB_spec h)
structure ConfA (l : List It) : Prop where
  back : ∀ i t, l[i]? = some t → ∀ e ∈ depsOf t.o, e < i
  edge : ∀ i m t u, l[i]? = some t → l[m]? = some u → i ≠ m → ∀ x, (x ∈ t.rd ∨ x ∈ wl t.o.dst t.r) → x ∈ wl u.o.dst u.r → Anc l i m ∨ Anc l m i
theorem ConfA.lt {l : List It} (hc : ConfA l) {i m : Nat} (h : Anc l i m) : m < i := by
  induction h with
  | base h hm => exact hc.back _ _ h _ hm
  | step h he _ ih => have := hc.back _ _ h _ he; omega
theorem Anc.closed {l : List It} {p : Nat → Bool} (hcl : ∀ i t, l[i]? = some t → p i = true → ∀ e ∈ depsOf t.o, p e = true) {i m : Nat} (h : Anc l i m) (hi : p i = true) : p m = true := by
  induction h with
  | base h hm => exact hcl _ _ h hi _ hm
  | step h he _ ih => exact ih (hcl _ _ h hi _ he)
theorem Anc.ready {l : List It} {p : Nat → Bool} (hcl : ∀ i t, l[i]? = some t → p i = true → ∀ e ∈ depsOf t.o, p e = true) {i m : Nat} {t : It} (h : Anc l i m) (ht : l[i]? = some t) (hd : ∀ e ∈ depsOf t.o, p e = true) : p m = true := by
  cases h with
  | base h hm => rw [ht] at h; cases h; exact hd _ hm
  | step h he h2 => rw [ht] at h; cases h; exact h2.closed hcl (hd _ he)
def confOneA (all : List It) (i : Nat) (t : It) : Nat → List It → Bool
  | _, [] => true
  | m, u :: l => (i == m || !((t.rd ++ wl t.o.dst t.r).any fun x => (wl u.o.dst u.r).contains x) || ancB all 4 i m || ancB all 4 m i) && confOneA all i t (m + 1) l
def confAllA (all : List It) : Nat → List It → Bool
  | _, [] => true
  | i, t :: l => (depsOf t.o).all (fun e => decide (e < i)) && confOneA all i t 0 all && confAllA all (i + 1) l

section
variable {P : Program} {fr : Fr} {ro : Option Nat} {ds : DS} {st st' : St} {Q : Exit → St → Prop} {G G' : Nat → Option Value} {F F' : Nat → Nat → Prop} {a : Act} {w w' : World}
  {M M' : Mem} {ops : Array Oper} {o : Oper} {id N : Nat} {S S' : Nat → Bool} {d : Option Nat} {r : Rc} {x y : Nat} {l : List It}

theorem confOneA_spec {all : List It} {i : Nat} {t : It} : ∀ (l : List It) (m0 : Nat), confOneA all i t m0 l = true → ∀ m u, l[m]? = some u → i ≠ m0 + m → ∀ x, (x ∈ t.rd ∨ x ∈ wl t.o.dst t.r) → x ∈ wl u.o.dst u.r → Anc all i (m0 + m) ∨ Anc all (m0 + m) i := by
  intro l
  induction l with
  | nil => intro m0 _ m u hm; simp at hm
  | cons u0 l ih =>
    intro m0 h m u hm hne x hx hu
    simp only [confOneA, Bool.and_eq_true] at h
    cases m with
    | zero =>
      have e : u0 = u := by simpa using hm
      subst e
      have h1 := h.1
      simp only [Bool.or_eq_true, beq_iff_eq, Bool.not_eq_true'] at h1
      rcases h1 with ((h1 | h1) | h1) | h1
      · exact absurd h1 (by simpa using hne)
      · rw [List.any_eq_false] at h1
        exact absurd (by simpa using hu) (h1 x (List.mem_append.2 hx))
      · exact .inl (ancB_spec h1)
      · exact .inr (ancB_spec h1)
    | succ m =>
      have := ih (m0 + 1) h.2 m u (by simpa using hm) (by omega) x hx hu
      rwa [show m0 + 1 + m = m0 + (m + 1) by omega] at this
theorem confAllA_spec {all : List It} : ∀ (l : List It) (i0 : Nat), confAllA all i0 l = true → ∀ i t, l[i]? = some t → (∀ e ∈ depsOf t.o, e < i0 + i) ∧ confOneA all (i0 + i) t 0 all = true := by
  intro l
  induction l with
  | nil => intro i0 _ i t ht; simp at ht
  | cons t0 l ih =>
    intro i0 h i t ht
    simp only [confAllA, Bool.and_eq_true, List.all_eq_true, decide_eq_true_eq] at h
    cases i with
    | zero =>
      have e : t0 = t := by simpa using ht
      subst e
      exact ⟨h.1.1, h.1.2⟩
    | succ i =>
      have := ih (i0 + 1) h.2 i t (by simpa using ht)
      rwa [show i0 + 1 + i = i0 + (i + 1) by omega] at this
theorem ConfA.of (h : confAllA l 0 l = true) : ConfA l where
  back := fun i t ht => by simpa using (confAllA_spec l 0 h i t ht).1
  edge := fun i m t u ht hu hne x hx hxu => by
    have := confOneA_spec l 0 (by simpa using (confAllA_spec l 0 h i t ht).2) m u hu (by simpa using hne) x hx hxu
    simpa using this

theorem drawAnyA {nx : Nat} {l : List It} {st : St} {G0 : Nat → Option Value} {F0 : Nat → Nat → Prop} {M0 : Mem} {w0 : World} (hops : ∀ i : Nat, (ops[i]? : Option Oper) = (l[i]?).map fun t => t.o) (hn : ops.size = l.length) (hc : ConfA l)
    (his : ∀ i t, l[i]? = some t → OpIs P fr ro ds ops (nx + i) (foldS fr (fun j => decide (j < i)) 0 l st) t)
    (hQ : ∀ G F a w, SimD P fr ds G F (foldS fr (fun _ => true) 0 l st) (nx + l.length) a w → (∀ j, nx + l.length ≤ j → G j = none) → Step (· < fr.base) G0 F0 M0 w0 G F (foldS fr (fun _ => true) 0 l st).mem w → Post P fr ds G0 F0 M0 w0 Q .normal a w) :
    ∀ (fuel : Nat) (listed : Array Bool) (G : Nat → Option Value) (F : Nat → Nat → Prop) (a : Act) (w : World), listed.size = l.length →
      SimD P fr ds G F (foldS fr (inS listed) 0 l st) (nx + l.length) a w → Step (· < fr.base) G0 F0 M0 w0 G F (foldS fr (inS listed) 0 l st).mem w →
      (∀ j, nx ≤ j → (∀ i, i < l.length → inS listed i = true → j ≠ nx + i) → G j = none) →
      (∀ i t, l[i]? = some t → inS listed i = true → ∀ e ∈ depsOf t.o, inS listed e = true) →
      (List.range l.length).countP (fun i => !inS listed i) ≤ fuel →
      wpAnyIn (fc ro) 0 P .any ops (Post P fr ds G0 F0 M0 w0 Q) fuel listed a w := by
  have allDone : ∀ (listed : Array Bool) (G : Nat → Option Value) (F : Nat → Nat → Prop) (a : Act) (w : World), SimD P fr ds G F (foldS fr (inS listed) 0 l st) (nx + l.length) a w → Step (· < fr.base) G0 F0 M0 w0 G F (foldS fr (inS listed) 0 l st).mem w →
      (∀ j, nx ≤ j → (∀ i, i < l.length → inS listed i = true → j ≠ nx + i) → G j = none) → (∀ i, i < l.length → inS listed i = true) → Post P fr ds G0 F0 M0 w0 Q .normal a w := by
    intro listed G F a w s S hfr hall
    have e : foldS fr (inS listed) 0 l st = foldS fr (fun _ => true) 0 l st := foldS_congr fun m hm => by rw [Nat.zero_add]; exact hall m hm
    rw [e] at s S
    exact hQ G F a w s (fun j hj => hfr j (by omega) fun i hi _ => by omega) S
  have readyOf : ∀ (listed : Array Bool), listed.size = l.length → ∀ i, i ∈ Region.ready .any ops listed ↔ inS listed i = false ∧ ∃ t, l[i]? = some t ∧ ∀ e ∈ depsOf t.o, inS listed e = true := by
    intro listed hsz i
    rw [mem_ready]
    constructor
    · rintro ⟨h1, o, ho, h2⟩
      rw [hops] at ho
      obtain ⟨t, ht, rfl⟩ := Option.map_eq_some_iff.1 ho
      have hi : i < l.length := (List.getElem?_eq_some_iff.1 ht).1
      refine ⟨?_, t, ht, fun e he => ?_⟩
      · unfold inS
        rw [Array.getD_eq_getD_getElem?] at h1 ⊢
        rw [Array.getElem?_eq_getElem (by omega)] at h1 ⊢
        exact h1
      · simp only [depsOf, List.mem_map, List.mem_filter] at he
        obtain ⟨e', ⟨he1, he2⟩, rfl⟩ := he
        exact h2 e' (by simpa using he1) he2
    · rintro ⟨h1, t, ht, h2⟩
      have hi : i < l.length := (List.getElem?_eq_some_iff.1 ht).1
      refine ⟨?_, t.o, by rw [hops, ht]; rfl, fun e he hb => h2 e.on ?_⟩
      · unfold inS at h1
        rw [Array.getD_eq_getD_getElem?] at h1 ⊢
        rw [Array.getElem?_eq_getElem (by omega)] at h1 ⊢
        exact h1
      · simp only [depsOf, List.mem_map, List.mem_filter]
        exact ⟨e, ⟨by simpa using he, hb⟩, rfl⟩
  have noneReady : ∀ (listed : Array Bool), listed.size = l.length → Region.ready .any ops listed = [] → ∀ i, i < l.length → inS listed i = true := by
    intro listed hsz hr i
    induction i using Nat.strongRecOn with
    | _ i ih =>
      intro hi
      cases hs : inS listed i with
      | true => rfl
      | false =>
        have : i ∈ Region.ready .any ops listed := (readyOf listed hsz i).2 ⟨hs, l[i], List.getElem?_eq_getElem hi, fun e he => by
          have := hc.back i l[i] (List.getElem?_eq_getElem hi) e he
          exact ih e this (by omega)⟩
        rw [hr] at this; cases this
  intro fuel
  induction fuel with
  | zero =>
    intro listed G F a w hsz s S hfr hcl hcount
    have hall : ∀ i, i < l.length → inS listed i = true := by
      intro i hi
      have h0 : (List.range l.length).countP (fun i => !inS listed i) = 0 := by omega
      rw [List.countP_eq_zero] at h0
      have := h0 i (by simpa using hi)
      simpa using this
    refine ⟨?_, allDone listed G F a w s S hfr hall⟩
    cases hr : Region.ready .any ops listed with
    | nil => rfl
    | cons i rs =>
      have := (readyOf listed hsz i).1 (by rw [hr]; exact List.mem_cons_self)
      obtain ⟨h1, t, ht, _⟩ := this
      rw [hall i (List.getElem?_eq_some_iff.1 ht).1] at h1; cases h1
  | succ fuel ih =>
    intro listed G F a w hsz s S hfr hcl hcount
    refine ⟨fun hr => allDone listed G F a w s S hfr (noneReady listed hsz hr), fun i hi => ?_⟩
    obtain ⟨hSi, t, ht, hdep⟩ := (readyOf listed hsz i).1 hi
    have hil : i < l.length := (List.getElem?_eq_some_iff.1 ht).1
    unfold wpOpIn
    rw [hops, ht]
    simp only [Option.map_some]
    have hadd : ∀ j, inS (listed.setIfInBounds i true) j = addS (inS listed) i j := by
      intro j
      unfold inS addS
      simp only [Array.getD_eq_getD_getElem?, Array.getElem?_setIfInBounds]
      by_cases h : i = j
      · subst h
        simp [show i < listed.size by omega]
      · simp [h, Ne.symm h]
    have hfold : foldS fr (inS (listed.setIfInBounds i true)) 0 l st = foldS fr (addS (inS listed) i) 0 l st := foldS_congr fun m _ => hadd _
    have hlook : ∀ x, look fr (foldS fr (inS (listed.setIfInBounds i true)) 0 l st) x = look fr (run1 fr t.o.dst t.r (foldS fr (inS listed) 0 l st)) x := by
      intro x
      rw [hfold]
      refine foldS_add ht hSi (fun m u hu hlt hSm x hx => ?_) x
      cases hw : wrt u.o.dst u.r x with
      | none => rfl
      | some v =>
        exfalso
        rcases hc.edge i m t u ht hu (by omega) x (.inr (wrt_wl hx)) (wrt_wl (by rw [hw]; rfl)) with h | h
        · have := hc.lt h; omega
        · have := h.closed hcl hSm
          rw [hSi] at this; cases this
    refine his i t ht _ G F a w (nx + l.length) _ _ s (by omega) (hfr _ (by omega) fun i' _ hS' he => ?_) (fun x hx => ?_) (fun G' F' a' w' s' S' hfr' => ?_)
    · have : i = i' := by omega
      subst this
      rw [hSi] at hS'; cases hS'
    · rw [look_foldS, look_foldS]
      refine lastW_agree l 0 _ fun m u hu hw => ?_
      rw [Nat.zero_add]
      by_cases hmi : m = i
      · subst hmi; rw [hSi]; simp
      · rcases hc.edge i m t u ht hu (fun h => hmi h.symm) x (.inl hx) (wrt_wl hw) with h | h
        · have := hc.lt h
          rw [h.ready hcl ht hdep]; simp [this]
        · have h1 := hc.lt h
          cases hSm : inS listed m with
          | false => simp; omega
          | true =>
            have := h.closed hcl hSm
            rw [hSi] at this; cases this
    · refine ih _ G' F' a' w' (by simpa using hsz) (s'.ext hlook) ((S.trans (S'.mono fun _ _ => trivial)).ext (look_mem hlook)) (fun j hj hne => ?_) (fun i' t' ht' hS' e he => ?_) ?_
      · refine hfr' j (hne i hil (by rw [hadd]; simp [addS])) (hfr j hj fun i' hi' hS' => hne i' hi' (by rw [hadd]; simp [addS, hS']))
      · rw [hadd] at hS' ⊢
        simp only [addS, Bool.or_eq_true, decide_eq_true_eq] at hS' ⊢
        rcases hS' with hS' | rfl
        · exact .inl (hcl i' t' ht' hS' e he)
        · rw [ht] at ht'; cases ht'
          exact .inl (hdep e he)
      · have := countP_less (p := fun i => !inS listed i) (q := fun j => !inS (listed.setIfInBounds i true) j) hil (by simp [hSi]) (by simp only [hadd]; simp [addS]) (fun j hj => by
          rw [hadd] at hj
          simp only [addS, Bool.not_or, Bool.and_eq_true] at hj
          exact hj.1)
        omega

/-- A region that draws its order. -/
theorem EvC.drawA {idr : Nat} {l : List Oper} {its : List It} (hm : P.follows .mixedOrders = true) (ht : Tr P fr ro ds l.toArray st.nx l st.clr its st') (hc : confAllA its 0 its = true)
    (hq : Q .normal ⟨st'.vars, st'.tmps, st'.mem, st.nx + its.length⟩) : EvC P fr ro ds (.region idr l.toArray true) st Q := by
  intro G0 F0 M0 w0 G F a w S s
  obtain ⟨h1, h2, h3⟩ := ht.spec
  obtain ⟨hm', S'⟩ := simM_drew (w' := { w with drawn := w.drawn + 1 }) (s.clr.sim.mem.more (Nat.le_add_right _ its.length)) rfl ⟨rfl, rfl, rfl, fun _ => rfl⟩
  have hlen : l.length = its.length := by rw [← h1]; simp
  refine wpIn_region_any hm ?_
  have hnone : ∀ i, inS (Array.replicate l.toArray.size false) i = false := fun i => by
    unfold inS
    simp only [Array.getD_eq_getD_getElem?, Array.getElem?_replicate]
    split <;> rfl
  have e : foldS fr (inS (Array.replicate l.toArray.size false)) 0 its st.clr = st.clr := by
    have : ∀ (l' : List It) (m : Nat) (st : St), foldS fr (inS (Array.replicate l.toArray.size false)) m l' st = st := by
      intro l'
      induction l' with
      | nil => intro m st; rfl
      | cons u l' ih => intro m st; simp only [foldS]; rw [hnone]; exact ih _ _
    exact this _ _ _
  refine drawAnyA (l := its) (nx := st.nx) (st := st.clr) (fun i => by rw [← h1]; simp) (by simp [hlen]) (ConfA.of hc) h2 (fun G F a w s hfr S => ?_) _ _ G F a _ (by simp [hlen]) ?_ ?_ (fun j hj _ => s.fresh j hj) (fun i t _ h => by rw [hnone] at h; cases h) ?_
  · refine ⟨G, F, _, ⟨⟨?_, fun k => ?_, s.size⟩, hfr, s.defers⟩, ?_, hq⟩
    · rw [h3]; exact s.mem
    · have := s.slots k
      rw [← h3] at this
      exact this
    · rw [← h3] at S; exact S
  · rw [e]
    exact ⟨hm', fun k => (s.clr.sim.slots k).step S' (fun _ _ => trivial), s.clr.sim.size, s.clr.defers⟩
  · rw [e]; exact S.trans (S'.mono fun _ _ => trivial)
  · refine Nat.le_trans List.countP_le_length (by simp [hlen])

theorem EvC.drwA {id : Nat} {l : List Oper} {its : List It} (hm : P.follows .mixedOrders = true) (ht : Tr P fr ro ds l.toArray st.nx l st.clr its st') (hc : confAllA its 0 its = true) (hq : Q .normal (st'.fin (st.nx + its.length))) : EvC P fr ro ds (.region id l.toArray true) st Q :=
  .clrQ (.drawA hm ht hc hq)
end
end Go.Avl
namespace Go.Avl
open Go

theorem Imm.nil_inv {F : Nat → Nat → Prop} {w : World} {v : Value} {c : Cp} (h : Imm F w v (.sl true [] c)) : ∃ va, v = .slice va 0 0 ∧ true = isNilSlice v := by
  cases h with
  | nil _ _ => exact ⟨none, rfl, rfl⟩

section
variable {P : Program} {fr : Fr} {ro : Option Nat} {ds : DS} {st st' : St} {Q Q' : Exit → St → Prop} {G G' : Nat → Option Value} {F F' : Nat → Nat → Prop} {a : Act} {w w' : World} {M M' : Mem}
  {ops : Array Oper} {l rest : List Oper} {o : Oper} {N id : Nat} {rd gs : List Nat}

/-- A new object without a block, that came with a call. -/
theorem simM_grownZ {nx : Nat} (hm : SimM P G F M nx w) (g : Grown F w F' w') (hid : G id = none) (hn : id < nx) (h : Value) (ob : RObj) (hb : blkOf h = none)
    (S' : Step All G F M w (upG G id h) F' ((id, ob) :: M) w' → ObjOk P (upG G id h) F' ((id, ob) :: M) w' id ob) :
    SimM P (upG G id h) F' ((id, ob) :: M) nx w' ∧ Step All G F M w (upG G id h) F' ((id, ob) :: M) w' := by
  have hne : ∀ j, G j ≠ none → j ≠ id := fun j hj e => hj (e ▸ hid)
  have S : Step All G F M w (upG G id h) F' ((id, ob) :: M) w' :=
    { kept := g.kept
      size := g.size
      out := fun b hb _ => g.old b hb
      F1 := g.F1
      F2 := fun b o' hF => cell?_same (g.old b (hm.inF b o' hF)) o'
      F3 := fun b o h => (g.F3 b o h).imp (fun h => h) fun h => .inl h
      own := fun b1 ⟨j, o', v, ho, hv, hbv⟩ => by
        by_cases e : j = id
        · subst e
          rw [upG_self] at hv; cases hv
          rw [hb] at hbv; cases hbv
        · rw [mlook_cons, if_neg e] at ho
          rw [upG_other G h e] at hv
          exact .inr ⟨j, o', v, ho, hv, hbv⟩
      some' := fun j _ hj => by rw [upG_other G h (hne j hj)]; exact hj
      same := fun j v _ hj _ => by rw [upG_other G h (hne j (by simp [hj]))]; exact hj
      keep := fun j o' _ hj ho => by
        have e := hne j hj
        rw [mlook_cons, if_neg e] at ho
        cases hv : G j with
        | none => exact absurd hv hj
        | some v => exact ⟨o', v, v, ho, rfl, by rw [upG_other G h e]; exact hv, objKeep.refl v o'⟩ }
  refine ⟨simM_gen hm S (fun j o' ho => ?_) (fun i j v v' b1 hi hj hv hv' hbv hbv' => ?_) g.inF, S⟩
  · by_cases e : j = id
    · subst e
      rw [mlook_cons, if_pos rfl] at ho; cases ho
      exact ⟨hn, .inl (S' S)⟩
    · rw [mlook_cons, if_neg e] at ho
      refine ⟨(hm.obj j o' ho).1, .inr ⟨ho, upG_other G h e, fun b1 v hv hbv => ?_⟩⟩
      have hlt : b1 < w.heap.size := hm.lt ⟨j, o', v, ho, hv, hbv⟩
      exact ⟨g.old b1 hlt, fun o h => by rcases g.F3 b1 o h with h | h; exact h; omega⟩
  · have nn : ∀ {j v b}, upG G id h j = some v → blkOf v = some b → j ≠ id := fun {j v b} hg hb1 e => by
      subst e; rw [upG_self] at hg; cases hg; rw [hb] at hb1; cases hb1
    have e1 := nn hv hbv
    have e2 := nn hv' hbv'
    rw [mlook_cons, if_neg e1] at hi
    rw [mlook_cons, if_neg e2] at hj
    rw [upG_other G _ e1] at hv
    rw [upG_other G _ e2] at hv'
    exact hm.inj i j v v' b1 hi hj hv hv' hbv hbv'

theorem SimD.callZ {f : FuncId} {cs : List AV} {callee : Operand} {args : Array Operand} {tys : Array TypeId} {xs : List AV} {esz : Nat} {nl : Bool} {r : AV} {K : Act → World → Prop} {Q1 : Exit → Act → World → Prop}
    (s : SimD P fr ds G F st N a w) (hN : id < N) (hid : G id = none) (hop : o.op = .call ⟨.value callee, args, tys⟩) (hd : dok fr o.dst = true) (hcal : od fr st true callee = .fn f cs)
    (hxs : callArgs fr st args ++ cs = xs) (hn : AV.norefs xs = true) (hz : ∀ {F w v}, Imm F w v r → ∃ va, v = .slice va 0 0 ∧ nl = isNilSlice v) (hc : PureIs P f xs r)
    (h : ∀ G' F' a' w', SimD P fr ds G' F' (run1 fr o.dst ⟨.tl id 0 nl, some (id, .arr esz [] true)⟩ st) N a' w' → Step All G F st.mem w G' F' (run1 fr o.dst ⟨.tl id 0 nl, some (id, .arr esz [] true)⟩ st).mem w' → (∀ j, j ≠ id → G j = none → G' j = none) → K a' w') : o.wpIn (fc ro) 0 P a w K Q1 := by
  refine ⟨fun _ _ => trivial, ?_⟩
  rw [Oper.semAt_eq _ _ _ (by rw [hop]; intro c h; cases h)]
  have hv := (s.eval callee).unopt
  have hv : RV G F st.mem w (a.eval callee) (.fn f cs) := by unfold od at hcal; rwa [hcal] at hv
  obtain ⟨vs, hev, hl, hcs⟩ := hv.inv_fn
  have hrun : (execOp a.eval o).run P w = .ok (.enter f ((args.toList.map a.eval ++ vs).toArray)) w := by
    obtain ⟨dst, op, ty, pos, after, guard⟩ := o
    simp only at hop
    subst hop
    simp only [execOp, resolve, hev, Deferred.ofValue, Sem.run_bind, Sem.run_pure, Result.andThen_ok, invoke]
    rw [hc.1]
    congr 2
    apply Array.ext'
    simp
  rw [hrun]
  have hi : Imms F w (args.toList.map a.eval ++ vs) xs := by
    subst hxs
    refine .of_rv (G := G) (M := st.mem) (by simp [callArgs, hl]) (fun i h1 h2 => ?_) hn
    by_cases hlt : i < args.toList.length
    · rw [List.getElem_append_left (by simpa using hlt), List.getElem_append_left (by simpa [callArgs] using hlt)]
      simp only [callArgs, List.getElem_map]
      exact ((s.eval _).unopt).snap s.mem
    · rw [List.getElem_append_right (by simpa using hlt), List.getElem_append_right (by simpa [callArgs] using hlt)]
      simp only [List.length_map, callArgs]
      exact hcs _ _ _
  refine ⟨fun h => by simp [fc, Fence.wide] at h, callsIn_fc ((hc.2 F w _ s.mem.fok hi).mono ?_)⟩
  rintro e w' ⟨v, F', rfl, q2, g⟩
  obtain ⟨va, e, hnl⟩ := hz q2
  have hbl : blkOf v = none := by subst e; cases va <;> simp [blkOf]
  obtain ⟨hm', S'⟩ := simM_grownZ (id := id) s.mem g hid hN v (.arr esz [] true) hbl fun S => .inl ⟨rfl, va, by rw [upG_self, e], fun _ _ => rfl⟩
  have hmid : mlook st.mem id = none := s.mem.noM hid
  obtain ⟨s1, S1⟩ := s.put (d := o.dst) (r := ⟨.tl id 0 nl, some (id, .arr esz [] true)⟩) (u := v) hm' (fun i => by
    simp only [Rc.mem]
    rw [mlook_mset, mlook_cons]) S' hd (by
      subst e
      exact .tl id 0 nl _ (by rw [upG_self]; simp) fun esz' es' fz' ho => by
        rw [mlook_cons, if_pos rfl] at ho; cases ho
        exact ⟨Nat.le_refl _, fun _ => ⟨upG_self _ _ _, hnl⟩⟩)
  exact h _ _ _ w' s1 S1 fun j hj hG => by rw [upG_other G _ hj]; exact hG

/-- A call whose result is a slice without room: as an object. -/
theorem OpIs.callZ {f : FuncId} {cs : List AV} {callee : Operand} {args : Array Operand} {tys : Array TypeId} {xs : List AV} {esz : Nat} {nl : Bool} {r : AV} (hg : o.guard = none) (hop : o.op = .call ⟨.value callee, args, tys⟩) (hd : dok fr o.dst = true)
    (hcal : od fr st true callee = .fn f cs) (hxs : callArgs fr st args ++ cs = xs) (hn : AV.norefs xs = true) (hrd : rdOf fr st [] o = rd) (hz : ∀ {F w v}, Imm F w v r → ∃ va, v = .slice va 0 0 ∧ nl = isNilSlice v) (hc : PureIs P f xs r) : OpIs P fr ro ds ops id st ⟨o, ⟨.tl id 0 nl, some (id, .arr esz [] true)⟩, rd⟩ := by
  intro st' G F a w N K Q1 s hN hG hl h
  simp only [Region.wanted, hg, if_true]
  obtain ⟨e1, e2⟩ := callArgs_look (gs := []) (by rw [hrd]; exact hl) hop
  exact s.callZ hN hG hop hd (by rw [e1]; exact hcal) (by rw [e2]; exact hxs) hn hz hc h
end
end Go.Avl
