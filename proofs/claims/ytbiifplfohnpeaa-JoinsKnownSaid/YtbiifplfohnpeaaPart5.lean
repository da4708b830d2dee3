/-
  Calls that lend objects, whatever they hold, in regions that are drawn, too.
  An empty object, to be grown by rows that are still written.
  Many objects at once: those with the numbers below n (n at most 1000000; the others have greater ones). Renaming, freezing.
  Another test of a drawn region's order: by the slots that its operations name, where the numbers of objects are not known.
  Tables whose rows are slices of their own, still written: the rows are the objects below n.
  Facts of the types, printed by a program of this claim's own.
  Lemmas.
  Lemmas.
  Lemmas.
  Lemmas.
  Lemmas.
  Lemmas.
  Lemmas.
  Lemmas.
  Lemmas.
  Lemmas.
  Lemmas.
-/
import Derived.Test.YtbiifplfohnpeaaProg
import Derived.KernelRfl
import Derived.Test.YtbiifplfohnpeaaPart4
set_option linter.unusedSimpArgs false
set_option linter.unusedVariables false
set_option linter.unnecessarySimpa false
set_option linter.deprecated false
namespace Go.Avl
open Go

def lendC (f : AV → AV) (cs : List AV) : List AV := if AV.norefs cs = true then cs else cs.map f
def lendR (f : AV → AV) (es : List (List AV)) : List (List AV) := if es.all AV.norefs = true then es else es.map (·.map f)
/-- A value as a plain reading, what it reaches through objects by their contents. -/
def lendA (M : Mem) : Nat → AV → AV
  | 0, v => v
  | d + 1, .tl i n b => match mlook M i with
    | some (.arr _ es _) => .sl b (lendR (lendA M d) es) .unk
    | _ => .tl i n b
  | d + 1, .tv i n off len cap => match mlook M i with
    | some (.arr _ es _) => .sl false (tvEs (lendR (lendA M d) es) n off len) (tvCap len cap)
    | _ => .tv i n off len cap
  | d + 1, .rf i off => match mlook M i with
    | some (.cells cs) => .ia ((lendC (lendA M d) cs).drop off)
    | _ => .rf i off
  | d + 1, .fn f cs => .fn f (lendC (lendA M d) cs)
  | d + 1, .ag cs => .ag (lendC (lendA M d) cs)
  | _ + 1, v => v
/-- Whether that is all that it reaches. -/
def lendK (M : Mem) : Nat → AV → Bool
  | 0, v => v.noref
  | d + 1, .tl i n _ => match mlook M i with
    | some (.arr _ es _) => decide (n = es.length) && (es.all AV.norefs || es.all fun c => c.all (lendK M d))
    | _ => false
  | d + 1, .tv i n _ _ _ => match mlook M i with
    | some (.arr _ es _) => decide (n = es.length) && (es.all AV.norefs || es.all fun c => c.all (lendK M d))
    | _ => false
  | d + 1, .rf i _ => match mlook M i with
    | some (.cells cs) => AV.norefs cs || cs.all (lendK M d)
    | _ => false
  | d + 1, .fn _ cs => AV.norefs cs || cs.all (lendK M d)
  | d + 1, .ag cs => AV.norefs cs || cs.all (lendK M d)
  | _ + 1, v => v.noref
def lendIs (f : AV → List Nat) : List AV → List Nat
  | [] => []
  | c :: cs => f c ++ lendIs f cs
def lendIss (f : AV → List Nat) : List (List AV) → List Nat
  | [] => []
  | c :: cs => lendIs f c ++ lendIss f cs
/-- The objects that are read for that. -/
def lendI (M : Mem) : Nat → AV → List Nat
  | 0, _ => []
  | d + 1, .tl i _ _ => i :: match mlook M i with
    | some (.arr _ es _) => if es.all AV.norefs = true then [] else lendIss (lendI M d) es
    | _ => []
  | d + 1, .tv i _ _ _ _ => i :: match mlook M i with
    | some (.arr _ es _) => if es.all AV.norefs = true then [] else lendIss (lendI M d) es
    | _ => []
  | d + 1, .rf i _ => i :: match mlook M i with
    | some (.cells cs) => if AV.norefs cs = true then [] else lendIs (lendI M d) cs
    | _ => []
  | d + 1, .fn _ cs => if AV.norefs cs = true then [] else lendIs (lendI M d) cs
  | d + 1, .ag cs => if AV.norefs cs = true then [] else lendIs (lendI M d) cs
  | _ + 1, _ => []

section
variable {P : Program} {fr : Fr} {ro : Option Nat} {ds : DS} {st st' : St} {Q Q' : Exit → St → Prop} {G G' : Nat → Option Value} {F F' : Nat → Nat → Prop} {a : Act} {w w' : World} {x y c : Code}
  {M M' : Mem} {ops : Array Oper} {l rest : List Oper} {o : Oper} {id N : Nat} {rd : List Nat}

theorem lendIs_mem {f : AV → List Nat} {i : Nat} {v : AV} : ∀ {cs : List AV}, v ∈ cs → i ∈ f v → i ∈ lendIs f cs
  | c :: cs, h, hi => by
    simp only [lendIs, List.mem_append]
    rcases List.mem_cons.1 h with rfl | h
    · exact .inl hi
    · exact .inr (lendIs_mem h hi)
theorem lendIss_mem {f : AV → List Nat} {i : Nat} {v : List AV} : ∀ {cs : List (List AV)}, v ∈ cs → i ∈ lendIs f v → i ∈ lendIss f cs
  | c :: cs, h, hi => by
    simp only [lendIss, List.mem_append]
    rcases List.mem_cons.1 h with rfl | h
    · exact .inl hi
    · exact .inr (lendIss_mem h hi)

theorem lend_congr : ∀ (d : Nat) (v : AV), (∀ i ∈ lendI M d v, mlook M' i = mlook M i) → lendA M' d v = lendA M d v ∧ lendK M' d v = lendK M d v
  | 0, v, _ => ⟨rfl, rfl⟩
  | d + 1, v, h => by
    have cells : ∀ cs : List AV, (∀ i ∈ (if AV.norefs cs = true then [] else lendIs (lendI M d) cs), mlook M' i = mlook M i) → lendC (lendA M' d) cs = lendC (lendA M d) cs ∧ (AV.norefs cs || cs.all (lendK M' d)) = (AV.norefs cs || cs.all (lendK M d)) := fun cs hc => by
      unfold lendC
      by_cases hn : AV.norefs cs = true
      · rw [if_pos hn, if_pos hn, hn]; exact ⟨rfl, rfl⟩
      · rw [if_neg hn] at hc
        rw [if_neg hn, if_neg hn]
        have ih : ∀ c ∈ cs, lendA M' d c = lendA M d c ∧ lendK M' d c = lendK M d c := fun c hc' => lend_congr d c fun i hi => hc i (lendIs_mem hc' hi)
        refine ⟨List.map_congr_left fun c hc => (ih c hc).1, ?_⟩
        congr 1
        rw [Bool.eq_iff_iff, List.all_eq_true, List.all_eq_true]
        exact ⟨fun h c hc => by rw [← (ih c hc).2]; exact h c hc, fun h c hc => by rw [(ih c hc).2]; exact h c hc⟩
    have rows : ∀ es : List (List AV), (∀ i ∈ (if es.all AV.norefs = true then [] else lendIss (lendI M d) es), mlook M' i = mlook M i) → lendR (lendA M' d) es = lendR (lendA M d) es ∧ (es.all AV.norefs || es.all fun c => c.all (lendK M' d)) = (es.all AV.norefs || es.all fun c => c.all (lendK M d)) := fun es hc => by
      unfold lendR
      by_cases hn : es.all AV.norefs = true
      · rw [if_pos hn, if_pos hn, hn]; exact ⟨rfl, rfl⟩
      · rw [if_neg hn] at hc
        rw [if_neg hn, if_neg hn]
        have ih : ∀ r ∈ es, ∀ c ∈ r, lendA M' d c = lendA M d c ∧ lendK M' d c = lendK M d c := fun r hr c hc' => lend_congr d c fun i hi => hc i (lendIss_mem hr (lendIs_mem hc' hi))
        refine ⟨List.map_congr_left fun r hr => List.map_congr_left fun c hc => (ih r hr c hc).1, ?_⟩
        congr 1
        rw [Bool.eq_iff_iff, List.all_eq_true, List.all_eq_true]
        simp only [List.all_eq_true]
        exact ⟨fun h r hr c hc => by rw [← (ih r hr c hc).2]; exact h r hr c hc, fun h r hr c hc => by rw [(ih r hr c hc).2]; exact h r hr c hc⟩
    cases v with
    | tl i n b =>
      simp only [lendI, List.mem_cons, forall_eq_or_imp] at h
      obtain ⟨h1, h2⟩ := h
      simp only [lendA, lendK, h1]
      cases hM : mlook M i with
      | none => exact ⟨rfl, rfl⟩
      | some ob =>
        rw [hM] at h2
        cases ob with
        | arr esz es fz => obtain ⟨e1, e2⟩ := rows es h2; simp only; rw [e1, e2]; exact ⟨rfl, rfl⟩
        | _ => exact ⟨rfl, rfl⟩
    | tv i n off len cap =>
      simp only [lendI, List.mem_cons, forall_eq_or_imp] at h
      obtain ⟨h1, h2⟩ := h
      simp only [lendA, lendK, h1]
      cases hM : mlook M i with
      | none => exact ⟨rfl, rfl⟩
      | some ob =>
        rw [hM] at h2
        cases ob with
        | arr esz es fz => obtain ⟨e1, e2⟩ := rows es h2; simp only; rw [e1, e2]; exact ⟨rfl, rfl⟩
        | _ => exact ⟨rfl, rfl⟩
    | rf i off =>
      simp only [lendI, List.mem_cons, forall_eq_or_imp] at h
      obtain ⟨h1, h2⟩ := h
      simp only [lendA, lendK, h1]
      cases hM : mlook M i with
      | none => exact ⟨rfl, rfl⟩
      | some ob =>
        rw [hM] at h2
        cases ob with
        | cells cs => obtain ⟨e1, e2⟩ := cells cs h2; simp only; rw [e1, e2]; exact ⟨rfl, rfl⟩
        | _ => exact ⟨rfl, rfl⟩
    | fn f cs => obtain ⟨e1, e2⟩ := cells cs h; simp only [lendA, lendK]; rw [e1, e2]; exact ⟨rfl, rfl⟩
    | ag cs => obtain ⟨e1, e2⟩ := cells cs h; simp only [lendA, lendK]; rw [e1, e2]; exact ⟨rfl, rfl⟩
    | _ => exact ⟨rfl, rfl⟩

theorem lendR_len (f : AV → AV) (es : List (List AV)) : (lendR f es).length = es.length := by unfold lendR; split <;> simp
theorem lendC_len (f : AV → AV) (cs : List AV) : (lendC f cs).length = cs.length := by unfold lendC; split <;> simp

theorem RV.lendA {nx : Nat} (hm : SimM P G F M nx w) : ∀ (d : Nat) {v : Value} {y : AV}, RV G F M w v y → lendK M d y = true → Imm (Avl.lend G F M) w v (Avl.lendA M d y)
  | 0, v, y, h, hk => (h.imm_of hk).lend
  | d + 1, v, y, h, hk => by
    have cells : ∀ (vs : List Value) (cs : List AV), vs.length = cs.length → (∀ i (h1 : i < vs.length) (h2 : i < cs.length), RV G F M w vs[i] cs[i]) → (AV.norefs cs || cs.all (lendK M d)) = true →
        vs.length = (lendC (Avl.lendA M d) cs).length ∧ ∀ i (h1 : i < vs.length) (h2 : i < (lendC (Avl.lendA M d) cs).length), Imm (Avl.lend G F M) w vs[i] (lendC (Avl.lendA M d) cs)[i] := fun vs cs hl hr hc => by
      refine ⟨by rw [lendC_len]; exact hl, fun i h1 h2 => ?_⟩
      have h2' : i < cs.length := by rw [lendC_len] at h2; exact h2
      by_cases hn : AV.norefs cs = true
      · simp only [lendC, if_pos hn]
        exact ((hr i h1 h2').imm_of (norefs_get _ hn i h2')).lend
      · simp only [lendC, if_neg hn, List.getElem_map]
        have hn' : AV.norefs cs = false := by simpa using hn
        rw [hn', Bool.false_or, List.all_eq_true] at hc
        exact RV.lendA hm d (hr i h1 h2') (hc _ (List.getElem_mem h2'))
    have rows : ∀ (es : List (List AV)), (es.all AV.norefs || es.all fun c => c.all (lendK M d)) = true → ∀ i (hi : i < es.length), ∃ hi' : i < (lendR (Avl.lendA M d) es).length, (lendR (Avl.lendA M d) es)[i].length = es[i].length ∧
        ∀ j (hj : j < es[i].length) (hj' : j < (lendR (Avl.lendA M d) es)[i].length) (v : Value), RV G F M w v es[i][j] → Imm (Avl.lend G F M) w v (lendR (Avl.lendA M d) es)[i][j] := fun es hc i hi => by
      refine ⟨by rw [lendR_len]; exact hi, ?_⟩
      by_cases hn : es.all AV.norefs = true
      · simp only [lendR, if_pos hn]
        exact ⟨trivial, fun j hj _ v hr => (hr.imm_of (all_norefs hn i j hi hj)).lend⟩
      · simp only [lendR, if_neg hn, List.getElem_map, List.length_map]
        have hn' : es.all AV.norefs = false := by simpa using hn
        rw [hn', Bool.false_or, List.all_eq_true] at hc
        have hci := hc _ (List.getElem_mem hi)
        rw [List.all_eq_true] at hci
        exact ⟨trivial, fun j hj _ v hr => RV.lendA hm d hr (hci _ (List.getElem_mem hj))⟩
    cases y with
    | tl i n b =>
      simp only [lendK] at hk
      cases hM : mlook M i with
      | none => rw [hM] at hk; cases hk
      | some ob =>
        rw [hM] at hk
        cases ob with
        | arr esz es fz =>
          simp only [Bool.and_eq_true, decide_eq_true_eq] at hk
          obtain ⟨hnl, hc⟩ := hk
          simp only [Avl.lendA, hM]
          have hrows := rows es hc
          obtain ⟨_, hh⟩ := h.inv_tl
          obtain ⟨hG, hb⟩ := (hh _ _ _ hM).2 hnl
          rcases (hm.obj i _ hM).2 with ⟨h0, base, h1, hsp⟩ | ⟨b', c, cc, e, h1, h2, h3, h4, h5, h6, h7, h8, h9⟩
          · rw [hG] at h1; cases h1
            subst h0
            have : lendR (Avl.lendA M d) [] = [] := rfl
            rw [this]
            cases base with
            | none => simp [isNilSlice] at hb; subst hb; exact .nil _ (.inl rfl)
            | some a => simp [isNilSlice] at hb; subst hb; exact .sz a .unk (.inl rfl)
          · have hG1 := hG
            rw [hG] at h1; cases h1
            simp [isNilSlice] at hb; subst hb
            have hown : Owned G M b' := ⟨i, _, _, hM, hG1, by simp [blkOf, h2]⟩
            have hlen := lendR_len (Avl.lendA M d) es
            have := Imm.sl (F := Avl.lend G F M) (w := w) b' 0 c esz (lendR (Avl.lendA M d) es) .unk (fun i j => (cc[i * esz + j]?).getD undef) (by rw [hlen]; exact h4) (.inl rfl)
              (fun k hk => by rw [hlen] at hk; obtain ⟨_, q1, _⟩ := hrows k hk; rw [q1]; exact h6 k hk)
              (fun k j hk hj => by
                rw [hlen] at hk
                refine ⟨.inr hown, ?_⟩
                rw [cell?_block h3, Nat.zero_add]
                obtain ⟨v, hv, h1c, _⟩ := h7 k j hk (by rw [h6 k hk]; exact hj)
                rw [hv]; exact ⟨rfl, h1c⟩)
              (fun k j hk hj => by
                have hk' := hk
                rw [hlen] at hk'
                obtain ⟨_, q1, q2⟩ := hrows k hk'
                obtain ⟨v, hv, _, hr⟩ := h7 k j hk' (by rw [← q1]; exact hj)
                rw [hv]; exact q2 j (by rw [← q1]; exact hj) hj v hr)
            rw [hlen] at this
            exact this
        | _ => cases hk
    | tv i n off len cap =>
      simp only [lendK] at hk
      cases hM : mlook M i with
      | none => rw [hM] at hk; cases hk
      | some ob =>
        rw [hM] at hk
        cases ob with
        | arr esz es fz =>
          simp only [Bool.and_eq_true, decide_eq_true_eq] at hk
          obtain ⟨hnl, hc⟩ := hk
          simp only [Avl.lendA, hM]
          have hrows := rows es hc
          obtain ⟨_, hh⟩ := h.inv_tv
          obtain ⟨hol, b', c, hG, hc0, c', rfl, hlc, hcp⟩ := (hh _ _ _ hM).2 hnl
          rcases (hm.obj i _ hM).2 with ⟨h0, base, h1, hsp⟩ | ⟨b2, c2, cc, e, h1, h2, h3, h4, h5, h6, h7, h8, h9⟩
          · rw [hG] at h1; cases h1; exact absurd rfl hc0
          · have hown : Owned G M b' := ⟨i, _, _, hM, hG, by simp [blkOf, hc0]⟩
            rw [hG] at h1; cases h1
            have hnl' : es.length = (lendR (Avl.lendA M d) es).length := (lendR_len _ _).symm
            have hlen := tvEs_len hol hnl'
            have hget := tvEs_get hol hnl'
            have := Imm.sl (F := Avl.lend G F M) (w := w) b' (off * esz) c' esz (tvEs (lendR (Avl.lendA M d) es) es.length off len) (tvCap len cap) (fun i j => (cc[(off + i) * esz + j]?).getD undef) (by rw [hlen]; exact hlc)
              (by
                rcases hcp with rfl | rfl | ⟨rfl, _⟩
                · exact .inl rfl
                · simp only [tvCap]
                  by_cases e : c' = len
                  · rw [if_pos e, hlen]; exact .inr (.inr (.inl ⟨rfl, e⟩))
                  · rw [if_neg e]; exact .inl rfl
                · exact .inl rfl)
              (fun k hk => by
                rw [hget k hk]
                rw [hlen] at hk
                obtain ⟨_, q1, _⟩ := hrows (off + k) (by omega)
                rw [q1]; exact h6 _ _)
              (fun k j hk hj => by
                rw [hlen] at hk
                have hk2 : off + k < es.length := by omega
                rw [show off * esz + k * esz + j = (off + k) * esz + j by rw [Nat.add_mul]]
                refine ⟨.inr hown, ?_⟩
                rw [cell?_block h3]
                obtain ⟨v, hv, h1c, _⟩ := h7 (off + k) j hk2 (by rw [h6 _ hk2]; exact hj)
                rw [hv]; exact ⟨rfl, h1c⟩)
              (fun k j hk hj => by
                have hk' := hk
                rw [hlen] at hk'
                have hk2 : off + k < es.length := by omega
                simp only [hget k hk] at hj ⊢
                obtain ⟨_, q1, q2⟩ := hrows (off + k) hk2
                obtain ⟨v, hv, _, hr⟩ := h7 (off + k) j hk2 (by rw [← q1]; exact hj)
                rw [hv]; exact q2 j (by rw [← q1]; exact hj) hj v hr)
            rw [hlen] at this
            exact this
        | _ => cases hk
    | rf i off =>
      simp only [lendK] at hk
      cases hM : mlook M i with
      | none => rw [hM] at hk; cases hk
      | some ob =>
        rw [hM] at hk
        cases ob with
        | cells cs =>
          simp only [Avl.lendA, hM]
          obtain ⟨b, hG, rfl⟩ := h.inv_rf
          obtain ⟨b', cc, e, h1, h2, h3, h4, h5⟩ := (hm.obj i _ hM).2
          have hown : Owned G M b' := ⟨i, _, _, hM, h1, rfl⟩
          rw [hG] at h1; cases h1
          obtain ⟨q1, q2⟩ := cells cc.toList cs (by simpa using h3) (fun i h1 h2 => by simpa using h4 i (by simpa using h1) h2) hk
          refine .ia b off _ (fun j => (cc[off + j]?).getD undef) (fun j hj => ?_) (fun j hj => ?_)
          · simp only [List.length_drop, ← q1, Array.length_toList] at hj
            refine ⟨.inr hown, ?_⟩
            rw [cell?_block h2, Array.getElem?_eq_getElem (by omega)]; rfl
          · have hj' := hj
            simp only [List.length_drop, ← q1, Array.length_toList] at hj'
            have := q2 (off + j) (by simp; omega) (by rw [← q1]; simp; omega)
            simp only [List.getElem_drop]
            rw [Array.getElem?_eq_getElem (by omega)]
            simpa using this
        | _ => cases hk
    | fn f cs =>
      obtain ⟨vs, rfl, hl, hcs⟩ := h.inv_fn
      obtain ⟨q1, q2⟩ := cells vs cs hl hcs hk
      exact .fn f vs _ q1 q2
    | ag cs =>
      obtain ⟨vs, rfl, hl, hcs⟩ := h.inv_ag
      obtain ⟨q1, q2⟩ := cells vs cs hl hcs hk
      exact .ag vs _ q1 q2
    | _ => exact (h.imm_of hk).lend

/-- A contract whose result is a plain cell. -/
theorem PureIs.frSc {f : FuncId} {args : List AV} {v : Value} (h : PureIs P f args (.sc v)) : PureFr P f args (.sc v) :=
  ⟨h.1, fun F w vals hF hi => (h.2 F w vals hF hi).mono fun _ w' ⟨u, F', he, hv, g⟩ => by
    have hu : u = v := by cases hv; rfl
    subst hu
    exact ⟨u, fun b o => F' b o ∧ w.heap.size ≤ b, he, .sc _, fun b o h => ⟨h.2, g.inF b o h.1⟩,
      ⟨g.size, g.old, fun b o h => .inl h, fun b o h => h.elim .inl fun h => .inr h.2, fun b o h => h.elim (fun h => Nat.lt_of_lt_of_le (hF b o h) g.size) fun h => g.inF b o h.1, g.kept⟩⟩⟩

def argsD (fr : Fr) (st : St) (d : Nat) (args : Array Operand) : List AV := args.toList.map fun x => lendA st.mem d (od fr st true x)
def argsK (fr : Fr) (st : St) (d : Nat) (args : Array Operand) : Bool := args.toList.all fun x => lendK st.mem d (od fr st true x)
def argsI (fr : Fr) (st : St) (d : Nat) : List Operand → List Nat
  | [] => []
  | x :: xs => odds (lendI st.mem d (od fr st true x)) ++ argsI fr st d xs
def rdL (fr : Fr) (st : St) (d : Nat) (gs : List Nat) (o : Oper) (args : Array Operand) : List Nat := gs ++ (opSlots o.op.operands.toList ++ argsI fr st d args.toList)
theorem argsI_mem {d : Nat} {x : Operand} {i : Nat} : ∀ {xs : List Operand}, x ∈ xs → i ∈ lendI st.mem d (od fr st true x) → 2 * i + 1 ∈ argsI fr st d xs
  | y :: xs, h, hi => by
    simp only [argsI, List.mem_append]
    rcases List.mem_cons.1 h with rfl | h
    · exact .inl (odds_mem hi)
    · exact .inr (argsI_mem h hi)

theorem SimD.callD {f : FuncId} {callee : Operand} {args : Array Operand} {tys : Array TypeId} {xs : List AV} {r : AV} {d : Nat} {K : Act → World → Prop} {Q1 : Exit → Act → World → Prop}
    (s : SimD P fr ds G F st N a w) (hop : o.op = .call ⟨.value callee, args, tys⟩) (hd : dok fr o.dst = true) (hcal : od fr st true callee = .fn f [])
    (hxs : argsD fr st d args = xs) (hk : argsK fr st d args = true) (hc : PureFr P f xs r)
    (h : ∀ G' F' a' w', SimD P fr ds G' F' (run1 fr o.dst ⟨r, none⟩ st) N a' w' → Step All G F st.mem w G' F' (run1 fr o.dst ⟨r, none⟩ st).mem w' → (∀ j, j ≠ id → G j = none → G' j = none) → K a' w') : o.wpIn (fc ro) 0 P a w K Q1 := by
  refine ⟨fun _ _ => trivial, ?_⟩
  rw [Oper.semAt_eq _ _ _ (by rw [hop]; intro c h; cases h)]
  have hv := (s.eval callee).unopt
  have hv : RV G F st.mem w (a.eval callee) (.fn f []) := by unfold od at hcal; rwa [hcal] at hv
  obtain ⟨vs, hev, hl, _⟩ := hv.inv_fn
  have hvs : vs = [] := by cases vs with
    | nil => rfl
    | cons a l => simp at hl
  subst hvs
  have hrun : (execOp a.eval o).run P w = .ok (.enter f ((args.toList.map a.eval).toArray)) w := by
    obtain ⟨dst, op, ty, pos, after, guard⟩ := o
    simp only at hop
    subst hop
    simp only [execOp, resolve, hev, Deferred.ofValue, Sem.run_bind, Sem.run_pure, Result.andThen_ok, invoke]
    rw [hc.1]
    congr 2
    apply Array.ext'
    simp
  rw [hrun]
  have hi : Imms (Avl.lend G F st.mem) w (args.toList.map a.eval) xs := by
    subst hxs
    refine ⟨by simp [argsD], fun i h1 h2 => ?_⟩
    simp only [argsD, List.getElem_map] at h2 ⊢
    unfold argsK at hk
    rw [List.all_eq_true] at hk
    exact RV.lendA s.mem d (s.eval _).unopt (hk _ (List.getElem_mem _))
  have hin : ∀ b o, Avl.lend G F st.mem b o → b < w.heap.size := fun b o h => h.elim (s.mem.inF b o) fun h => s.mem.lt h
  refine ⟨fun h => by simp [fc, Fence.wide] at h, callsIn_fc ((hc.2 _ w _ hin hi).mono ?_)⟩
  rintro e w' ⟨v, Fr, rfl, hv, hFr, g⟩
  have g' := s.mem.frGrown g hFr
  obtain ⟨hm', S'⟩ := simM_grown s.mem g'
  obtain ⟨s1, S1⟩ := s.put (d := o.dst) (r := ⟨r, none⟩) (u := v) hm' (fun _ => rfl) S' hd (.imm (hv.mono (fun _ _ h => .inr h) fun _ _ _ => rfl))
  exact h G _ _ w' s1 S1 (fun _ _ h => h)

/-- A call that lends objects, to the depth d. -/
theorem OpIs.callD {f : FuncId} {callee : Operand} {args : Array Operand} {tys : Array TypeId} {xs : List AV} {v : AV} (d : Nat) (hg : o.guard = none) (hop : o.op = .call ⟨.value callee, args, tys⟩) (hd : dok fr o.dst = true)
    (hcal : od fr st true callee = .fn f []) (hxs : argsD fr st d args = xs) (hk : argsK fr st d args = true) (hrd : rdL fr st d [] o args = rd) (hc : PureFr P f xs v) : OpIs P fr ro ds ops id st ⟨o, ⟨v, none⟩, rd⟩ := by
  intro st' G F a w N K Q1 s hN hG hl h
  simp only [Region.wanted, hg, if_true]
  have hslot : ∀ x ∈ o.op.operands.toList, opnd fr st' x = opnd fr st x := fun x hx => by
    cases x with
    | tmp t => exact look_slot (hl _ (by simp only; rw [← hrd]; unfold rdL; exact List.mem_append_right _ (List.mem_append_left _ (opSlots_mem hx))))
    | _ => rfl
  rw [hop] at hslot
  have hodc : od fr st' true callee = od fr st true callee := by unfold od; rw [hslot callee (by simp [Op.operands, Call.operands])]
  have hoda : ∀ x ∈ args.toList, od fr st' true x = od fr st true x := fun x hx => by
    unfold od; rw [hslot x (by simp only [Op.operands, Call.operands]; simp; exact .inr (by simpa using hx))]
  have hcg : ∀ x ∈ args.toList, lendA st'.mem d (od fr st' true x) = lendA st.mem d (od fr st true x) ∧ lendK st'.mem d (od fr st' true x) = lendK st.mem d (od fr st true x) := fun x hx => by
    rw [hoda x hx]
    exact lend_congr d _ fun i hi => look_obj (hl _ (by simp only; rw [← hrd]; unfold rdL; exact List.mem_append_right _ (List.mem_append_right _ (argsI_mem hx hi))))
  refine s.callD (d := d) hop hd (by rw [hodc]; exact hcal) ?_ ?_ hc h
  · rw [← hxs]; unfold argsD; exact List.map_congr_left fun x hx => (hcg x hx).1
  · rw [← hk]; unfold argsK
    rw [Bool.eq_iff_iff, List.all_eq_true, List.all_eq_true]
    exact ⟨fun h x hx => by rw [← (hcg x hx).2]; exact h x hx, fun h x hx => by rw [(hcg x hx).2]; exact h x hx⟩
end
attribute [go_sem] lendC lendR lendA lendK lendIs lendIss lendI argsD argsK argsI rdL
end Go.Avl
namespace Go.Avl
open Go

def St.thaw (i : Nat) (st : St) : Option St :=
  match mlook st.mem i with
  | some (.arr esz [] _) => some ⟨st.vars, st.tmps, mset st.mem i (.arr esz [] false), st.nx⟩
  | _ => none

/-- Row k of object j, with what it points at read by its contents where that is frozen. -/
def St.snapE (j k : Nat) (st : St) : Option St :=
  match mlook st.mem j with
  | some (.arr esz es false) => match es[k]? with
    | some c => some ⟨st.vars, st.tmps, mset st.mem j (.arr esz (es.set k (c.map (AV.deep (snap st.mem)))) false), st.nx⟩
    | none => none
  | _ => none

section
variable {P : Program} {fr : Fr} {ro : Option Nat} {ds : DS} {st st' : St} {Q Q' : Exit → St → Prop} {G G' : Nat → Option Value} {F F' : Nat → Nat → Prop} {a : Act} {w w' : World} {x y c : Code} {M : Mem}

theorem simM_thaw {nx i esz : Nat} {fz : Bool} (hm : SimM P G F M nx w) (ho : mlook M i = some (.arr esz [] fz)) :
    SimM P G F (mset M i (.arr esz [] false)) nx w ∧ Step All G F M w G F (mset M i (.arr esz [] false)) w := by
  have hold := (hm.obj i _ ho).2
  have S : Step All G F M w G F (mset M i (.arr esz [] false)) w :=
    { kept := .refl
      size := Nat.le_refl _
      out := fun _ _ _ => rfl
      F1 := fun _ _ h => h
      F2 := fun _ _ _ => rfl
      F3 := fun b o h => .inl h
      own := fun b ⟨id, o, v, h3, h4, h5⟩ => by
        rw [mlook_mset] at h3
        by_cases hi : id = i
        · subst hi; exact .inr ⟨id, _, v, ho, h4, h5⟩
        · rw [if_neg hi] at h3; exact .inr ⟨id, o, v, h3, h4, h5⟩
      some' := fun _ _ h => h
      same := fun _ _ _ h _ => h
      keep := fun id o' _ hG h3 => by
        obtain ⟨v, hv⟩ := Option.ne_none_iff_exists'.1 hG
        rw [mlook_mset] at h3
        by_cases hi : id = i
        · subst hi
          rw [if_pos rfl] at h3; cases h3
          exact ⟨_, v, v, ho, hv, hv, ⟨rfl, .inl ⟨rfl, rfl⟩⟩⟩
        · rw [if_neg hi] at h3
          exact ⟨o', v, v, h3, hv, hv, objKeep.refl v o'⟩ }
  have hinj : ∀ id id' v v' b, mlook (mset M i (.arr esz [] false)) id ≠ none → mlook (mset M i (.arr esz [] false)) id' ≠ none → G id = some v → G id' = some v' → blkOf v = some b → blkOf v' = some b → id = id' := by
    intro id id' v v' b h1 h2
    refine hm.inj id id' v v' b ?_ ?_
    · rw [mlook_mset] at h1; by_cases hi : id = i
      · subst hi; rw [ho]; simp
      · rwa [if_neg hi] at h1
    · rw [mlook_mset] at h2; by_cases hi : id' = i
      · subst hi; rw [ho]; simp
      · rwa [if_neg hi] at h2
  refine ⟨simM_gen hm S (fun id o' h => ?_) hinj hm.inF, S⟩
  rw [mlook_mset] at h
  by_cases hi : id = i
  · subst hi; rw [if_pos rfl] at h; cases h
    refine ⟨(hm.obj id _ ho).1, .inl ?_⟩
    rcases hold with h | ⟨b, c, cc, e, h1, h2, h3, h4, h5, h6, h7, h8, h9⟩
    · exact .inl h
    · exact .inr ⟨b, c, cc, e, h1, h2, h3, h4, h5, h6, fun k j hk => absurd hk (Nat.not_lt_zero _), fun o h => absurd (h8 o h).2 (by simp), fun h => (by cases h)⟩
  · rw [if_neg hi] at h
    exact ⟨(hm.obj id _ h).1, .inr ⟨h, rfl, fun b v hG hb => ⟨rfl, fun _ h => h⟩⟩⟩
theorem SimA.thaw {i : Nat} (s : SimA P fr ds G F st a w) (h : st.thaw i = some st') : SimA P fr ds G F st' a w ∧ Step (· < fr.base) G F st.mem w G F st'.mem w := by
  unfold St.thaw at h
  split at h
  · rename_i esz fz ho
    cases h
    obtain ⟨hm', S'⟩ := simM_thaw s.sim.mem ho
    exact ⟨⟨⟨hm', fun k => (s.sim.slots k).step S' (fun _ _ => trivial), s.sim.size⟩, s.fresh, s.defers⟩, S'.mono fun _ _ => trivial⟩
  · cases h
theorem EvC.thaw (i : Nat) (h : st.thaw i = some st') (hc : EvC P fr ro ds c st' Q) : EvC P fr ro ds c st Q :=
  EvC.conv (fun _ _ _ _ s => let ⟨s', S'⟩ := s.thaw h; ⟨_, _, s', S'⟩) hc
theorem simM_snapE {nx j esz k : Nat} {es : List (List AV)} {c0 : List AV} (hm : SimM P G F M nx w) (ho : mlook M j = some (.arr esz es false)) (hk : es[k]? = some c0) :
    SimM P G F (mset M j (.arr esz (es.set k (c0.map (AV.deep (snap M)))) false)) nx w ∧ Step All G F M w G F (mset M j (.arr esz (es.set k (c0.map (AV.deep (snap M)))) false)) w := by
  obtain ⟨es', hes⟩ : ∃ es', es' = es.set k (c0.map (AV.deep (snap M))) := ⟨_, rfl⟩
  rw [← hes]
  have hle : es'.length = es.length := by rw [hes, List.length_set]
  have hold := (hm.obj j _ ho).2
  have S : Step All G F M w G F (mset M j (.arr esz es' false)) w :=
    { kept := .refl
      size := Nat.le_refl _
      out := fun _ _ _ => rfl
      F1 := fun _ _ h => h
      F2 := fun _ _ _ => rfl
      F3 := fun b o h => .inl h
      own := fun b ⟨id, o, v, h3, h4, h5⟩ => by
        rw [mlook_mset] at h3
        by_cases hi : id = j
        · subst hi; exact .inr ⟨id, _, v, ho, h4, h5⟩
        · rw [if_neg hi] at h3; exact .inr ⟨id, o, v, h3, h4, h5⟩
      some' := fun _ _ h => h
      same := fun _ _ _ h _ => h
      keep := fun id o' _ hG h3 => by
        obtain ⟨v, hv⟩ := Option.ne_none_iff_exists'.1 hG
        rw [mlook_mset] at h3
        by_cases hi : id = j
        · subst hi
          rw [if_pos rfl] at h3; cases h3
          exact ⟨_, v, v, ho, hv, hv, ⟨rfl, .inl ⟨hle, rfl⟩⟩⟩
        · rw [if_neg hi] at h3
          exact ⟨o', v, v, h3, hv, hv, objKeep.refl v o'⟩ }
  have hinj : ∀ id id' v v' b, mlook (mset M j (.arr esz es' false)) id ≠ none → mlook (mset M j (.arr esz es' false)) id' ≠ none → G id = some v → G id' = some v' → blkOf v = some b → blkOf v' = some b → id = id' := by
    intro id id' v v' b h1 h2
    refine hm.inj id id' v v' b ?_ ?_
    · rw [mlook_mset] at h1; by_cases hi : id = j
      · subst hi; rw [ho]; simp
      · rwa [if_neg hi] at h1
    · rw [mlook_mset] at h2; by_cases hi : id' = j
      · subst hi; rw [ho]; simp
      · rwa [if_neg hi] at h2
  refine ⟨simM_gen hm S (fun id o' h => ?_) hinj hm.inF, S⟩
  rw [mlook_mset] at h
  by_cases hi : id = j
  · subst hi; rw [if_pos rfl] at h; cases h
    refine ⟨(hm.obj id _ ho).1, .inl ?_⟩
    have hkl : k < es.length := (List.getElem?_eq_some_iff.1 hk).1
    have hke : es[k] = c0 := by rw [List.getElem?_eq_getElem hkl] at hk; exact Option.some.inj hk
    rcases hold with ⟨h0, _⟩ | ⟨b, c, cc, e, h1, h2, h3, h4, h5, h6, h7, h8, h9⟩
    · rw [h0] at hkl; exact absurd hkl (Nat.not_lt_zero _)
    · refine .inr ⟨b, c, cc, e, by rw [hle]; exact h1, h2, h3, by rw [hle]; exact h4, h5, fun i hi' => ?_, fun i l hi' hl' => ?_, fun o h => absurd (h8 o h).1 (by simp), fun h => (by cases h)⟩
      · have hi2 : i < es.length := by rw [← hle]; exact hi'
        simp only [hes, List.getElem_set]
        split
        · rename_i e1; subst e1; rw [List.length_map, ← hke]; exact h6 _ hi2
        · exact h6 _ hi2
      · have hi2 : i < es.length := by rw [← hle]; exact hi'
        by_cases e1 : k = i
        · subst e1
          have e2 : es'[k] = es[k].map (AV.deep (snap M)) := by simp [hes, hke]
          have hl2 : l < es[k].length := by rw [e2, List.length_map] at hl'; exact hl'
          obtain ⟨v, k1, k2, k3⟩ := h7 k l hi2 hl2
          refine ⟨v, k1, k2, ?_⟩
          have e3 : es'[k][l] = AV.deep (snap M) es[k][l] := by simp [e2]
          rw [e3]
          exact (k3.deep fun v y h => h.snap hm).step S fun _ _ => trivial
        · have e2 : es'[i] = es[i] := by simp [hes, e1]
          have hl2 : l < es[i].length := by rw [e2] at hl'; exact hl'
          obtain ⟨v, k1, k2, k3⟩ := h7 i l hi2 hl2
          have e3 : es'[i][l] = es[i][l] := by simp [e2]
          exact ⟨v, k1, k2, by rw [e3]; exact k3.step S fun _ _ => trivial⟩
  · rw [if_neg hi] at h
    exact ⟨(hm.obj id _ h).1, .inr ⟨h, rfl, fun b v hG hb => ⟨rfl, fun _ h => h⟩⟩⟩
theorem SimA.snapE {j k : Nat} (s : SimA P fr ds G F st a w) (h : st.snapE j k = some st') : SimA P fr ds G F st' a w ∧ Step (· < fr.base) G F st.mem w G F st'.mem w := by
  unfold St.snapE at h
  split at h
  · rename_i esz es ho
    split at h
    · rename_i c0 hk
      cases h
      obtain ⟨hm', S'⟩ := simM_snapE s.sim.mem ho hk
      exact ⟨⟨⟨hm', fun k => (s.sim.slots k).step S' (fun _ _ => trivial), s.sim.size⟩, s.fresh, s.defers⟩, S'.mono fun _ _ => trivial⟩
    · cases h
  · cases h
theorem EvC.snapE (j k : Nat) (h : st.snapE j k = some st') (hc : EvC P fr ro ds c st' Q) : EvC P fr ro ds c st Q :=
  EvC.conv (fun _ _ _ _ s => let ⟨s', S'⟩ := s.snapE h; ⟨_, _, s', S'⟩) hc
end
attribute [go_sem] St.snapE
attribute [go_sem] St.thaw
end Go.Avl
namespace Go.Avl
open Go

def msegA : Nat → List RObj → Mem
  | _, [] => []
  | b, o :: r => (b, o) :: msegA (b + 1) r
def mseg (l : List RObj) : Mem := msegA 0 l
theorem mlook_msegA : ∀ (l : List RObj) (b i : Nat), mlook (msegA b l) i = if b ≤ i then l[i - b]? else none
  | [], b, i => by simp [msegA, mlook]
  | o :: r, b, i => by
    simp only [msegA, mlook]
    by_cases h : i = b
    · subst h; simp
    · rw [if_neg h, mlook_msegA r (b + 1) i]
      by_cases h2 : b ≤ i
      · rw [if_pos (by omega), if_pos h2, show i - b = (i - (b + 1)) + 1 by omega]; rfl
      · rw [if_neg (by omega), if_neg h2]
theorem mlook_mseg (l : List RObj) (i : Nat) : mlook (mseg l) i = l[i]? := by rw [mseg, mlook_msegA, if_pos (Nat.zero_le _), Nat.sub_zero]
theorem mset_msegA : ∀ (l : List RObj) (b i : Nat) (o : RObj), b ≤ i → i < b + l.length → mset (msegA b l) i o = msegA b (l.set (i - b) o)
  | [], b, i, o, h1, h2 => by simp at h2; omega
  | x :: r, b, i, o, h1, h2 => by
    simp only [msegA, mset]
    by_cases h : i = b
    · subst h; simp [msegA]
    · rw [if_neg h, mset_msegA r (b + 1) i o (by omega) (by simp at h2; omega), show i - b = (i - (b + 1)) + 1 by omega]; rfl
theorem mset_mseg {l : List RObj} {i : Nat} (o : RObj) (h : i < l.length) : mset (mseg l) i o = mseg (l.set i o) := by
  rw [mseg, mset_msegA l 0 i o (Nat.zero_le _) (by omega)]; rfl
theorem msegA_append : ∀ (l r : List RObj) (b : Nat), msegA b (l ++ r) = msegA b l ++ msegA (b + l.length) r
  | [], r, b => by simp [msegA]
  | x :: l, r, b => by simp only [List.cons_append, msegA, msegA_append l r (b + 1), List.length_cons]; rw [show b + 1 + l.length = b + (l.length + 1) by omega]
theorem mseg_snoc (l : List RObj) (o : RObj) {n : Nat} (h : l.length = n) : mseg l ++ [(n, o)] = mseg (l ++ [o]) := by
  subst h; rw [mseg, mseg, msegA_append]; simp [msegA]

/-- A number below n is none of the great ones. -/
theorem lo_ne {s : Nat} (h : s < 1000000) (k : Nat) (hk : 1000000 ≤ k) : (s = k) = False := eq_false (by omega)
theorem lo_ne' {s : Nat} (h : s < 1000000) (k : Nat) (hk : 1000000 ≤ k) : (k = s) = False := eq_false (by omega)

def idK (n : Nat) : List (Nat × Nat) := (List.range n).map fun i => (i, i)
def segK (A : List (Nat × Nat)) (n : Nat) (B : List (Nat × Nat)) : List (Nat × Nat) := A ++ (idK n ++ B)

theorem rlook_append (A B : List (Nat × Nat)) (k : Nat) : rlook (A ++ B) k = (rlook A k).or (rlook B k) := by
  induction A with
  | nil => simp [rlook]
  | cons p A ih =>
    obtain ⟨i, j⟩ := p
    simp only [List.cons_append, rlook]
    split
    · rfl
    · exact ih
theorem blook_append (A B : List (Nat × Nat)) (k : Nat) : blook (A ++ B) k = (blook A k).or (blook B k) := by
  induction A with
  | nil => simp [blook]
  | cons p A ih =>
    obtain ⟨i, j⟩ := p
    simp only [List.cons_append, blook]
    split
    · rfl
    · exact ih
theorem idK_succ (n : Nat) : idK (n + 1) = idK n ++ [(n, n)] := by simp [idK, List.range_succ]
theorem rlook_idK (n k : Nat) : rlook (idK n) k = if k < n then some k else none := by
  induction n with
  | zero => simp [idK, rlook]
  | succ n ih =>
    rw [idK_succ, rlook_append, ih]
    by_cases h : k < n
    · rw [if_pos h, if_pos (by omega)]; rfl
    · rw [if_neg h]
      by_cases h2 : k = n
      · subst h2; simp [rlook]
      · rw [if_neg (by omega)]; simp [rlook, h2]
theorem blook_idK (n k : Nat) : blook (idK n) k = if k < n then some k else none := by
  induction n with
  | zero => simp [idK, blook]
  | succ n ih =>
    rw [idK_succ, blook_append, ih]
    by_cases h : k < n
    · rw [if_pos h, if_pos (by omega)]; rfl
    · rw [if_neg h]
      by_cases h2 : k = n
      · subst h2; simp [blook]
      · rw [if_neg (by omega)]; simp [blook, h2]
theorem rlook_segK_hi {n : Nat} (hn : n ≤ 1000000) (A B : List (Nat × Nat)) (k : Nat) (hk : 1000000 ≤ k) : rlook (segK A n B) k = rlook (A ++ B) k := by
  rw [segK, rlook_append, rlook_append, rlook_append, rlook_idK, if_neg (by omega)]; simp
theorem rlook_hi : ∀ {A : List (Nat × Nat)} {s : Nat}, s < 1000000 → (A.all fun p => decide (1000000 ≤ p.1)) = true → rlook A s = none
  | [], _, _, _ => rfl
  | (i, j) :: A, s, hs, h => by
    simp only [List.all_cons, Bool.and_eq_true, decide_eq_true_eq] at h
    simp only [rlook]
    rw [if_neg (by omega)]
    exact rlook_hi hs h.2
theorem blook_hi : ∀ {A : List (Nat × Nat)} {s : Nat}, s < 1000000 → (A.all fun p => decide (1000000 ≤ p.2)) = true → blook A s = none
  | [], _, _, _ => rfl
  | (i, j) :: A, s, hs, h => by
    simp only [List.all_cons, Bool.and_eq_true, decide_eq_true_eq] at h
    simp only [blook]
    rw [if_neg (by omega)]
    exact blook_hi hs h.2
theorem rlook_segK_lo {n s : Nat} (hs : s < n) (hn : n ≤ 1000000) {A B : List (Nat × Nat)} (hA : (A.all fun p => decide (1000000 ≤ p.1)) = true) : rlook (segK A n B) s = some s := by
  rw [segK, rlook_append, rlook_append, rlook_idK, if_pos hs, rlook_hi (by omega) hA]; rfl

theorem renMem_append (M : Mem) (K : List (Nat × Nat)) : ∀ (A B : List (Nat × Nat)), renMem M K (A ++ B) = renMem M K A ++ renMem M K B
  | [], B => rfl
  | (i, j) :: A, B => by
    simp only [List.cons_append, renMem, renMem_append M K A B]
    split <;> simp
theorem renMem_segK (M : Mem) (A B : List (Nat × Nat)) (n : Nat) : renMem M (segK A n B) (segK A n B) = renMem M (segK A n B) A ++ (renMem M (segK A n B) (idK n) ++ renMem M (segK A n B) B) := by
  conv => lhs; arg 3; rw [segK]
  rw [renMem_append, renMem_append]
theorem renMem_congr {M M' : Mem} (K : List (Nat × Nat)) : ∀ {K' : List (Nat × Nat)}, (∀ p ∈ K', mlook M p.1 = mlook M' p.1) → renMem M K K' = renMem M' K K'
  | [], _ => rfl
  | (i, j) :: K', h => by
    simp only [renMem]
    rw [h (i, j) List.mem_cons_self, renMem_congr K fun p hp => h p (List.mem_cons_of_mem _ hp)]
theorem mset_mset_same (M : Mem) (i : Nat) (o o' : RObj) : mset (mset M i o) i o' = mset M i o' := by
  induction M with
  | nil => simp [mset]
  | cons p M ih =>
    obtain ⟨k, u⟩ := p
    simp only [mset]
    split
    · rename_i h; subst h; simp [mset]
    · rename_i h; simp only [mset, if_neg h, ih]
theorem mset_comm {i j : Nat} {o o' : RObj} : ∀ {M : Mem}, (mlook M j).isSome = true → j ≠ i → mset (mset M i o) j o' = mset (mset M j o') i o
  | [], h, _ => by simp [mlook] at h
  | (k, u) :: M, h, hne => by
    by_cases h1 : i = k
    · subst h1; simp only [mset, if_true, if_neg hne]
    · by_cases h2 : j = k
      · subst h2; simp only [mset, if_neg h1, if_true]
      · simp only [mset, if_neg h1, if_neg h2]
        simp only [mlook, if_neg h2] at h
        rw [mset_comm h hne]
theorem mset_seg_hi {l : List RObj} {s k : Nat} (hs : s < l.length) (hn : l.length ≤ 1000000) (hk : 1000000 ≤ k) (o o' : RObj) : mset (mset (mseg l) k o) s o' = mset (mseg (l.set s o')) k o := by
  rw [mset_comm (by rw [mlook_mseg, List.getElem?_eq_getElem hs]; rfl) (by omega), mset_mseg _ hs]
theorem mem_idK {n : Nat} {p : Nat × Nat} (h : p ∈ idK n) : p.1 < n ∧ p.2 = p.1 := by
  obtain ⟨i, h1, rfl⟩ := List.mem_map.1 h
  exact ⟨List.mem_range.1 h1, rfl⟩
theorem renMem_idK_cons {n : Nat} (hn : n ≤ 1000000) (k : Nat) (hk : 1000000 ≤ k) (o : RObj) (M : Mem) (K : List (Nat × Nat)) : renMem ((k, o) :: M) K (idK n) = renMem M K (idK n) :=
  renMem_congr K fun p hp => by have := (mem_idK hp).1; simp only [mlook]; rw [if_neg (by omega)]
theorem renMem_idK_mset {n : Nat} (hn : n ≤ 1000000) (k : Nat) (hk : 1000000 ≤ k) (o : RObj) (M : Mem) (K : List (Nat × Nat)) : renMem (mset M k o) K (idK n) = renMem M K (idK n) :=
  renMem_congr K fun p hp => by have := (mem_idK hp).1; rw [mlook_mset, if_neg (by omega)]
theorem renMem_idK (K : List (Nat × Nat)) (l : List RObj) : ∀ n, n ≤ l.length → renMem (mseg l) K (idK n) = mseg ((l.take n).map (RObj.ren K))
  | 0, _ => rfl
  | n + 1, h => by
    rw [idK_succ, renMem_append, renMem_idK K l n (by omega), List.take_add_one, List.getElem?_eq_getElem (by omega), List.map_append, Option.toList_some, List.map_singleton]
    rw [← mseg_snoc _ _ (n := n) (by simp; omega)]
    congr 1
    simp only [renMem, mlook_mseg]
    rw [List.getElem?_eq_getElem (by omega)]
theorem renMem_seg {n : Nat} {l : List RObj} (K : List (Nat × Nat)) (h : l.length = n) : renMem (mseg l) K (idK n) = mseg (l.map (RObj.ren K)) := by
  subst h; rw [renMem_idK K l _ (Nat.le_refl _), List.take_length]

theorem gcOk_append {base nx : Nat} : ∀ {A B : List (Nat × Nat)}, gcOk base nx A = true → gcOk base nx B = true → (∀ p ∈ A, blook B p.2 = none ∧ rlook B p.1 = none) → gcOk base nx (A ++ B) = true
  | [], B, _, h, _ => h
  | (i, j) :: A, B, h1, h2, h3 => by
    simp only [gcOk, Bool.and_eq_true, beq_iff_eq] at h1
    have h4 := h3 (i, j) List.mem_cons_self
    simp only [List.cons_append, gcOk, Bool.and_eq_true, beq_iff_eq]
    refine ⟨⟨⟨h1.1.1.1, ?_⟩, ?_⟩, gcOk_append h1.2 h2 fun p hp => h3 p (List.mem_cons_of_mem _ hp)⟩
    · rw [blook_append, h1.1.1.2, h4.1]; rfl
    · rw [rlook_append, h1.1.2, h4.2]; rfl
theorem gcOk_idK {base nx : Nat} (hb : base ≤ nx) : ∀ {n : Nat}, n ≤ nx → gcOk base nx (idK n) = true
  | 0, _ => by simp [idK, gcOk, hb]
  | n + 1, h => by
    rw [idK_succ]
    refine gcOk_append (gcOk_idK hb (by omega)) ?_ fun p hp => ?_
    · simp [gcOk, blook, rlook, hb]; omega
    · have := mem_idK hp
      simp only [blook, rlook]
      rw [if_neg (by omega), if_neg (by omega)]; exact ⟨rfl, rfl⟩
/-- A renaming of the great numbers, beside the small ones. -/
theorem segK_ok {base nx n : Nat} {A : List (Nat × Nat)} (hA : gcOk base nx A = true) (h1 : (A.all fun p => decide (1000000 ≤ p.1)) = true) (h2 : (A.all fun p => decide (1000000 ≤ p.2)) = true) (hn : n ≤ 1000000) (hx : 1000000 ≤ nx) : gcOk base nx (segK A n []) = true := by
  have hb := gcOk_base hA
  rw [segK, List.append_nil]
  refine gcOk_append hA (gcOk_idK hb (by omega)) fun p hp => ?_
  rw [List.all_eq_true] at h1 h2
  have a1 := of_decide_eq_true (h1 p hp)
  have a2 := of_decide_eq_true (h2 p hp)
  rw [blook_idK, rlook_idK, if_neg (by omega), if_neg (by omega)]; exact ⟨rfl, rfl⟩
/-- .. and one object more among the small ones. -/
theorem segK_ok1 {nx n k : Nat} {A : List (Nat × Nat)} (hA : gcOk 0 nx ((k, nx - 1) :: A) = true) (h1 : (((k, nx - 1) :: A).all fun p => decide (1000000 ≤ p.1)) = true) (h2 : (A.all fun p => decide (1000000 ≤ p.2)) = true) (hn : n < 1000000) (hx : 1000000 ≤ nx) : gcOk 0 nx (segK A n [(k, n)]) = true := by
  simp only [gcOk, Bool.and_eq_true, beq_iff_eq] at hA
  simp only [List.all_cons, Bool.and_eq_true, decide_eq_true_eq] at h1
  have h0 := segK_ok hA.2 h1.2 h2 (Nat.le_of_lt hn) hx
  have e : segK A n [(k, n)] = segK A n [] ++ [(k, n)] := by simp [segK]
  rw [e]
  refine gcOk_append h0 ?_ fun p hp => ?_
  · simp [gcOk, blook, rlook]; omega
  · have hb : p.2 ≠ n ∧ p.1 ≠ k := by
      rw [segK, List.append_nil] at hp
      rcases List.mem_append.1 hp with hp | hp
      · rw [List.all_eq_true] at h2
        have a2 := of_decide_eq_true (h2 p hp)
        refine ⟨by omega, fun hk => ?_⟩
        have := rlook_ne (show (p.1, p.2) ∈ A from hp)
        rw [hk] at this; exact this hA.1.2
      · have := mem_idK hp
        omega
    simp only [blook, rlook]
    rw [if_neg hb.1, if_neg hb.2]; exact ⟨rfl, rfl⟩

/-! ### Freezing them -/
def RObj.fzn : RObj → RObj
  | .arr esz es _ => .arr esz es true
  | o => o
def fzAll : Nat → Mem → Mem
  | 0, M => M
  | n + 1, M => match mlook (fzAll n M) n with
    | some o => mset (fzAll n M) n o.fzn
    | none => fzAll n M
/-- The cells of an object, read by their contents where these are frozen. -/
def St.snapA (j : Nat) (st : St) : Option St :=
  match mlook st.mem j with
  | some (.arr esz es false) => some ⟨st.vars, st.tmps, mset st.mem j (.arr esz (es.map fun c => c.map (AV.deep (snap st.mem))) false), st.nx⟩
  | _ => none

section
variable {P : Program} {fr : Fr} {ro : Option Nat} {ds : DS} {st st' : St} {Q Q' : Exit → St → Prop} {G G' : Nat → Option Value} {F F' : Nat → Nat → Prop} {a : Act} {w w' : World} {x y c : Code} {M : Mem}

theorem mlook_fzAll (M : Mem) (n i : Nat) : mlook (fzAll n M) i = if i < n then (mlook M i).map RObj.fzn else mlook M i := by
  induction n with
  | zero => simp [fzAll]
  | succ n ih =>
    have e : mlook (fzAll n M) n = mlook M n := by
      have : ∀ k, n ≤ k → mlook (fzAll n M) k = mlook M k := by
        clear ih
        intro k hk
        induction n with
        | zero => rfl
        | succ n ih2 =>
          simp only [fzAll]
          split
          · rw [mlook_mset, if_neg (by omega)]; exact ih2 (by omega)
          · exact ih2 (by omega)
      exact this n (Nat.le_refl _)
    simp only [fzAll]
    rw [e]
    split
    · rename_i o ho
      rw [mlook_mset]
      by_cases h : i = n
      · subst h; rw [if_pos rfl, if_pos (by omega), ho]; rfl
      · rw [if_neg h, ih]
        by_cases h2 : i < n
        · rw [if_pos h2, if_pos (by omega)]
        · rw [if_neg h2, if_neg (by omega)]
    · rename_i ho
      rw [ih]
      by_cases h : i = n
      · subst h; rw [if_neg (by omega), if_pos (by omega), ho]; rfl
      · by_cases h2 : i < n
        · rw [if_pos h2, if_pos (by omega)]
        · rw [if_neg h2, if_neg (by omega)]
theorem fzAll_cons {n : Nat} (hn : n ≤ 1000000) (k : Nat) (hk : 1000000 ≤ k) (o : RObj) (M : Mem) : fzAll n ((k, o) :: M) = (k, o) :: fzAll n M := by
  induction n with
  | zero => rfl
  | succ n ih =>
    have hne : ¬ n = k := by omega
    simp only [fzAll, ih (by omega), mlook, if_neg hne]
    split
    · simp only [mset, if_neg hne]
    · rfl
theorem fzAll_seg' (l : List RObj) : ∀ n, n ≤ l.length → fzAll n (mseg l) = mseg ((l.take n).map RObj.fzn ++ l.drop n)
  | 0, _ => by simp [fzAll]
  | n + 1, h => by
    have hd : l.drop n = l[n] :: l.drop (n + 1) := List.drop_eq_getElem_cons (by omega)
    have hl : ((l.take n).map RObj.fzn).length = n := by simp; omega
    simp only [fzAll]
    rw [fzAll_seg' l n (by omega), mlook_mseg, List.getElem?_append_right (by omega), hl, Nat.sub_self, hd]
    simp only [List.getElem?_cons_zero]
    rw [mset_mseg _ (by simp; omega), List.set_append_right _ _ (by omega), hl, Nat.sub_self, List.set_cons_zero, List.take_add_one, List.getElem?_eq_getElem (by omega), Option.toList_some, List.map_append, List.map_singleton, List.append_assoc]
    rfl
theorem fzAll_seg {n : Nat} {l : List RObj} (h : l.length = n) : fzAll n (mseg l) = mseg (l.map RObj.fzn) := by
  subst h; rw [fzAll_seg' l _ (Nat.le_refl _), List.take_length, List.drop_length, List.append_nil]
theorem SimA.fzAll (n : Nat) (s : SimA P fr ds G F st a w) (h : ∀ i, i < n → ∃ esz es fz, mlook st.mem i = some (.arr esz es fz) ∧ es.all AV.norefs = true) :
    ∃ F', SimA P fr ds G F' ⟨st.vars, st.tmps, Avl.fzAll n st.mem, st.nx⟩ a w ∧ Step (· < fr.base) G F st.mem w G F' (Avl.fzAll n st.mem) w := by
  induction n with
  | zero => exact ⟨F, s, .refl⟩
  | succ n ih =>
    obtain ⟨F1, s1, S1⟩ := ih fun i hi => h i (by omega)
    obtain ⟨esz, es, fz, ho, hn⟩ := h n (Nat.lt_succ_self _)
    have hm : mlook (Avl.fzAll n st.mem) n = some (.arr esz es fz) := by rw [mlook_fzAll, if_neg (by omega)]; exact ho
    have he : St.fz n ⟨st.vars, st.tmps, Avl.fzAll n st.mem, st.nx⟩ = some ⟨st.vars, st.tmps, mset (Avl.fzAll n st.mem) n (.arr esz es true), st.nx⟩ := by
      simp only [St.fz, hm, hn]; rfl
    obtain ⟨F2, s2, S2⟩ := s1.fz he
    refine ⟨F2, ?_, ?_⟩
    · simp only [Avl.fzAll, hm]; exact s2
    · simp only [Avl.fzAll, hm]; exact S1.trans S2
theorem EvC.fzAll (n : Nat) (h : ∀ i, i < n → ∃ esz es fz, mlook st.mem i = some (.arr esz es fz) ∧ es.all AV.norefs = true) (hc : EvC P fr ro ds c ⟨st.vars, st.tmps, Avl.fzAll n st.mem, st.nx⟩ Q) : EvC P fr ro ds c st Q :=
  EvC.conv (fun _ _ _ _ s => let ⟨F', s', S'⟩ := s.fzAll n h; ⟨_, F', s', S'⟩) hc

theorem simM_snapA {nx j esz : Nat} {es : List (List AV)} (hm : SimM P G F M nx w) (ho : mlook M j = some (.arr esz es false)) :
    SimM P G F (mset M j (.arr esz (es.map fun c => c.map (AV.deep (snap M))) false)) nx w ∧ Step All G F M w G F (mset M j (.arr esz (es.map fun c => c.map (AV.deep (snap M))) false)) w := by
  obtain ⟨es', hes⟩ : ∃ es', es' = es.map fun c => c.map (AV.deep (snap M)) := ⟨_, rfl⟩
  rw [← hes]
  have hle : es'.length = es.length := by rw [hes, List.length_map]
  have hold := (hm.obj j _ ho).2
  have S : Step All G F M w G F (mset M j (.arr esz es' false)) w :=
    { kept := .refl
      size := Nat.le_refl _
      out := fun _ _ _ => rfl
      F1 := fun _ _ h => h
      F2 := fun _ _ _ => rfl
      F3 := fun b o h => .inl h
      own := fun b ⟨id, o, v, h3, h4, h5⟩ => by
        rw [mlook_mset] at h3
        by_cases hi : id = j
        · subst hi; exact .inr ⟨id, _, v, ho, h4, h5⟩
        · rw [if_neg hi] at h3; exact .inr ⟨id, o, v, h3, h4, h5⟩
      some' := fun _ _ h => h
      same := fun _ _ _ h _ => h
      keep := fun id o' _ hG h3 => by
        obtain ⟨v, hv⟩ := Option.ne_none_iff_exists'.1 hG
        rw [mlook_mset] at h3
        by_cases hi : id = j
        · subst hi
          rw [if_pos rfl] at h3; cases h3
          exact ⟨_, v, v, ho, hv, hv, ⟨rfl, .inl ⟨hle, rfl⟩⟩⟩
        · rw [if_neg hi] at h3
          exact ⟨o', v, v, h3, hv, hv, objKeep.refl v o'⟩ }
  have hinj : ∀ id id' v v' b, mlook (mset M j (.arr esz es' false)) id ≠ none → mlook (mset M j (.arr esz es' false)) id' ≠ none → G id = some v → G id' = some v' → blkOf v = some b → blkOf v' = some b → id = id' := by
    intro id id' v v' b h1 h2
    refine hm.inj id id' v v' b ?_ ?_
    · rw [mlook_mset] at h1; by_cases hi : id = j
      · subst hi; rw [ho]; simp
      · rwa [if_neg hi] at h1
    · rw [mlook_mset] at h2; by_cases hi : id' = j
      · subst hi; rw [ho]; simp
      · rwa [if_neg hi] at h2
  refine ⟨simM_gen hm S (fun id o' h => ?_) hinj hm.inF, S⟩
  rw [mlook_mset] at h
  by_cases hi : id = j
  · subst hi; rw [if_pos rfl] at h; cases h
    refine ⟨(hm.obj id _ ho).1, .inl ?_⟩
    rcases hold with ⟨h0, h0'⟩ | ⟨b, c, cc, e, h1, h2, h3, h4, h5, h6, h7, h8, h9⟩
    · exact .inl ⟨by rw [hes, h0]; rfl, h0'⟩
    · refine .inr ⟨b, c, cc, e, by rw [hle]; exact h1, h2, h3, by rw [hle]; exact h4, h5, fun i hi' => ?_, fun i l hi' hl' => ?_, fun o h => absurd (h8 o h).1 (by simp), fun h => (by cases h)⟩
      · have hi2 : i < es.length := by rw [← hle]; exact hi'
        simp only [hes, List.getElem_map, List.length_map]
        exact h6 _ hi2
      · have hi2 : i < es.length := by rw [← hle]; exact hi'
        have e2 : es'[i] = es[i].map (AV.deep (snap M)) := by simp [hes]
        have hl2 : l < es[i].length := by rw [e2, List.length_map] at hl'; exact hl'
        obtain ⟨v, k1, k2, k3⟩ := h7 i l hi2 hl2
        refine ⟨v, k1, k2, ?_⟩
        have e3 : es'[i][l] = AV.deep (snap M) es[i][l] := by simp [e2]
        rw [e3]
        exact (k3.deep fun v y h => h.snap hm).step S fun _ _ => trivial
  · rw [if_neg hi] at h
    exact ⟨(hm.obj id _ h).1, .inr ⟨h, rfl, fun b v hG hb => ⟨rfl, fun _ h => h⟩⟩⟩
theorem SimA.snapA {j : Nat} (s : SimA P fr ds G F st a w) (h : st.snapA j = some st') : SimA P fr ds G F st' a w ∧ Step (· < fr.base) G F st.mem w G F st'.mem w := by
  unfold St.snapA at h
  split at h
  · rename_i esz es ho
    cases h
    obtain ⟨hm', S'⟩ := simM_snapA s.sim.mem ho
    exact ⟨⟨⟨hm', fun k => (s.sim.slots k).step S' (fun _ _ => trivial), s.sim.size⟩, s.fresh, s.defers⟩, S'.mono fun _ _ => trivial⟩
  · cases h
theorem EvC.snapA (j : Nat) (h : st.snapA j = some st') (hc : EvC P fr ro ds c st' Q) : EvC P fr ro ds c st Q :=
  EvC.conv (fun _ _ _ _ s => let ⟨s', S'⟩ := s.snapA h; ⟨_, _, s', S'⟩) hc
end
attribute [go_sem] St.snapA mlook_mseg renMem_segK
end Go.Avl
namespace Go.Avl
open Go

/-- The slots that an operation reads, its guard's among them. -/
def slotsOf (ops : List It) (o : Oper) : List Nat := opSlots o.op.operands.toList ++ match o.guard with
  | some (j, _) => match ops[j]? with
    | some u => match u.o.dst with
      | some k => [2 * k]
      | none => []
    | none => []
  | none => []
def dstC (o : Oper) : List Nat := match o.dst with
  | some k => [2 * k]
  | none => []
def rdOk (ops : List It) (t : It) : Bool := t.rd.all fun x => (x % 2 == 1 && !memless t.o.op) || (slotsOf ops t.o).contains x
def confT (ops : List It) (i : Nat) (t : It) : Nat → List It → Bool
  | _, [] => true
  | m, u :: l => (i == m || (depsOf t.o).contains m || (depsOf u.o).contains i || (!((slotsOf ops t.o ++ dstC t.o).any fun x => (dstC u.o).contains x) && !((!memless t.o.op || t.r.fx.isSome) && u.r.fx.isSome))) && confT ops i t (m + 1) l
def confS (all : List It) : Nat → List It → Bool
  | _, [] => true
  | i, t :: l => (depsOf t.o).all (fun e => decide (e < i)) && confT all i t 0 all && confS all (i + 1) l

theorem confT_spec {all : List It} {i : Nat} {t : It} : ∀ (l : List It) (m0 : Nat), confT all i t m0 l = true → ∀ m u, l[m]? = some u → i = m0 + m ∨ m0 + m ∈ depsOf t.o ∨ i ∈ depsOf u.o ∨ ((∀ x, x ∈ slotsOf all t.o ∨ x ∈ dstC t.o → x ∉ dstC u.o) ∧ (memless t.o.op = true ∧ t.r.fx = none ∨ u.r.fx = none)) := by
  intro l
  induction l with
  | nil => intro m0 _ m u hm; simp at hm
  | cons u0 l ih =>
    intro m0 h m u hm
    simp only [confT, Bool.and_eq_true] at h
    cases m with
    | zero =>
      have e : u0 = u := by simpa using hm
      subst e
      have h1 := h.1
      simp only [Bool.or_eq_true, beq_iff_eq, List.contains_iff_mem, Bool.and_eq_true, Bool.not_eq_true', List.any_eq_false, List.mem_append] at h1
      rcases h1 with ((h1 | h1) | h1) | h1
      · exact .inl h1
      · exact .inr (.inl h1)
      · exact .inr (.inr (.inl h1))
      · refine .inr (.inr (.inr ⟨fun x hx hm => h1.1 x hx (by simpa using hm), ?_⟩))
        have h2 := h1.2
        cases hu : u0.r.fx with
        | none => exact .inr rfl
        | some p =>
          left
          rw [hu] at h2
          cases ht : t.r.fx with
          | none => rw [ht] at h2; simp at h2; exact ⟨h2, rfl⟩
          | some q => rw [ht] at h2; simp at h2
    | succ m =>
      have := ih (m0 + 1) h.2 m u (by simpa using hm)
      rwa [show m0 + 1 + m = m0 + (m + 1) by omega] at this
theorem confS_spec {all : List It} : ∀ (l : List It) (i0 : Nat), confS all i0 l = true → ∀ i t, l[i]? = some t → (∀ e ∈ depsOf t.o, e < i0 + i) ∧ confT all (i0 + i) t 0 all = true := by
  intro l
  induction l with
  | nil => intro i0 _ i t hi; simp at hi
  | cons t0 l ih =>
    intro i0 h i t hi
    simp only [confS, Bool.and_eq_true] at h
    cases i with
    | zero =>
      have e : t0 = t := by simpa using hi
      subst e
      refine ⟨fun e he => ?_, h.1.2⟩
      have := h.1.1
      rw [List.all_eq_true] at this
      simpa using this e he
    | succ i =>
      have := ih (i0 + 1) h.2 i t (by simpa using hi)
      rwa [show i0 + 1 + i = i0 + (i + 1) by omega] at this
theorem wl_split {d : Option Nat} {r : Rc} {x : Nat} (h : x ∈ wl d r) : (d.isSome = true ∧ x ∈ (match d with | some k => [2 * k] | none => [])) ∨ (x % 2 = 1 ∧ r.fx ≠ none) := by
  unfold wl at h
  rcases List.mem_append.1 h with h | h
  · cases d with
    | none => cases h
    | some k => exact .inl ⟨rfl, h⟩
  · right
    cases hf : r.fx with
    | none => rw [hf] at h; cases h
    | some p => rw [hf] at h; simp at h; exact ⟨by omega, by simp⟩
theorem Conf.ofS {l : List It} (h1 : l.all (rdOk l) = true) (h2 : confS l 0 l = true) : Conf l where
  back := fun i t hi e he => by have := (confS_spec l 0 h2 i t hi).1 e he; omega
  edge := fun i m t u hi hm hne x hx hu => by
    have h3 := (confS_spec l 0 h2 i t hi).2
    rw [Nat.zero_add] at h3
    have h4 := confT_spec l 0 h3 m u hm
    rw [Nat.zero_add] at h4
    rcases h4 with h4 | h4 | h4 | ⟨h4, h5⟩
    · exact absurd h4 hne
    · exact .inl h4
    · exact .inr h4
    · exfalso
      rw [List.all_eq_true] at h1
      have h6 := h1 t (List.mem_of_getElem? hi)
      unfold rdOk at h6
      rw [List.all_eq_true] at h6
      have hd : ∀ {o : Oper} {r : Rc}, x ∈ wl o.dst r → x ∈ dstC o ∨ (x % 2 = 1 ∧ r.fx ≠ none) := fun {o r} h => by
        rcases wl_split h with h | h
        · exact .inl h.2
        · exact .inr h
      have he : ∀ {o : Oper}, x ∈ dstC o → x % 2 = 0 := fun {o} h => by
        unfold dstC at h
        split at h
        · simp at h; omega
        · cases h
      rcases hd hu with hu | ⟨hu1, hu2⟩
      · have hev := he hu
        rcases hx with hx | hx
        · have := h6 x hx
          simp only [Bool.or_eq_true, Bool.and_eq_true, beq_iff_eq, List.contains_iff_mem] at this
          rcases this with h | h
          · omega
          · exact h4 x (.inl h) hu
        · rcases hd hx with hx | ⟨h, _⟩
          · exact h4 x (.inr hx) hu
          · omega
      · rcases h5 with ⟨h5, h5'⟩ | h5
        · rcases hx with hx | hx
          · have := h6 x hx
            simp only [Bool.or_eq_true, Bool.and_eq_true, beq_iff_eq, List.contains_iff_mem, h5, Bool.not_true, Bool.false_eq_true, and_false, false_or] at this
            have hs : ∀ y ∈ slotsOf l t.o, y % 2 = 0 := fun y hy => by
              unfold slotsOf at hy
              rcases List.mem_append.1 hy with hy | hy
              · have hos : ∀ xs : List Operand, ∀ y ∈ opSlots xs, y % 2 = 0 := by
                  intro xs
                  induction xs with
                  | nil => intro y hy; simp [opSlots] at hy
                  | cons z xs ih =>
                    intro y hy
                    cases z with
                    | tmp t =>
                      simp only [opSlots, List.mem_cons] at hy
                      rcases hy with hy | hy
                      · omega
                      · exact ih y hy
                    | const v => exact ih y (by simpa only [opSlots] using hy)
                    | global g => exact ih y (by simpa only [opSlots] using hy)
                    | func f => exact ih y (by simpa only [opSlots] using hy)
                exact hos _ y hy
              · split at hy
                · split at hy
                  · split at hy
                    · simp at hy; omega
                    · cases hy
                  · cases hy
                · cases hy
            have := hs x this
            omega
          · rcases hd hx with hx | ⟨_, h⟩
            · have := he hx; omega
            · exact h h5'
        · exact hu2 h5
theorem confOne_of {i : Nat} {t : It} {all : List It} (hc : Conf all) (hi : all[i]? = some t) : ∀ (l : List It) (m0 : Nat), (∀ m u, l[m]? = some u → all[m0 + m]? = some u) → confOne i t m0 l = true
  | [], _, _ => rfl
  | u :: l, m0, h => by
    simp only [confOne, Bool.and_eq_true]
    refine ⟨?_, confOne_of hc hi l (m0 + 1) fun m u hm => by rw [show m0 + 1 + m = m0 + (m + 1) by omega]; exact h (m + 1) u (by simpa using hm)⟩
    have hu := h 0 u (by simp)
    rw [Nat.add_zero] at hu
    by_cases e : i = m0
    · simp [e]
    by_cases hx : ((t.rd ++ wl t.o.dst t.r).any fun x => (wl u.o.dst u.r).contains x) = true
    · rw [List.any_eq_true] at hx
      obtain ⟨x, h1, h2⟩ := hx
      rcases hc.edge i m0 t u hi hu e x (List.mem_append.1 h1) (by simpa using h2) with h | h
      · simp [h]
      · simp [h]
    · simp only [Bool.not_eq_true] at hx
      rw [hx]; simp
theorem confAll_of' {all : List It} (hc : Conf all) : ∀ (l : List It) (i0 : Nat), (∀ i t, l[i]? = some t → all[i0 + i]? = some t) → confAll all i0 l = true
  | [], _, _ => rfl
  | t :: l, i0, h => by
    have ht := h 0 t (by simp)
    rw [Nat.add_zero] at ht
    simp only [confAll, Bool.and_eq_true]
    refine ⟨⟨?_, confOne_of hc ht all 0 fun m u hm => by rw [Nat.zero_add]; exact hm⟩, confAll_of' hc l (i0 + 1) fun i t hi => by rw [show i0 + 1 + i = i0 + (i + 1) by omega]; exact h (i + 1) t (by simpa using hi)⟩
    rw [List.all_eq_true]
    intro e he
    simpa using hc.back i0 t ht e he
/-- The order of a drawn region, by its slots. -/
theorem confAll_slots {l : List It} (h1 : l.all (rdOk l) = true) (h2 : confS l 0 l = true) : confAll l 0 l = true :=
  confAll_of' (Conf.ofS h1 h2) l 0 fun i t h => by rw [Nat.zero_add]; exact h
theorem odd_code (x : Nat) : ((2 * x + 1) % 2 == 1) = true := by simp
end Go.Avl
namespace Go.Avl
open Go

/-- What has no references stays as it is. -/
theorem deep_fix {σ : AV → AV} (hσ : ∀ v, v.noref = true → σ v = v) : ∀ (d : Nat) (v : AV), SizeOf.sizeOf v ≤ d → v.noref = true → v.deep σ = v
  | 0, v, h, _ => by cases v <;> simp at h
  | d + 1, v, h, hn => by
    have hl : ∀ cs : List AV, SizeOf.sizeOf cs ≤ d → AV.norefs cs = true → AV.deeps σ cs = cs := by
      intro cs
      induction cs with
      | nil => intro _ _; rfl
      | cons c cs ih =>
        intro h1 h2
        simp only [AV.norefs, Bool.and_eq_true] at h2
        simp only [List.cons.sizeOf_spec] at h1
        rw [AV.deeps, deep_fix hσ d c (by omega) h2.1, ih (by omega) h2.2]
    cases v with
    | ag cs => simp only [AV.ag.sizeOf_spec] at h; rw [AV.deep, hl cs (by omega) (by simpa [AV.noref] using hn)]
    | tu cs => simp only [AV.tu.sizeOf_spec] at h; rw [AV.deep, hl cs (by omega) (by simpa [AV.noref] using hn)]
    | ifc t v => simp only [AV.ifc.sizeOf_spec] at h; rw [AV.deep, deep_fix hσ d v (by omega) (by simpa [AV.noref] using hn)]
    | fn f cs => simp only [AV.fn.sizeOf_spec] at h; rw [AV.deep, hl cs (by omega) (by simpa [AV.noref] using hn)]
    | opt b v => simp only [AV.opt.sizeOf_spec] at h; rw [AV.deep, deep_fix hσ d v (by omega) (by simpa [AV.noref] using hn)]
    | _ => exact hσ _ hn
theorem deeps_fix {σ : AV → AV} (hσ : ∀ v, v.noref = true → σ v = v) : ∀ {cs : List AV}, AV.norefs cs = true → AV.deeps σ cs = cs
  | [], _ => rfl
  | c :: cs, h => by
    simp only [AV.norefs, Bool.and_eq_true] at h
    rw [AV.deeps, deep_fix hσ _ c (Nat.le_refl _) h.1, deeps_fix hσ h.2]
theorem snap_fix (M : Mem) (v : AV) (h : v.noref = true) : snap M v = v := by cases v <;> first | rfl | cases h
theorem toIa_fix (i : Nat) (cs : List AV) (v : AV) (h : v.noref = true) : toIa i cs v = v := by cases v <;> first | rfl | cases h
theorem deeps_snap {cs : List AV} (h : AV.norefs cs = true) (M : Mem) : AV.deeps (snap M) cs = cs := deeps_fix (snap_fix M) h
theorem deeps_toIa {cs : List AV} (h : AV.norefs cs = true) (i : Nat) (ds : List AV) : AV.deeps (toIa i ds) cs = cs := deeps_fix (toIa_fix i ds) h

section
variable {α : Type}
def upd1 (f : Nat → α) (t : Nat) (x : α) : Nat → α := fun k => if k = t then x else f k
def upd2 (W : Nat → Nat → α) (s t : Nat) (x : α) : Nat → Nat → α := fun a b => if a = s ∧ b = t then x else W a b
def gcells (C : α → List AV) (f : Nat → α) (m : Nat) : List (List AV) := (List.range m).map fun t => C (f t)
theorem gcells_len (C : α → List AV) (f : Nat → α) (m : Nat) : (gcells C f m).length = m := by simp [gcells]
theorem gcells_get (C : α → List AV) (f : Nat → α) {m t : Nat} (h : t < m) : (gcells C f m)[t]? = some (C (f t)) := by rw [gcells, List.getElem?_map, List.getElem?_range h]; rfl
theorem gcells_norefs {C : α → List AV} (hC : ∀ x, AV.norefs (C x) = true) (f : Nat → α) (m : Nat) : (gcells C f m).all AV.norefs = true := by simp [List.all_eq_true, gcells, hC]
theorem gcells_all {C : α → List AV} {e : Nat} (hC : ∀ x, (C x).length = e) (f : Nat → α) (m : Nat) : ((gcells C f m).all fun y => decide (y.length = e)) = true := by simp [List.all_eq_true, gcells, hC]
theorem gcells_const (C : α → List AV) (x : α) (m : Nat) : List.replicate m (C x) = gcells C (fun _ => x) m :=
  List.ext_getElem (by simp [gcells]) fun i h1 h2 => by simp [gcells]
theorem gcells_congr (C : α → List AV) {f g : Nat → α} {m : Nat} (h : ∀ t, t < m → f t = g t) : gcells C f m = gcells C g m :=
  List.map_congr_left fun t ht => by rw [h t (List.mem_range.1 ht)]
theorem range_set {β : Type} (f : Nat → β) {n s : Nat} (x : β) (h : s < n) : ((List.range n).map f).set s x = (List.range n).map fun i => if i = s then x else f i := by
  refine List.ext_getElem (by simp) fun i h1 h2 => ?_
  simp only [List.getElem_set, List.getElem_map, List.getElem_range]
  by_cases e : s = i
  · subst e; simp
  · rw [if_neg e, if_neg (Ne.symm e)]
theorem gcells_set (C : α → List AV) (f : Nat → α) {m t : Nat} (x : α) (h : t < m) : (gcells C f m).set t (C x) = gcells C (upd1 f t x) m := by
  rw [gcells, range_set _ _ h, gcells]
  refine List.map_congr_left fun k _ => ?_
  by_cases e : k = t
  · subst e; simp [upd1]
  · simp [upd1, e]
theorem gcells_snoc (C : α → List AV) (f : Nat → α) (m : Nat) : gcells C f m ++ [C (f m)] = gcells C f (m + 1) := by simp [gcells, List.range_succ]

/-- The cells of the outer slice: each row a slice of its own. -/
def mcell (m n : Nat) : List (List AV) := (List.range n).map fun s => [.tv s m 0 m (.val m)]
theorem mcell_len (m n : Nat) : (mcell m n).length = n := by simp [mcell]
theorem mcell_get {m n s : Nat} (h : s < n) : (mcell m n)[s]? = some [.tv s m 0 m (.val m)] := by rw [mcell, List.getElem?_map, List.getElem?_range h]; rfl
theorem mcell_succ (m n : Nat) : mcell m n ++ [[.tv n m 0 m (.val m)]] = mcell m (n + 1) := by simp [mcell, List.range_succ]
theorem mcell_ren {m n : Nat} {K : List (Nat × Nat)} (h : ∀ s, s < n → rlook K s = some s) : (mcell m n).map (fun c => c.map (AV.ren K)) = mcell m n := by
  rw [mcell, List.map_map]
  refine List.map_congr_left fun s hs => ?_
  simp only [Function.comp, List.map_cons, List.map_nil, AV.ren, AV.noref, Bool.false_eq_true, if_false, AV.deep, renLeaf, h s (List.mem_range.1 hs)]
theorem mcell_snap {m n e : Nat} {M : Mem} {row : Nat → List (List AV)} (h : ∀ s, s < n → mlook M s = some (.arr e (row s) true)) (hl : ∀ s, s < n → (row s).length = m) : (mcell m n).map (fun c => c.map (AV.deep (snap M))) = (List.range n).map fun s => [.sl false (row s) .full] := by
  rw [mcell, List.map_map]
  refine List.map_congr_left fun s hs => ?_
  have hs := List.mem_range.1 hs
  have e2 : tvEs (row s) m 0 m = row s := by simp [tvEs]
  simp only [Function.comp, List.map_cons, List.map_nil, AV.deep, snap, h s hs, hl s hs, if_true, e2, tvCap]

/-- Some rows made, the others nil. -/
def mpart (m n s : Nat) : List (List AV) := mcell m s ++ List.replicate (n - s) [.sl true [] .zer]
theorem mpart_len {m n s : Nat} (h : s ≤ n) : (mpart m n s).length = n := by simp [mpart, mcell_len]; omega
theorem mpart_zero (m n : Nat) : mpart m n 0 = List.replicate n [.sl true [] .zer] := by simp [mpart, mcell]
theorem mpart_all (m n : Nat) : mpart m n n = mcell m n := by simp [mpart]
theorem mpart_get {m n s : Nat} (h : s < n) : (mpart m n s)[s]? = some [.sl true [] .zer] := by
  rw [mpart, List.getElem?_append_right (by rw [mcell_len]; omega), mcell_len, Nat.sub_self, List.getElem?_replicate, if_pos (by omega)]
theorem mpart_ren {m n s k : Nat} {K : List (Nat × Nat)} (h : s < n) (hk : rlook K k = some s) (hK : ∀ j, j < s → rlook K j = some j) : ((mpart m n s).set s [.tv k m 0 m (.val m)]).map (fun c => c.map (AV.ren K)) = mpart m n (s + 1) := by
  obtain ⟨d, hd⟩ : ∃ d, n - s = d + 1 := ⟨n - s - 1, by omega⟩
  have hd' : n - (s + 1) = d := by omega
  rw [mpart, List.set_append_right _ _ (by rw [mcell_len]; omega), mcell_len, Nat.sub_self, hd, List.replicate_succ, List.set_cons_zero, List.map_append, mcell_ren hK, List.map_cons, mpart, hd', ← mcell_succ, List.append_assoc]
  congr 1
  simp [AV.ren, AV.noref, AV.deep, renLeaf, hk]
theorem mpart_same {m n s : Nat} {K : List (Nat × Nat)} (hK : ∀ j, j < s → rlook K j = some j) : (mpart m n s).map (fun c => c.map (AV.ren K)) = mpart m n s := by
  rw [mpart, List.map_append, mcell_ren hK]
  congr 1
  simp [AV.ren, AV.noref]
theorem mpart_norefs {m n s k : Nat} (h : s < n) : ((mpart m n s).set s [.tv k m 0 m (.val m)]).all AV.norefs = false := by
  rw [List.all_eq_false]
  refine ⟨[.tv k m 0 m (.val m)], ?_, by simp [AV.norefs, AV.noref]⟩
  rw [List.mem_iff_getElem]
  exact ⟨s, by rw [List.length_set, mpart_len (Nat.le_of_lt h)]; exact h, by simp⟩
def grow (e : Nat) (C : α → List AV) (W : Nat → Nat → α) (m s : Nat) : RObj := .arr e (gcells C (W s) m) false
/-- The rows, as objects. -/
def gtab (e : Nat) (C : α → List AV) (W : Nat → Nat → α) (n m : Nat) : Mem := mseg ((List.range n).map (grow e C W m))
theorem gtab_zero (e : Nat) (C : α → List AV) (W : Nat → Nat → α) (m : Nat) : gtab e C W 0 m = [] := rfl
theorem gtab_look (e : Nat) (C : α → List AV) (W : Nat → Nat → α) {n m s : Nat} (h : s < n) : mlook (gtab e C W n m) s = some (.arr e (gcells C (W s) m) false) := by
  rw [gtab, mlook_mseg, List.getElem?_map, List.getElem?_range h]; rfl
theorem gtab_set (e : Nat) (C : α → List AV) (W : Nat → Nat → α) {n m s t : Nat} (x : α) (hs : s < n) (ht : t < m) : mset (gtab e C W n m) s (.arr e ((gcells C (W s) m).set t (C x)) false) = gtab e C (upd2 W s t x) n m := by
  rw [gtab, mset_mseg _ (by simpa using hs), range_set _ _ hs, gcells_set C _ x ht, gtab]
  congr 1
  refine List.map_congr_left fun i _ => ?_
  by_cases e2 : i = s
  · subst e2; rw [if_pos rfl, grow]
    congr 1
    refine gcells_congr C fun k _ => ?_
    simp [upd1, upd2]
  · rw [if_neg e2, grow, grow]
    congr 1
    refine gcells_congr C fun k _ => ?_
    simp [upd2, e2]
theorem gtab_set_hi (e : Nat) (C : α → List AV) (W : Nat → Nat → α) {n m s t k : Nat} (x : α) (hs : s < n) (ht : t < m) (hn : n ≤ 1000000) (hk : 1000000 ≤ k) (o : RObj) : mset (mset (gtab e C W n m) k o) s (.arr e ((gcells C (W s) m).set t (C x)) false) = mset (gtab e C (upd2 W s t x) n m) k o := by
  rw [mset_comm (by rw [gtab_look e C W hs]; rfl) (by omega), gtab_set e C W x hs ht]
theorem gtab_ren (e : Nat) {C : α → List AV} (hC : ∀ x, AV.norefs (C x) = true) (W : Nat → Nat → α) (n m : Nat) (K : List (Nat × Nat)) : renMem (gtab e C W n m) K (idK n) = gtab e C W n m := by
  rw [gtab, renMem_seg K (by simp), List.map_map]
  congr 1
  refine List.map_congr_left fun s _ => ?_
  simp only [Function.comp, grow, RObj.ren, gcells_norefs hC, if_true]
theorem gtab_snoc (e : Nat) (C : α → List AV) (W : Nat → Nat → α) (n m : Nat) : gtab e C W n m ++ [(n, .arr e (gcells C (W n) m) false)] = gtab e C W (n + 1) m := by
  rw [gtab, mseg_snoc _ _ (n := n) (by simp), gtab, List.range_succ, List.map_append]; rfl
theorem gtab_snoc1 (e : Nat) (C : α → List AV) (x : α) (n m : Nat) : gtab e C (fun _ _ => x) n m ++ [(n, .arr e (gcells C (fun _ => x) m) false)] = gtab e C (fun _ _ => x) (n + 1) m := gtab_snoc e C (fun _ _ => x) n m
/-- The same, frozen. -/
def gtabF (e : Nat) (C : α → List AV) (W : Nat → Nat → α) (n m : Nat) : Mem := mseg ((List.range n).map fun s => (grow e C W m s).fzn)
theorem gtab_fz (e : Nat) (C : α → List AV) (W : Nat → Nat → α) (n m : Nat) : fzAll n (gtab e C W n m) = gtabF e C W n m := by
  rw [gtab, fzAll_seg (by simp), List.map_map]; rfl
theorem gtabF_look (e : Nat) (C : α → List AV) (W : Nat → Nat → α) {n m s : Nat} (h : s < n) : mlook (gtabF e C W n m) s = some (.arr e (gcells C (W s) m) true) := by
  rw [gtabF, mlook_mseg, List.getElem?_map, List.getElem?_range h]; rfl
end
end Go.Avl
namespace Go.Avl
open Go Go.Proofs.Try
@[go_sem] theorem ty_cellsOf_22 : Program.cellsOf prog 22 = 1 := by kernel_rfl
@[go_sem] theorem ty_cellsOf_24 : Program.cellsOf prog 24 = 5 := by kernel_rfl
@[go_sem] theorem ty_cellsOf_25 : Program.cellsOf prog 25 = 1 := by kernel_rfl
@[go_sem] theorem ty_cellsOf_27 : Program.cellsOf prog 27 = 1 := by kernel_rfl
@[go_sem] theorem ty_cellsOf_3 : Program.cellsOf prog 3 = 1 := by kernel_rfl
@[go_sem] theorem ty_cellsOf_31 : Program.cellsOf prog 31 = 1 := by kernel_rfl
@[go_sem] theorem ty_cellsOf_35 : Program.cellsOf prog 35 = 1 := by kernel_rfl
@[go_sem] theorem ty_cellsOf_37 : Program.cellsOf prog 37 = 1 := by kernel_rfl
@[go_sem] theorem ty_cellsOf_4 : Program.cellsOf prog 4 = 1 := by kernel_rfl
@[go_sem] theorem ty_cellsOf_5 : Program.cellsOf prog 5 = 1 := by kernel_rfl
@[go_sem] theorem ty_cellsOf_58 : Program.cellsOf prog 58 = 2 := by kernel_rfl
@[go_sem] theorem ty_cellsOf_59 : Program.cellsOf prog 59 = 1 := by kernel_rfl
@[go_sem] theorem ty_cellsOf_70 : Program.cellsOf prog 70 = 1 := by kernel_rfl
@[go_sem] theorem ty_cellsOf_73 : Program.cellsOf prog 73 = 2 := by kernel_rfl
@[go_sem] theorem ty_cellsOf_76 : Program.cellsOf prog 76 = 1 := by kernel_rfl
@[go_sem] theorem ty_cellsOf_80 : Program.cellsOf prog 80 = 1 := by kernel_rfl
@[go_sem] theorem ty_cellsOf_81 : Program.cellsOf prog 81 = 1 := by kernel_rfl
@[go_sem] theorem ty_cellsOf_87 : Program.cellsOf prog 87 = 1 := by kernel_rfl
@[go_sem] theorem ty_eqKinds_113 : eqKinds prog 113 = none := by kernel_rfl
@[go_sem] theorem ty_eqKinds_123 : eqKinds prog 123 = none := by kernel_rfl
@[go_sem] theorem ty_eqKinds_3 : eqKinds prog 3 = none := by kernel_rfl
@[go_sem] theorem ty_eqKinds_37 : eqKinds prog 37 = none := by kernel_rfl
@[go_sem] theorem ty_eqKinds_4 : eqKinds prog 4 = none := by kernel_rfl
@[go_sem] theorem ty_eqKinds_5 : eqKinds prog 5 = none := by kernel_rfl
@[go_sem] theorem ty_eqKinds_55 : eqKinds prog 55 = none := by kernel_rfl
@[go_sem] theorem ty_eqKinds_58 : eqKinds prog 58 = some [Kd.int IntKind.i64, Kd.int IntKind.i64] := by kernel_rfl
@[go_sem] theorem ty_eqKinds_73 : eqKinds prog 73 = some [Kd.int IntKind.i64, Kd.int IntKind.i64] := by kernel_rfl
@[go_sem] theorem ty_kindsOf_73 : kindsOf prog 8 73 = some [Kd.int IntKind.i64, Kd.int IntKind.i64] := by kernel_rfl
@[go_sem] theorem ty_nilTy_113 : nilTy prog 113 = 0 := by kernel_rfl
@[go_sem] theorem ty_nilTy_123 : nilTy prog 123 = 0 := by kernel_rfl
@[go_sem] theorem ty_nilTy_3 : nilTy prog 3 = 0 := by kernel_rfl
@[go_sem] theorem ty_nilTy_37 : nilTy prog 37 = 0 := by kernel_rfl
@[go_sem] theorem ty_nilTy_4 : nilTy prog 4 = 0 := by kernel_rfl
@[go_sem] theorem ty_nilTy_5 : nilTy prog 5 = 0 := by kernel_rfl
@[go_sem] theorem ty_nilTy_55 : nilTy prog 55 = 0 := by kernel_rfl
@[go_sem] theorem ty_nilTy_58 : nilTy prog 58 = 0 := by kernel_rfl
@[go_sem] theorem ty_nilTy_73 : nilTy prog 73 = 0 := by kernel_rfl
@[go_sem] theorem ty_placeOf_24_0 : placeOf prog 24 0 = some (0, 1) := by kernel_rfl
@[go_sem] theorem ty_placeOf_24_1 : placeOf prog 24 1 = some (1, 1) := by kernel_rfl
@[go_sem] theorem ty_placeOf_24_2 : placeOf prog 24 2 = some (2, 1) := by kernel_rfl
@[go_sem] theorem ty_placeOf_24_3 : placeOf prog 24 3 = some (3, 1) := by kernel_rfl
@[go_sem] theorem ty_placeOf_24_4 : placeOf prog 24 4 = some (4, 1) := by kernel_rfl
@[go_sem] theorem ty_placeOf_27_0 : placeOf prog 27 0 = some (0, 1) := by kernel_rfl
@[go_sem] theorem ty_placeOf_33_0 : placeOf prog 33 0 = some (0, 1) := by kernel_rfl
@[go_sem] theorem ty_placeOf_33_1 : placeOf prog 33 1 = some (1, 1) := by kernel_rfl
@[go_sem] theorem ty_placeOf_33_2 : placeOf prog 33 2 = some (2, 1) := by kernel_rfl
@[go_sem] theorem ty_placeOf_50_0 : placeOf prog 50 0 = some (0, 1) := by kernel_rfl
@[go_sem] theorem ty_placeOf_50_1 : placeOf prog 50 1 = some (1, 1) := by kernel_rfl
@[go_sem] theorem ty_placeOf_50_2 : placeOf prog 50 2 = some (2, 1) := by kernel_rfl
@[go_sem] theorem ty_placeOf_58_0 : placeOf prog 58 0 = some (0, 1) := by kernel_rfl
@[go_sem] theorem ty_placeOf_58_1 : placeOf prog 58 1 = some (1, 1) := by kernel_rfl
@[go_sem] theorem ty_placeOf_73_0 : placeOf prog 73 0 = some (0, 1) := by kernel_rfl
@[go_sem] theorem ty_placeOf_73_1 : placeOf prog 73 1 = some (1, 1) := by kernel_rfl
@[go_sem] theorem ty_placeOf_88_0 : placeOf prog 88 0 = some (0, 1) := by kernel_rfl
@[go_sem] theorem ty_placeOf_88_1 : placeOf prog 88 1 = some (1, 1) := by kernel_rfl
@[go_sem] theorem ty_tarr_108 : tarr prog 108 = none := by kernel_rfl
@[go_sem] theorem ty_tarr_110 : tarr prog 110 = none := by kernel_rfl
@[go_sem] theorem ty_tarr_22 : tarr prog 22 = none := by kernel_rfl
@[go_sem] theorem ty_tarr_25 : tarr prog 25 = none := by kernel_rfl
@[go_sem] theorem ty_tarr_31 : tarr prog 31 = none := by kernel_rfl
@[go_sem] theorem ty_tarr_35 : tarr prog 35 = none := by kernel_rfl
@[go_sem] theorem ty_tarr_59 : tarr prog 59 = none := by kernel_rfl
@[go_sem] theorem ty_tarr_73 : tarr prog 73 = some (2, 3) := by kernel_rfl
@[go_sem] theorem ty_tarr_76 : tarr prog 76 = none := by kernel_rfl
@[go_sem] theorem ty_tarr_80 : tarr prog 80 = none := by kernel_rfl
@[go_sem] theorem ty_tarr_81 : tarr prog 81 = none := by kernel_rfl
@[go_sem] theorem ty_tarr_88 : tarr prog 88 = some (2, 87) := by kernel_rfl
@[go_sem] theorem ty_tbool_113 : tbool prog 113 = false := by kernel_rfl
@[go_sem] theorem ty_tbool_123 : tbool prog 123 = false := by kernel_rfl
@[go_sem] theorem ty_tbool_3 : tbool prog 3 = false := by kernel_rfl
@[go_sem] theorem ty_tbool_37 : tbool prog 37 = false := by kernel_rfl
@[go_sem] theorem ty_tbool_4 : tbool prog 4 = true := by kernel_rfl
@[go_sem] theorem ty_tbool_5 : tbool prog 5 = false := by kernel_rfl
@[go_sem] theorem ty_tbool_55 : tbool prog 55 = false := by kernel_rfl
@[go_sem] theorem ty_tbool_58 : tbool prog 58 = false := by kernel_rfl
@[go_sem] theorem ty_tbool_73 : tbool prog 73 = false := by kernel_rfl
@[go_sem] theorem ty_tbuild_24 : tbuild prog 24 = true := by kernel_rfl
@[go_sem] theorem ty_tbuild_27 : tbuild prog 27 = true := by kernel_rfl
@[go_sem] theorem ty_tbuild_33 : tbuild prog 33 = true := by kernel_rfl
@[go_sem] theorem ty_tbuild_50 : tbuild prog 50 = true := by kernel_rfl
@[go_sem] theorem ty_tbuild_58 : tbuild prog 58 = true := by kernel_rfl
@[go_sem] theorem ty_tbuild_73 : tbuild prog 73 = true := by kernel_rfl
@[go_sem] theorem ty_tbuild_88 : tbuild prog 88 = true := by kernel_rfl
@[go_sem] theorem ty_telem_100 : telem prog 100 = none := by kernel_rfl
@[go_sem] theorem ty_telem_103 : telem prog 103 = none := by kernel_rfl
@[go_sem] theorem ty_telem_108 : telem prog 108 = some 31 := by kernel_rfl
@[go_sem] theorem ty_telem_110 : telem prog 110 = some 37 := by kernel_rfl
@[go_sem] theorem ty_telem_113 : telem prog 113 = none := by kernel_rfl
@[go_sem] theorem ty_telem_120 : telem prog 120 = none := by kernel_rfl
@[go_sem] theorem ty_telem_123 : telem prog 123 = none := by kernel_rfl
@[go_sem] theorem ty_telem_22 : telem prog 22 = some 70 := by kernel_rfl
@[go_sem] theorem ty_telem_24 : telem prog 24 = none := by kernel_rfl
@[go_sem] theorem ty_telem_25 : telem prog 25 = some 5 := by kernel_rfl
@[go_sem] theorem ty_telem_27 : telem prog 27 = none := by kernel_rfl
@[go_sem] theorem ty_telem_3 : telem prog 3 = none := by kernel_rfl
@[go_sem] theorem ty_telem_31 : telem prog 31 = some 59 := by kernel_rfl
@[go_sem] theorem ty_telem_33 : telem prog 33 = none := by kernel_rfl
@[go_sem] theorem ty_telem_35 : telem prog 35 = some 3 := by kernel_rfl
@[go_sem] theorem ty_telem_37 : telem prog 37 = none := by kernel_rfl
@[go_sem] theorem ty_telem_5 : telem prog 5 = none := by kernel_rfl
@[go_sem] theorem ty_telem_55 : telem prog 55 = none := by kernel_rfl
@[go_sem] theorem ty_telem_58 : telem prog 58 = none := by kernel_rfl
@[go_sem] theorem ty_telem_59 : telem prog 59 = some 58 := by kernel_rfl
@[go_sem] theorem ty_telem_73 : telem prog 73 = none := by kernel_rfl
@[go_sem] theorem ty_telem_76 : telem prog 76 = some 73 := by kernel_rfl
@[go_sem] theorem ty_telem_80 : telem prog 80 = some 81 := by kernel_rfl
@[go_sem] theorem ty_telem_81 : telem prog 81 = some 4 := by kernel_rfl
@[go_sem] theorem ty_telem_86 : telem prog 86 = none := by kernel_rfl
@[go_sem] theorem ty_telem_88 : telem prog 88 = none := by kernel_rfl
@[go_sem] theorem ty_telem_94 : telem prog 94 = none := by kernel_rfl
@[go_sem] theorem ty_tfield_24_0 : tfield prog 24 0 = some (0, 5) := by kernel_rfl
@[go_sem] theorem ty_tfield_24_1 : tfield prog 24 1 = some (1, 5) := by kernel_rfl
@[go_sem] theorem ty_tfield_24_2 : tfield prog 24 2 = some (2, 5) := by kernel_rfl
@[go_sem] theorem ty_tfield_24_3 : tfield prog 24 3 = some (3, 4) := by kernel_rfl
@[go_sem] theorem ty_tfield_24_4 : tfield prog 24 4 = some (4, 22) := by kernel_rfl
@[go_sem] theorem ty_tfield_27_0 : tfield prog 27 0 = some (0, 25) := by kernel_rfl
@[go_sem] theorem ty_tfield_29_0 : tfield prog 29 0 = some (0, 24) := by kernel_rfl
@[go_sem] theorem ty_tfield_29_1 : tfield prog 29 1 = some (5, 27) := by kernel_rfl
@[go_sem] theorem ty_tfield_33_0 : tfield prog 33 0 = some (0, 3) := by kernel_rfl
@[go_sem] theorem ty_tfield_33_1 : tfield prog 33 1 = some (1, 3) := by kernel_rfl
@[go_sem] theorem ty_tfield_33_2 : tfield prog 33 2 = some (2, 31) := by kernel_rfl
@[go_sem] theorem ty_tfield_50_0 : tfield prog 50 0 = some (0, 35) := by kernel_rfl
@[go_sem] theorem ty_tfield_50_1 : tfield prog 50 1 = some (1, 35) := by kernel_rfl
@[go_sem] theorem ty_tfield_50_2 : tfield prog 50 2 = some (2, 35) := by kernel_rfl
@[go_sem] theorem ty_tfield_58_0 : tfield prog 58 0 = some (0, 3) := by kernel_rfl
@[go_sem] theorem ty_tfield_58_1 : tfield prog 58 1 = some (1, 3) := by kernel_rfl
@[go_sem] theorem ty_tiface_9 : tiface prog 9 = false := by kernel_rfl
@[go_sem] theorem ty_tinf_3 : tinf prog 3 = true := by kernel_rfl
@[go_sem] theorem ty_tinf_31 : tinf prog 31 = true := by kernel_rfl
@[go_sem] theorem ty_tinf_37 : tinf prog 37 = true := by kernel_rfl
@[go_sem] theorem ty_tinf_4 : tinf prog 4 = true := by kernel_rfl
@[go_sem] theorem ty_tinf_5 : tinf prog 5 = true := by kernel_rfl
@[go_sem] theorem ty_tinf_58 : tinf prog 58 = true := by kernel_rfl
@[go_sem] theorem ty_tinf_59 : tinf prog 59 = true := by kernel_rfl
@[go_sem] theorem ty_tinf_70 : tinf prog 70 = true := by kernel_rfl
@[go_sem] theorem ty_tinf_73 : tinf prog 73 = true := by kernel_rfl
@[go_sem] theorem ty_tinf_81 : tinf prog 81 = true := by kernel_rfl
@[go_sem] theorem ty_tinf_87 : tinf prog 87 = true := by kernel_rfl
@[go_sem] theorem ty_tinfo_103 : tinfo prog 103 = some { size := 1, agg := false, zero := [Value.nilFunc], bytes := 8 } := by kernel_rfl
@[go_sem] theorem ty_tinfo_22 : tinfo prog 22 = some { size := 1, agg := false, zero := [Value.slice none 0 0], bytes := 24 } := by kernel_rfl
@[go_sem] theorem ty_tinfo_24 : tinfo prog 24 = some { size := 5, agg := true, zero := [Value.int IntKind.u8 0, Value.int IntKind.u8 0, Value.int IntKind.u8 0, Value.bool false, Value.slice none 0 0], bytes := 32 } := by kernel_rfl
@[go_sem] theorem ty_tinfo_25 : tinfo prog 25 = some { size := 1, agg := false, zero := [Value.slice none 0 0], bytes := 24 } := by kernel_rfl
@[go_sem] theorem ty_tinfo_27 : tinfo prog 27 = some { size := 1, agg := true, zero := [Value.slice none 0 0], bytes := 24 } := by kernel_rfl
@[go_sem] theorem ty_tinfo_3 : tinfo prog 3 = some { size := 1, agg := false, zero := [Value.int IntKind.i64 0], bytes := 8 } := by kernel_rfl
@[go_sem] theorem ty_tinfo_31 : tinfo prog 31 = some { size := 1, agg := false, zero := [Value.slice none 0 0], bytes := 24 } := by kernel_rfl
@[go_sem] theorem ty_tinfo_33 : tinfo prog 33 = some { size := 3, agg := true, zero := [Value.int IntKind.i64 0, Value.int IntKind.i64 0, Value.slice none 0 0], bytes := 40 } := by kernel_rfl
@[go_sem] theorem ty_tinfo_35 : tinfo prog 35 = some { size := 1, agg := false, zero := [Value.slice none 0 0], bytes := 24 } := by kernel_rfl
@[go_sem] theorem ty_tinfo_37 : tinfo prog 37 = some { size := 1, agg := false, zero := [Value.int IntKind.i64 0], bytes := 8 } := by kernel_rfl
@[go_sem] theorem ty_tinfo_4 : tinfo prog 4 = some { size := 1, agg := false, zero := [Value.bool false], bytes := 1 } := by kernel_rfl
@[go_sem] theorem ty_tinfo_5 : tinfo prog 5 = some { size := 1, agg := false, zero := [Value.int IntKind.u8 0], bytes := 1 } := by kernel_rfl
@[go_sem] theorem ty_tinfo_50 : tinfo prog 50 = some { size := 3, agg := true, zero := [Value.slice none 0 0, Value.slice none 0 0, Value.slice none 0 0], bytes := 72 } := by kernel_rfl
@[go_sem] theorem ty_tinfo_58 : tinfo prog 58 = some { size := 2, agg := true, zero := [Value.int IntKind.i64 0, Value.int IntKind.i64 0], bytes := 16 } := by kernel_rfl
@[go_sem] theorem ty_tinfo_59 : tinfo prog 59 = some { size := 1, agg := false, zero := [Value.slice none 0 0], bytes := 24 } := by kernel_rfl
@[go_sem] theorem ty_tinfo_70 : tinfo prog 70 = some { size := 1, agg := false, zero := [Value.int IntKind.u16 0], bytes := 2 } := by kernel_rfl
@[go_sem] theorem ty_tinfo_73 : tinfo prog 73 = some { size := 2, agg := true, zero := [Value.int IntKind.i64 0, Value.int IntKind.i64 0], bytes := 16 } := by kernel_rfl
@[go_sem] theorem ty_tinfo_76 : tinfo prog 76 = some { size := 1, agg := false, zero := [Value.slice none 0 0], bytes := 24 } := by kernel_rfl
@[go_sem] theorem ty_tinfo_81 : tinfo prog 81 = some { size := 1, agg := false, zero := [Value.slice none 0 0], bytes := 24 } := by kernel_rfl
@[go_sem] theorem ty_tinfo_87 : tinfo prog 87 = some { size := 1, agg := false, zero := [Value.nilFunc], bytes := 8 } := by kernel_rfl
@[go_sem] theorem ty_tinfo_88 : tinfo prog 88 = some { size := 2, agg := true, zero := [Value.nilFunc, Value.nilFunc], bytes := 16 } := by kernel_rfl
@[go_sem] theorem ty_tint_113 : tint prog 113 = some IntKind.u64 := by kernel_rfl
@[go_sem] theorem ty_tint_120 : tint prog 120 = some IntKind.u32 := by kernel_rfl
@[go_sem] theorem ty_tint_123 : tint prog 123 = some IntKind.u64 := by kernel_rfl
@[go_sem] theorem ty_tint_3 : tint prog 3 = some IntKind.i64 := by kernel_rfl
@[go_sem] theorem ty_tint_5 : tint prog 5 = some IntKind.u8 := by kernel_rfl
@[go_sem] theorem ty_tint_70 : tint prog 70 = some IntKind.u16 := by kernel_rfl
@[go_sem] theorem ty_tknown_113 : tknown prog 113 = true := by kernel_rfl
@[go_sem] theorem ty_tknown_120 : tknown prog 120 = true := by kernel_rfl
@[go_sem] theorem ty_tknown_123 : tknown prog 123 = true := by kernel_rfl
@[go_sem] theorem ty_tknown_3 : tknown prog 3 = true := by kernel_rfl
@[go_sem] theorem ty_tknown_5 : tknown prog 5 = true := by kernel_rfl
@[go_sem] theorem ty_tknown_70 : tknown prog 70 = true := by kernel_rfl
@[go_sem] theorem ty_tknown_9 : tknown prog 9 = true := by kernel_rfl
@[go_sem] theorem ty_tmap_100 : tmap prog 100 = none := by kernel_rfl
@[go_sem] theorem ty_tmap_103 : tmap prog 103 = none := by kernel_rfl
@[go_sem] theorem ty_tmap_108 : tmap prog 108 = none := by kernel_rfl
@[go_sem] theorem ty_tmap_110 : tmap prog 110 = none := by kernel_rfl
@[go_sem] theorem ty_tmap_113 : tmap prog 113 = none := by kernel_rfl
@[go_sem] theorem ty_tmap_120 : tmap prog 120 = none := by kernel_rfl
@[go_sem] theorem ty_tmap_123 : tmap prog 123 = none := by kernel_rfl
@[go_sem] theorem ty_tmap_22 : tmap prog 22 = none := by kernel_rfl
@[go_sem] theorem ty_tmap_24 : tmap prog 24 = none := by kernel_rfl
@[go_sem] theorem ty_tmap_25 : tmap prog 25 = none := by kernel_rfl
@[go_sem] theorem ty_tmap_27 : tmap prog 27 = none := by kernel_rfl
@[go_sem] theorem ty_tmap_3 : tmap prog 3 = none := by kernel_rfl
@[go_sem] theorem ty_tmap_31 : tmap prog 31 = none := by kernel_rfl
@[go_sem] theorem ty_tmap_33 : tmap prog 33 = none := by kernel_rfl
@[go_sem] theorem ty_tmap_35 : tmap prog 35 = none := by kernel_rfl
@[go_sem] theorem ty_tmap_37 : tmap prog 37 = none := by kernel_rfl
@[go_sem] theorem ty_tmap_5 : tmap prog 5 = none := by kernel_rfl
@[go_sem] theorem ty_tmap_55 : tmap prog 55 = none := by kernel_rfl
@[go_sem] theorem ty_tmap_58 : tmap prog 58 = none := by kernel_rfl
@[go_sem] theorem ty_tmap_59 : tmap prog 59 = none := by kernel_rfl
@[go_sem] theorem ty_tmap_73 : tmap prog 73 = none := by kernel_rfl
@[go_sem] theorem ty_tmap_76 : tmap prog 76 = none := by kernel_rfl
@[go_sem] theorem ty_tmap_80 : tmap prog 80 = none := by kernel_rfl
@[go_sem] theorem ty_tmap_86 : tmap prog 86 = none := by kernel_rfl
@[go_sem] theorem ty_tmap_94 : tmap prog 94 = none := by kernel_rfl
@[go_sem] theorem ty_tmap_95 : tmap prog 95 = some (73, 3) := by kernel_rfl
@[go_sem] theorem ty_tstr_100 : tstr prog 100 = false := by kernel_rfl
@[go_sem] theorem ty_tstr_103 : tstr prog 103 = false := by kernel_rfl
@[go_sem] theorem ty_tstr_108 : tstr prog 108 = false := by kernel_rfl
@[go_sem] theorem ty_tstr_110 : tstr prog 110 = false := by kernel_rfl
@[go_sem] theorem ty_tstr_113 : tstr prog 113 = false := by kernel_rfl
@[go_sem] theorem ty_tstr_120 : tstr prog 120 = false := by kernel_rfl
@[go_sem] theorem ty_tstr_123 : tstr prog 123 = false := by kernel_rfl
@[go_sem] theorem ty_tstr_22 : tstr prog 22 = false := by kernel_rfl
@[go_sem] theorem ty_tstr_24 : tstr prog 24 = false := by kernel_rfl
@[go_sem] theorem ty_tstr_25 : tstr prog 25 = false := by kernel_rfl
@[go_sem] theorem ty_tstr_27 : tstr prog 27 = false := by kernel_rfl
@[go_sem] theorem ty_tstr_3 : tstr prog 3 = false := by kernel_rfl
@[go_sem] theorem ty_tstr_31 : tstr prog 31 = false := by kernel_rfl
@[go_sem] theorem ty_tstr_33 : tstr prog 33 = false := by kernel_rfl
@[go_sem] theorem ty_tstr_35 : tstr prog 35 = false := by kernel_rfl
@[go_sem] theorem ty_tstr_37 : tstr prog 37 = false := by kernel_rfl
@[go_sem] theorem ty_tstr_5 : tstr prog 5 = false := by kernel_rfl
@[go_sem] theorem ty_tstr_55 : tstr prog 55 = false := by kernel_rfl
@[go_sem] theorem ty_tstr_58 : tstr prog 58 = false := by kernel_rfl
@[go_sem] theorem ty_tstr_59 : tstr prog 59 = false := by kernel_rfl
@[go_sem] theorem ty_tstr_73 : tstr prog 73 = false := by kernel_rfl
@[go_sem] theorem ty_tstr_76 : tstr prog 76 = false := by kernel_rfl
@[go_sem] theorem ty_tstr_80 : tstr prog 80 = false := by kernel_rfl
@[go_sem] theorem ty_tstr_86 : tstr prog 86 = false := by kernel_rfl
@[go_sem] theorem ty_tstr_94 : tstr prog 94 = false := by kernel_rfl
end Go.Avl
namespace Go.Avl
open Go Go.Proofs.Try
set_option maxRecDepth 10000
set_option linter.unusedSimpArgs false
attribute [go_sem] Nat.reduceLT Nat.reduceLeDiff Nat.reduceEqDiff Nat.reduceAdd Nat.reduceSub Nat.reduceMul Nat.reduceBEq Int.reduceToNat Int.reduceEq Int.reduceLT Int.reduceLE Int.reduceAdd reduceCtorEq
attribute [go_sem ↓] reduceIte
theorem mixed : prog.follows .mixedOrders = true := by kernel_rfl
theorem none_is : PureIs prog 69 [] (.ag [.sc (.int .i64 (-1)), .sc (.int .i64 (-1))]) := by
  refine PureIs.of (nv := 1) (hid := []) func69 rfl (by kernel_rfl) (by simp) fun _ => ?_
  rw [ntmps69, results69]
  refine EvC.seq (EvC.rg (by simp only [go_sem]; rfl) rfl ?_)
  refine EvC.seq (EvC.rg (by simp only [go_sem]; rfl) rfl ?_)
  refine EvC.ret ⟨.inl rfl, _, (by simp only [go_sem]; rfl), rfl, rfl⟩
def I (n : Int) : AV := .sc (.int .i64 n)
def B (b : Bool) : AV := .sc (.bool b)
def intC (x : Int) : List AV := [.sc (.int .i64 x)]
@[go_sem] theorem norefs_ints (l : List Int) : (l.map intC).all AV.norefs = true := by simp [List.all_eq_true, intC, AV.norefs, AV.noref]
theorem intC_len (l : List Int) : ((l.map intC).all fun y => decide (y.length = 1)) = true := by simp [List.all_eq_true, intC]
end Go.Avl
namespace Go.Avl
open Go Go.Proofs.Try
set_option maxRecDepth 10000
set_option linter.unusedSimpArgs false
def fitsR (n o to out : Int) : Bool := decide (to = -1) && decide (out = -1) || (decide (0 ≤ to) && decide (to < n) && decide (0 ≤ out) && decide (out < o))
theorem fits_is (i o : Int) (nl : Bool) (rows : List (List AV)) (c : Cp) (to out : Int) :
    PureIs prog 60 [.ag [.sc (.int .i64 i), .sc (.int .i64 o), .sl nl rows c], .ag [.sc (.int .i64 to), .sc (.int .i64 out)]] (.sc (.bool (fitsR rows.length o to out))) := by
  refine PureIs.of (nv := 5) (hid := []) func60 rfl (by kernel_rfl) (by simp [ntmps60]) fun _ => ?_
  rw [ntmps60, results60]
  refine EvC.seq (EvC.rg (by simp only [go_sem]; rfl) rfl ?_)
  apply EvC.seq
  apply EvC.drw mixed
  case ht =>
    apply Tr.run
    · (simp only [go_sem]) <;> rfl
    · rfl
    apply Tr.cons
    · exact .call rfl rfl (by (simp only [go_sem]) <;> rfl) (by (simp only [go_sem]) <;> rfl) (by (simp only [go_sem]) <;> rfl) (by (simp only [go_sem]) <;> rfl) (by (simp only [go_sem]) <;> rfl) none_is
    apply Tr.done
    · (simp only [go_sem]) <;> rfl
    · simp
  case hc => kernel_rfl
  case hq =>
    refine EvC.ret ⟨.inl rfl, _, (by (simp only [go_sem]) <;> rfl), ?_, rfl⟩
    simp only [go_sem]
    congr 2
    unfold fitsR
    by_cases h1 : to = -1 <;> by_cases h2 : out = -1 <;> by_cases h3 : 0 ≤ to <;> by_cases h4 : to < rows.length <;> by_cases h5 : 0 ≤ out <;> simp [h1, h2, h3, h4, h5]
end Go.Avl
namespace Go.Avl
open Go Go.Proofs.Try
set_option maxRecDepth 10000
set_option linter.unusedSimpArgs false
def edgeC (e : Int × Int) : List AV := [.sc (.int .i64 e.1), .sc (.int .i64 e.2)]
@[go_sem] theorem norefs_edges (l : List (Int × Int)) : (l.map edgeC).all AV.norefs = true := by simp [List.all_eq_true, edgeC, AV.norefs, AV.noref]

theorem check1_is (i o : Int) (nl : Bool) (rows : List (List AV)) (c : Cp) (to out : Int) :
    PureIs prog 59 [.ag [.sc (.int .i64 to), .sc (.int .i64 out)], .ia [.sc (.int .i64 i), .sc (.int .i64 o), .sl nl rows c]] (.sc (.bool (!fitsR rows.length o to out))) := by
  refine PureIs.of (nv := 4) (hid := []) func59 rfl (by kernel_rfl) (by simp [ntmps59]) fun _ => ?_
  rw [ntmps59, results59]
  refine EvC.seq (EvC.rg (by (simp only [go_sem]) <;> rfl) rfl ?_)
  apply EvC.seq
  apply EvC.tr
  · apply Tr.run
    · (simp only [go_sem]) <;> rfl
    · rfl
    apply Tr.cons
    · exact .call rfl rfl (by (simp only [go_sem]) <;> rfl) (by (simp only [go_sem]) <;> rfl) (by (simp only [go_sem]) <;> rfl) (by (simp only [go_sem]) <;> rfl) (by (simp only [go_sem]) <;> rfl) (fits_is _ _ _ _ _ _ _)
    apply Tr.done
    · (simp only [go_sem]) <;> rfl
    · rfl
  refine EvC.ret ⟨.inl rfl, _, (by (simp only [go_sem]) <;> rfl), ?_, rfl⟩
  simp only [go_sem]

def findIdxR (p : Int × Int → Bool) : List (Int × Int) → Int → Int
  | [], _ => -1
  | e :: es, i => if p e = true then i else findIdxR p es (i + 1)

theorem indexFunc_is (nl : Bool) (xs : List (Int × Int)) (c : Cp) (f : FuncId) (cs : List AV) (hcs : AV.norefs cs = true) (p : Int × Int → Bool) (hp : ∀ e ∈ xs, PureIs prog f (.ag (edgeC e) :: cs) (.sc (.bool (p e)))) (hl : xs.length < 1000000) :
    PureIs prog 68 [.sl nl (xs.map edgeC) c, .fn f cs] (.sc (.int .i64 (findIdxR p xs 0))) := by
  refine PureIs.of (nv := 6) (hid := [6, 7, 8, 9, 16]) func68 rfl (by kernel_rfl) (by simp [ntmps68]) fun _ => ?_
  rw [ntmps68, results68]
  refine EvC.seq (EvC.rg (by (simp only [go_sem]) <;> rfl) rfl ?_)
  refine EvC.seq ?_
  refine EvC.seq (EvC.rg (by (simp only [go_sem]) <;> rfl) rfl ?_)
  refine EvC.block (EvC.loopS (σ := Nat) (fun i => ⟨[(0, .sl nl (xs.map edgeC) c), (1, .fn f cs), (7, .sc (.int .i64 xs.length)), (8, .sc (.int .i64 i))], [], [], 0⟩) (fun i => xs.length - i) (fun i => i ≤ xs.length ∧ findIdxR p xs 0 = findIdxR p (xs.drop i) i) [0, 1, 7, 8] 0 ?_ ?_)
  · refine ⟨[], 0, rfl, (by (simp only [go_sem, hcs]) <;> rfl), Nat.zero_le _, by simp⟩
  · rintro i ⟨h1, h2⟩
    refine EvC.seq (EvC.rg (by (simp only [go_sem]) <;> rfl) rfl ?_)
    refine EvC.seq (EvC.cond (by (simp only [go_sem]) <;> rfl) (fun hc => ?_) (fun hc => ?_))
    · refine EvC.skip ?_
      have hi : i < xs.length := by simpa using hc
      have he : xs[i]? = some xs[i] := List.getElem?_eq_getElem hi
      generalize xs[i] = e at he
      have hm : e ∈ xs := List.mem_of_getElem? he
      have hd : xs.drop i = e :: xs.drop (i + 1) := by
        rw [List.drop_eq_getElem_cons hi]; congr 1; rw [List.getElem?_eq_getElem hi] at he; simpa using he
      refine EvC.seq ?_
      refine EvC.block (EvC.seq (EvC.rg (by (simp only [go_sem]) <;> rfl) rfl ?_))
      apply EvC.seq
      apply EvC.tr
      · apply Tr.run
        · (simp only [go_sem, he, edgeC]) <;> rfl
        · simp
        apply Tr.cons
        · exact .call rfl rfl (by (simp only [go_sem]) <;> rfl) (by (simp only [go_sem]) <;> rfl) (by (simp only [go_sem]) <;> rfl) (by (simp only [go_sem, hcs]) <;> rfl) (by (simp only [go_sem]) <;> rfl) (hp e hm)
        apply Tr.done
        · (simp only [go_sem]) <;> rfl
        · rfl
      refine EvC.cond (by (simp only [go_sem]) <;> rfl) (fun hc => ?_) (fun hc => ?_)
      · refine EvC.seq (EvC.rg (by (simp only [go_sem]) <;> rfl) rfl ?_)
        refine EvC.ret ⟨.inl rfl, _, (by (simp only [go_sem]) <;> rfl), ?_, rfl⟩
        simp only [go_sem]
        rw [h2, hd, findIdxR, if_pos hc]
      · refine EvC.skip ?_
        refine EvC.rg (by (simp only [go_sem]) <;> rfl) ?_ ?_
        · exact inI64_of (by omega) (by omega)
        refine ⟨[], i + 1, rfl, ?_, ⟨by omega, ?_⟩, by omega⟩
        · (simp only [go_sem, hcs]) <;> rfl
        · rw [h2, hd, findIdxR, if_neg (by simp [hc])]; rfl
    · refine EvC.exit ?_
      have hi : ¬ i < xs.length := by simpa using hc
      refine EvC.seq (EvC.rg (by (simp only [go_sem]) <;> rfl) rfl ?_)
      refine EvC.ret ⟨.inl rfl, _, (by (simp only [go_sem]) <;> rfl), ?_, rfl⟩
      simp only [go_sem]
      rw [h2, List.drop_of_length_le (by omega)]; rfl
end Go.Avl
namespace Go.Avl
open Go Go.Proofs.Try
set_option maxRecDepth 10000
set_option linter.unusedSimpArgs false

theorem findIdxR_any (p : Int × Int → Bool) : ∀ (es : List (Int × Int)) (i : Int), 0 ≤ i → decide (0 ≤ findIdxR p es i) = es.any p
  | [], i, _ => by simp [findIdxR]
  | e :: es, i, h => by
    unfold findIdxR
    split
    · rename_i hp; simp [hp, h]
    · rename_i hp
      rw [findIdxR_any p es (i + 1) (by omega)]
      simp [hp]

theorem containsFunc_is (nl : Bool) (xs : List (Int × Int)) (c : Cp) (f : FuncId) (cs : List AV) (hcs : AV.norefs cs = true) (p : Int × Int → Bool) (hp : ∀ e ∈ xs, PureIs prog f (.ag (edgeC e) :: cs) (.sc (.bool (p e)))) (hl : xs.length < 1000000) :
    PureIs prog 58 [.sl nl (xs.map edgeC) c, .fn f cs] (.sc (.bool (xs.any p))) := by
  refine PureIs.of (nv := 5) (hid := []) func58 rfl (by kernel_rfl) (by simp [ntmps58]) fun _ => ?_
  rw [ntmps58, results58]
  refine EvC.seq (EvC.rg (by (simp only [go_sem]) <;> rfl) rfl ?_)
  apply EvC.seq
  apply EvC.tr
  · apply Tr.run
    · (simp only [go_sem]) <;> rfl
    · rfl
    apply Tr.cons
    · exact .call rfl rfl (by (simp only [go_sem]) <;> rfl) (by (simp only [go_sem]) <;> rfl) (by (simp only [go_sem]) <;> rfl) (by (simp only [go_sem, hcs]) <;> rfl) (by (simp only [go_sem]) <;> rfl) (indexFunc_is _ _ _ _ _ hcs _ hp hl)
    apply Tr.done
    · (simp only [go_sem]) <;> rfl
    · rfl
  refine EvC.ret ⟨.inl rfl, _, (by (simp only [go_sem]) <;> rfl), ?_, rfl⟩
  simp only [go_sem]
  rw [findIdxR_any _ _ _ (Int.le_refl 0)]

abbrev Row := Bool × List (Int × Int)
def rowC (r : Row) : List AV := [.sl r.1 (r.2.map edgeC) .unk]
structure Mach where
  ins : Int
  outs : Int
  nl : Bool
  rows : List Row
def Mach.cells (m : Mach) : List AV := [.sc (.int .i64 m.ins), .sc (.int .i64 m.outs), .sl m.nl (m.rows.map rowC) .unk]
def rowOk (m : Mach) (r : Row) : Bool := decide ((r.2.length : Int) = m.ins) && !(r.2.any fun e => !fitsR m.rows.length m.outs e.1 e.2)
def checkM (m : Mach) : Int :=
  if 16 < m.ins ∨ 16 < m.outs ∨ 64 < (m.rows.length : Int) then 3
  else if m.ins < 1 ∨ m.outs < 1 ∨ (m.rows.length : Int) < 1 then 1
  else if m.rows.all (rowOk m) = true then 0 else 1

theorem check_is (m : Mach) (hr : ∀ r ∈ m.rows, r.2.length < 1000000) : PureIs prog 44 [.ag m.cells] (.sc (.int .i64 (checkM m))) := by
  refine PureIs.of (nv := 5) (hid := [18, 32, 34, 35, 36, 37, 49]) func44 rfl (by kernel_rfl) (by simp [ntmps44]) fun _ => ?_
  rw [ntmps44, results44]
  refine EvC.seq (EvC.rg (by (simp only [go_sem, Mach.cells]) <;> rfl) rfl ?_)
  refine EvC.frzB 0 (by (simp only [go_sem]) <;> rfl) ?_
  refine EvC.seq ?_
  apply EvC.seq
  apply EvC.trd
  · (simp only [go_sem]) <;> rfl
  · simp
  refine EvC.cond (by (simp only [go_sem]) <;> rfl) (fun hc => ?_) (fun hc => ?_)
  · refine EvC.seq (EvC.rg (by (simp only [go_sem]) <;> rfl) rfl ?_)
    refine EvC.ret ⟨.inl rfl, _, (by (simp only [go_sem]) <;> rfl), ?_, rfl⟩
    simp only [go_sem]
    have h : 16 < m.ins ∨ 16 < m.outs ∨ 64 < (m.rows.length : Int) := by
      by_cases h1 : 16 < m.ins <;> by_cases h2 : 16 < m.outs <;> simp_all
    rw [checkM, if_pos h]
  have hn : ¬ (16 < m.ins ∨ 16 < m.outs ∨ 64 < (m.rows.length : Int)) := by
    by_cases h1 : 16 < m.ins <;> by_cases h2 : 16 < m.outs <;> simp_all
  refine EvC.skip ?_
  refine EvC.seq ?_
  apply EvC.seq
  apply EvC.trd
  · (simp only [go_sem]) <;> rfl
  · simp
  refine EvC.cond (by (simp only [go_sem]) <;> rfl) (fun hc => ?_) (fun hc => ?_)
  · refine EvC.seq (EvC.rg (by (simp only [go_sem]) <;> rfl) rfl ?_)
    refine EvC.ret ⟨.inl rfl, _, (by (simp only [go_sem]) <;> rfl), ?_, rfl⟩
    simp only [go_sem]
    have h : m.ins < 1 ∨ m.outs < 1 ∨ (m.rows.length : Int) < 1 := by
      by_cases h1 : m.ins < 1 <;> by_cases h2 : m.outs < 1 <;> simp_all
    rw [checkM, if_neg hn, if_pos h]
  have hn2 : ¬ (m.ins < 1 ∨ m.outs < 1 ∨ (m.rows.length : Int) < 1) := by
    by_cases h1 : m.ins < 1 <;> by_cases h2 : m.outs < 1 <;> simp_all
  refine EvC.skip ?_
  have hlen : (m.rows.length : Int) ≤ 64 := by omega
  refine EvC.seq ?_
  refine EvC.seq (EvC.rg (by (simp only [go_sem]) <;> rfl) (by simp) ?_)
  refine EvC.block (EvC.loopS (σ := Nat) (fun i => ⟨[(1, .ia m.cells), (34, .sl m.nl (m.rows.map rowC) .unk), (35, .sc (.int .i64 m.rows.length)), (36, .sc (.int .i64 i))], [], [], 0⟩) (fun i => m.rows.length - i) (fun i => i ≤ m.rows.length ∧ m.rows.all (rowOk m) = (m.rows.drop i).all (rowOk m)) [1, 34, 35, 36] 0 ?_ ?_)
  · refine ⟨[], 0, rfl, (by (simp only [go_sem, Mach.cells]) <;> rfl), Nat.zero_le _, by simp⟩
  rintro i ⟨h1, h2⟩
  refine EvC.seq (EvC.rg (by (simp only [go_sem]) <;> rfl) rfl ?_)
  refine EvC.seq (EvC.cond (by (simp only [go_sem]) <;> rfl) (fun hc => ?_) (fun hc => ?_))
  · refine EvC.skip ?_
    have hi : i < m.rows.length := by simpa using hc
    have he : m.rows[i]? = some m.rows[i] := List.getElem?_eq_getElem hi
    generalize m.rows[i] = r at he
    have hm : r ∈ m.rows := List.mem_of_getElem? he
    have hd : m.rows.drop i = r :: m.rows.drop (i + 1) := by
      rw [List.drop_eq_getElem_cons hi]; congr 1; rw [List.getElem?_eq_getElem hi] at he; simpa using he
    refine EvC.seq ?_
    refine EvC.block (EvC.seq (EvC.rg (by (simp only [go_sem, he, rowC]) <;> rfl) (by simp) ?_))
    by_cases hl : (r.2.length : Int) = m.ins
    · apply EvC.seq
      apply EvC.tr
      · apply Tr.run
        · (simp only [go_sem, Mach.cells, hl]) <;> rfl
        · simp
        apply Tr.cons
        · exact .callG rfl rfl (by (simp only [go_sem]) <;> rfl) rfl (by (simp only [go_sem]) <;> rfl) (by (simp only [go_sem]) <;> rfl) (by (simp only [go_sem]) <;> rfl) (by (simp only [go_sem]) <;> rfl) (by (simp only [go_sem]) <;> rfl) (containsFunc_is r.1 r.2 .unk 59 [.ia m.cells] rfl (fun e => !fitsR m.rows.length m.outs e.1 e.2) (fun e _ => by simpa [edgeC, Mach.cells] using check1_is m.ins m.outs m.nl (m.rows.map rowC) .unk e.1 e.2) (hr r hm))
        apply Tr.done
        · (simp only [go_sem]) <;> rfl
        · simp
      refine EvC.cond (by (simp only [go_sem]) <;> rfl) (fun hc2 => ?_) (fun hc2 => ?_)
      · refine EvC.seq (EvC.rg (by (simp only [go_sem]) <;> rfl) rfl ?_)
        refine EvC.ret ⟨.inl rfl, _, (by (simp only [go_sem]) <;> rfl), ?_, rfl⟩
        simp only [go_sem]
        rw [checkM, if_neg hn, if_neg hn2, h2, hd, List.all_cons]
        simp [rowOk, hc2]
      · refine EvC.skip ?_
        refine EvC.rg (by (simp only [go_sem]) <;> rfl) ?_ ?_
        · exact inI64_of (by omega) (by omega)
        refine ⟨[], i + 1, rfl, (by (simp only [go_sem, Mach.cells]) <;> rfl), ⟨by omega, ?_⟩, by omega⟩
        rw [h2, hd, List.all_cons]
        simp [rowOk, hl, hc2]
    · apply EvC.seq
      apply EvC.tr
      · apply Tr.run
        · (simp only [go_sem, Mach.cells, hl]) <;> rfl
        · simp
        apply Tr.cons
        · exact .skipv (.sc (.bool false)) rfl rfl (by (simp only [go_sem]) <;> rfl) (by (simp only [go_sem]) <;> rfl)
        apply Tr.done
        · (simp only [go_sem]) <;> rfl
        · simp
      refine EvC.cond_true (by (simp only [go_sem]) <;> rfl) ?_
      refine EvC.seq (EvC.rg (by (simp only [go_sem]) <;> rfl) rfl ?_)
      refine EvC.ret ⟨.inl rfl, _, (by (simp only [go_sem]) <;> rfl), ?_, rfl⟩
      simp only [go_sem]
      rw [checkM, if_neg hn, if_neg hn2, h2, hd, List.all_cons]
      simp [rowOk, hl]
  · refine EvC.exit ?_
    have hi : ¬ i < m.rows.length := by simpa using hc
    refine EvC.seq (EvC.rg (by (simp only [go_sem]) <;> rfl) rfl ?_)
    refine EvC.ret ⟨.inl rfl, _, (by (simp only [go_sem]) <;> rfl), ?_, rfl⟩
    simp only [go_sem]
    rw [checkM, if_neg hn, if_neg hn2, h2, List.drop_of_length_le (by omega)]; rfl
end Go.Avl
namespace Go.Avl
open Go Go.Proofs.Try
set_option maxRecDepth 10000
set_option linter.unusedSimpArgs false
def stepM (m : Mach) (s a : Int) : Int × Int := (((m.rows[s.toNat]?).map (·.2)).getD [])[a.toNat]?.getD (-1, -1)
def edgeA (e : Int × Int) : AV := .ag [.sc (.int .i64 e.1), .sc (.int .i64 e.2)]
theorem next04_is (m : Mach) (s a : Int) (r : Row) (e : Int × Int) (hs : 0 ≤ s → m.rows[s.toNat]? = some r) (ha : 0 ≤ s → 0 ≤ a ∧ r.2[a.toNat]? = some e) : PureIs prog 41 [.ag m.cells, .sc (.int .i64 s), .sc (.int .i64 a)] (edgeA (if s < 0 then (-1, -1) else e)) := by
  refine PureIs.of (nv := 7) (hid := [8]) func41 rfl (by kernel_rfl) (by simp [ntmps41]) fun _ => ?_
  rw [ntmps41, results41]
  refine EvC.seq (EvC.rg (by (simp only [go_sem, Mach.cells]) <;> rfl) rfl ?_)
  refine EvC.seq (EvC.seq (EvC.rg (by (simp only [go_sem]) <;> rfl) rfl ?_))
  refine EvC.cond (by (simp only [go_sem]) <;> rfl) (fun hc => ?_) (fun hc => ?_)
  · refine EvC.seq (EvC.rg (by (simp only [go_sem]) <;> rfl) rfl ?_)
    refine EvC.ret ⟨.inl rfl, _, (by (simp only [go_sem]) <;> rfl), ?_, (by unfold edgeA; simp only [go_sem])⟩
    simp only [go_sem]
    rw [if_pos (by simpa using hc)]; rfl
  · have h0 : 0 ≤ s := by simpa using hc
    refine EvC.skip ?_
    refine EvC.seq (EvC.rg (by (simp only [go_sem, hs h0, rowC, (ha h0).2, edgeC]) <;> rfl) ?_ ?_)
    · simp [h0, (ha h0).1]
    refine EvC.ret ⟨.inl rfl, _, (by (simp only [go_sem]) <;> rfl), ?_, (by unfold edgeA; simp only [go_sem])⟩
    simp only [go_sem]
    rw [if_neg (by simpa using hc)]; rfl
/-- A valid machine's rows and edges. -/
structure Valid (m : Mach) : Prop where
  ins : 1 ≤ m.ins ∧ m.ins ≤ 16
  outs : 1 ≤ m.outs ∧ m.outs ≤ 16
  rows : 1 ≤ m.rows.length ∧ m.rows.length ≤ 64
  row : ∀ r ∈ m.rows, (r.2.length : Int) = m.ins ∧ ∀ e ∈ r.2, fitsR m.rows.length m.outs e.1 e.2 = true
theorem Valid.of {m : Mach} (h : checkM m = 0) : Valid m := by
  unfold checkM at h
  split at h
  · cases h
  · split at h
    · cases h
    · split at h
      · rename_i h1 h2 h3
        rw [List.all_eq_true] at h3
        refine ⟨by omega, by omega, by omega, fun r hr => ?_⟩
        have := h3 r hr
        simp only [rowOk, Bool.and_eq_true, decide_eq_true_eq, Bool.not_eq_true', List.any_eq_false] at this
        exact ⟨this.1, fun e he => by simpa using this.2 e he⟩
      · cases h
def stepR (m : Mach) (s a : Int) : Int × Int := if s < 0 then (-1, -1) else (((m.rows[s.toNat]?).map (·.2)).getD [])[a.toNat]?.getD (-1, -1)
theorem stepR_get {m : Mach} (hv : Valid m) {s a : Int} (h0 : 0 ≤ s) (hs : s < m.rows.length) (ha : 0 ≤ a ∧ a < m.ins) :
    ∃ r e, m.rows[s.toNat]? = some r ∧ r.2[a.toNat]? = some e ∧ stepR m s a = e ∧ fitsR m.rows.length m.outs e.1 e.2 = true := by
  have h1 : m.rows[s.toNat]? = some m.rows[s.toNat] := List.getElem?_eq_getElem (by omega)
  obtain ⟨h2, h3⟩ := hv.row _ (List.getElem_mem (show s.toNat < m.rows.length by omega))
  have h4 : (m.rows[s.toNat]).2[a.toNat]? = some ((m.rows[s.toNat]).2[a.toNat]'(by omega)) := List.getElem?_eq_getElem _
  exact ⟨_, _, h1, h4, by rw [stepR, if_neg (by omega), h1]; simp only [Option.map_some, Option.getD_some, h4], h3 _ (List.getElem_mem _)⟩

theorem stepR_is {m : Mach} (hv : Valid m) {s a : Int} (hs : s < m.rows.length) (ha : 0 ≤ a ∧ a < m.ins) : PureIs prog 41 [.ag m.cells, .sc (.int .i64 s), .sc (.int .i64 a)] (edgeA (stepR m s a)) := by
  by_cases h0 : 0 ≤ s
  · obtain ⟨r, e, h1, h2, h3, _⟩ := stepR_get hv h0 hs ha
    have := next04_is m s a r e (fun _ => h1) (fun _ => ⟨ha.1, h2⟩)
    rw [if_neg (by omega)] at this
    rw [h3]; exact this
  · have := next04_is m s a (false, []) (0, 0) (fun h => absurd h h0) (fun h => absurd h h0)
    rw [if_pos (by omega)] at this
    rw [stepR, if_pos (by omega)]; exact this
def runR (m : Mach) : Int → List Int → List Int
  | _, [] => []
  | s, a :: w => (stepR m s a).2 :: runR m (stepR m s a).1 w
theorem stepR_lt {m : Mach} (hv : Valid m) {s a : Int} (hs : s < m.rows.length) (ha : 0 ≤ a ∧ a < m.ins) : (stepR m s a).1 < m.rows.length := by
  by_cases h0 : 0 ≤ s
  · obtain ⟨r, e, _, _, h3, h4⟩ := stepR_get hv h0 hs ha
    rw [h3]
    have := hv.rows
    unfold fitsR at h4
    simp at h4; omega
  · rw [stepR, if_pos (by omega)]; have := hv.rows; simp only; omega

theorem run04_is {m : Mach} (hv : Valid m) (s : Int) (hs : s < m.rows.length) (nl : Bool) (w : List Int) (c : Cp) (hw : ∀ a ∈ w, 0 ≤ a ∧ a < m.ins) (hl : w.length < 1000000) :
    PureIs prog 17 [.ag m.cells, .sc (.int .i64 s), .sl nl (w.map intC) c] (.sl (runR m s w).isEmpty ((runR m s w).map intC) .unk) := by
  refine PureIs.of (nv := 10) (hid := [13]) func17 rfl (by kernel_rfl) (by simp [ntmps17]) fun _ => ?_
  rw [ntmps17, results17]
  refine EvC.seq (EvC.rg (by (simp only [go_sem, Mach.cells]) <;> rfl) rfl ?_)
  refine EvC.frzB 0 (by (simp only [go_sem]) <;> rfl) ?_
  refine EvC.seq (EvC.rg (by (simp only [go_sem]) <;> rfl) rfl ?_)
  refine EvC.seq ?_
  refine EvC.seq (EvC.rg (by (simp only [go_sem]) <;> rfl) rfl ?_)
  refine EvC.block (EvC.loopS (σ := Nat × Int × List Int) (fun g => ⟨[(1, .sc (.int .i64 g.2.1)), (2, .sl nl (w.map intC) c), (3, .ia m.cells), (7, .tl 0 g.2.2.length g.2.2.isEmpty), (8, .sc (.int .i64 g.1))], [], [(0, .arr 1 (g.2.2.map intC) true)], 1⟩) (fun g => w.length - g.1)
    (fun g => g.1 ≤ w.length ∧ g.2.1 < m.rows.length ∧ runR m s w = g.2.2 ++ runR m g.2.1 (w.drop g.1) ∧ g.2.2.length = g.1) [1, 2, 3, 7, 8] 1 ?_ ?_)
  · refine ⟨[(2, 0)], (0, s, []), rfl, (by (simp only [go_sem, Mach.cells]) <;> rfl), Nat.zero_le _, hs, by simp, rfl⟩
  rintro ⟨i, t, os⟩ ⟨h1, h2, h3, h4⟩
  simp only at h1 h2 h3 h4
  refine EvC.seq (EvC.seq (EvC.rg (by (simp only [go_sem]) <;> rfl) rfl ?_))
  refine EvC.cond (by (simp only [go_sem]) <;> rfl) (fun hc => ?_) (fun hc => ?_)
  · refine EvC.skip ?_
    have hi : i < w.length := by simpa using hc
    have he : w[i]? = some w[i] := List.getElem?_eq_getElem hi
    generalize w[i] = a at he
    have ha := hw a (List.mem_of_getElem? he)
    have hd : w.drop i = a :: w.drop (i + 1) := by
      rw [List.drop_eq_getElem_cons hi]; congr 1; rw [List.getElem?_eq_getElem hi] at he; simpa using he
    have hstep := stepR_is hv h2 ha
    refine EvC.seq ?_
    apply EvC.block
    apply EvC.seq
    apply EvC.drw mixed
    · apply Tr.run
      · (simp only [go_sem, Mach.cells, he, intC]) <;> rfl
      · simp
      apply Tr.cons
      · exact .call rfl rfl (by (simp only [go_sem]) <;> rfl) (by (simp only [go_sem]) <;> rfl) (by (simp only [go_sem]) <;> rfl) (by (simp only [go_sem]) <;> rfl) (by (simp only [go_sem]) <;> rfl) hstep
      apply Tr.done
      · (simp only [go_sem, edgeA]) <;> rfl
      · simp
    · kernel_rfl
    refine EvC.seq (EvC.rg (by (simp only [go_sem, List.set_cons_zero]) <;> rfl) ?_ ?_)
    · simp [room_eq]; omega
    refine EvC.rg (by (simp only [go_sem]) <;> rfl) (by simp) ?_
    refine EvC.rg (by (simp only [go_sem]) <;> rfl) ?_ ?_
    · exact inI64_of (by omega) (by omega)
    refine ⟨[(0, 0)], (i + 1, (stepR m t a).1, os ++ [(stepR m t a).2]), rfl, ?_, ⟨by omega, stepR_lt hv h2 ha, ?_, by simp [h4]⟩, by simp; omega⟩
    · (simp only [go_sem, Mach.cells, intC, List.length_append]) <;> rfl
    · rw [h3, hd, runR]; simp
  · refine EvC.exit ?_
    have hi : ¬ i < w.length := by simpa using hc
    have hr : runR m s w = os := by rw [h3, List.drop_of_length_le (by omega), runR, List.append_nil]
    refine EvC.frz 0 (by (simp only [go_sem]) <;> rfl) ?_
    refine EvC.seq (EvC.rg (by (simp only [go_sem]) <;> rfl) rfl ?_)
    refine EvC.ret ⟨.inl rfl, _, (by (simp only [go_sem]) <;> rfl), ?_, rfl⟩
    simp only [go_sem]
    rw [hr]
end Go.Avl
namespace Go.Avl
open Go Go.Proofs.Try
set_option maxRecDepth 10000
set_option linter.unusedSimpArgs false
def rowF (r : List (Int × Int)) : List AV := rowC (false, r)
@[go_sem] theorem norefs_rowF (l : List (List (Int × Int))) : (l.map rowF).all AV.norefs = true := by simp [List.all_eq_true, rowF, rowC, AV.norefs, AV.noref]
/-- The plain data of a machine. -/
structure LM where
  st : Int
  ins : Int
  outs : Int
  part : Bool
  nl : Bool
  es : List Int
  cap : Cp
def u16C (x : Int) : List AV := [.sc (.int .u16 x)]
@[go_sem] theorem norefs_u16 (l : List Int) : (l.map u16C).all AV.norefs = true := by simp [List.all_eq_true, u16C, AV.norefs, AV.noref]
def LM.cells (x : LM) : List AV := [.sc (.int .u8 x.st), .sc (.int .u8 x.ins), .sc (.int .u8 x.outs), .sc (.bool x.part), .sl x.nl (x.es.map u16C) x.cap]
structure LM.Ok (x : LM) : Prop where
  st : 0 ≤ x.st
  ins : 0 ≤ x.ins
  outs : 0 ≤ x.outs
  es : ∀ e ∈ x.es, 0 ≤ e ∧ e < 65536
def LM.n (x : LM) : Nat := (1 + x.st % 6).toNat
def LM.i (x : LM) : Nat := (1 + x.ins % 3).toNat
def LM.o (x : LM) : Int := 1 + x.outs % 3
def LM.v (x : LM) (s i : Nat) : Int := (x.es[s * x.i + i]?).getD 0
def LM.edge (x : LM) (s i : Nat) : Int × Int :=
  if x.part = true ∧ x.v s i % 4 = 3 then (-1, -1) else (x.v s i / 4 % x.n, x.v s i / 4 / x.n % x.o)
def LM.row (x : LM) (s : Nat) : List (Int × Int) := (List.range x.i).map (x.edge s)
def LM.mach (x : LM) : Mach := ⟨x.i, x.o, false, (List.range x.n).map fun s => (false, x.row s)⟩

theorem LM.bounds {x : LM} (h : x.Ok) : 1 ≤ x.n ∧ x.n ≤ 6 ∧ 1 ≤ x.i ∧ x.i ≤ 3 ∧ 1 ≤ x.o ∧ x.o ≤ 3 ∧ (x.n : Int) = 1 + x.st % 6 ∧ (x.i : Int) = 1 + x.ins % 3 := by
  have h1 := h.st
  have h2 := h.ins
  have h3 := h.outs
  unfold LM.n LM.i LM.o
  omega
theorem LM.v_ok {x : LM} (h : x.Ok) (s i : Nat) : 0 ≤ x.v s i ∧ x.v s i < 65536 := by
  unfold LM.v
  cases he : x.es[s * x.i + i]? with
  | none => simp
  | some e => exact h.es e (List.mem_of_getElem? he)

theorem mOf_is {x : LM} (h : x.Ok) : PureIs prog 12 [.ag x.cells] (.ag x.mach.cells) := by
  refine PureIs.of (nv := 10) (hid := [28, 34, 47, 60]) func12 rfl (by kernel_rfl) (by simp [ntmps12]) fun _ => ?_
  rw [ntmps12, results12]
  obtain ⟨b1, b2, b3, b4, b5, b6, b7, b8⟩ := LM.bounds h
  have h1 := h.st
  have h2 := h.ins
  have h3 := h.outs
  have hI1 : inI64 (x.st % 6) = true := inI64_of (by omega) (by omega)
  have hI2 : inI64 (x.ins % 3) = true := inI64_of (by omega) (by omega)
  have hI3 : inI64 (x.outs % 3) = true := inI64_of (by omega) (by omega)
  have hI4 : inI64 (1 + x.st % 6) = true := inI64_of (by omega) (by omega)
  have hI5 : inI64 (1 + x.ins % 3) = true := inI64_of (by omega) (by omega)
  have hI6 : inI64 (1 + x.outs % 3) = true := inI64_of (by omega) (by omega)
  refine EvC.seq (EvC.rg (by (simp only [go_sem, LM.cells]) <;> rfl) (by simp) ?_)  -- R0
  refine EvC.frzB 0 (by (simp only [go_sem]) <;> rfl) ?_
  refine EvC.seq (EvC.rg (by (simp only [go_sem]) <;> rfl) (by simp [hI1, hI4, h1]) ?_)  -- R1
  refine EvC.seq (EvC.rg (by (simp only [go_sem]) <;> rfl) (by simp [hI2, hI3, hI5, hI6, h2, h3]) ?_)  -- R2
  refine EvC.seq ?_
  refine EvC.seq (EvC.rg (by (simp only [go_sem]) <;> rfl) (by simp) ?_)  -- R3
  refine EvC.block ?_  -- 0
  have hmem : ∀ {s : Nat}, (fun s => ((false, x.row s) : Row)) s = (false, x.row s) := fun {_} => rfl
  have hO : x.o = 1 + x.outs % 3 := rfl
  refine EvC.ownC 19 2 1 (by (simp only [go_sem]) <;> rfl) ?_
  refine EvC.loopS (σ := Nat) (fun s => ⟨[(1, .ia x.cells), (2, .rf 0 0), (3, .sc (.int .i64 x.n)), (4, .rf 1 0), (5, .sc (.int .i64 s))], [],
      [(0, .cells [.sc (.int .i64 0), .sc (.int .i64 0), .sl true [] .zer]), (1, .cells [.sc (.int .i64 x.i), .sc (.int .i64 x.o), .tl 2 s (s == 0)]), (2, .arr 1 (((List.range s).map x.row).map rowF) true)], 3⟩) (fun s => x.n - s)
    (fun s => s ≤ x.n) [1, 2, 3, 4, 5] 3 ?_ ?_
  · exact ⟨[(1, 0), (19, 1), (22, 2)], 0, rfl, (by (simp only [go_sem, LM.cells, ← b7, ← b8, ← hO, List.range_zero]) <;> rfl), Nat.zero_le _⟩
  intro s hs
  have hls : (((List.range s).map x.row).map rowF).length = s := by simp
  refine EvC.seq ?_
  refine EvC.seq (EvC.rg (by (simp only [go_sem]) <;> rfl) (by simp) ?_)  -- R4
  refine EvC.cond (by (simp only [go_sem]) <;> rfl) (fun hc => ?_) (fun hc => ?_)
  rotate_left
  · refine EvC.exit ?_  -- 0
    have hc : ¬ s < x.n := by simpa using hc
    obtain rfl : s = x.n := by omega
    refine EvC.frzD 2 (by (simp only [go_sem, hls]) <;> rfl) ?_
    refine EvC.seq (EvC.rg (by (simp only [go_sem]) <;> rfl) (by simp) ?_)  -- R18
    refine EvC.ret ⟨.inl rfl, _, (by (simp only [go_sem]) <;> rfl), ?_, rfl⟩
    simp only [go_sem]
    have hne : (x.n == 0) = false := by simp; omega
    simp only [Mach.cells, LM.mach, hne]
    rw [List.map_map, List.map_map]
    rfl
  have hc : s < x.n := by simpa using hc
  refine EvC.skip ?_
  refine EvC.seq ?_
  refine EvC.block ?_  -- 1
  refine EvC.seq (EvC.rg (by (simp only [go_sem]) <;> rfl) (by simp) ?_)  -- R6
  refine EvC.seq ?_
  refine EvC.seq (EvC.rg (by (simp only [go_sem]) <;> rfl) (by simp) ?_)  -- R7
  refine EvC.block ?_  -- 2
  refine EvC.loopS (σ := Nat) (fun i => ⟨[(1, .ia x.cells), (2, .rf 0 0), (3, .sc (.int .i64 x.n)), (4, .rf 1 0), (5, .sc (.int .i64 s)), (6, .tl 3 i (i == 0)), (7, .sc (.int .i64 i))], [],
      [(0, .cells [.sc (.int .i64 0), .sc (.int .i64 0), .sl true [] .zer]), (1, .cells [.sc (.int .i64 x.i), .sc (.int .i64 x.o), .tl 2 s (s == 0)]), (2, .arr 1 (((List.range s).map x.row).map rowF) true),
       (3, .arr 2 (((List.range i).map (x.edge s)).map edgeC) true)], 4⟩) (fun i => x.i - i)
    (fun i => i ≤ x.i) [1, 2, 3, 4, 5, 6, 7] 4 ?_ ?_
  · exact ⟨[(0, 0), (1, 1), (2, 2), (6, 3)], 0, rfl, (by (simp only [go_sem, List.range_zero]) <;> rfl), Nat.zero_le _⟩
  intro i hi
  have hli : (((List.range i).map (x.edge s)).map edgeC).length = i := by simp
  refine EvC.seq ?_
  refine EvC.seq (EvC.rg (by (simp only [go_sem]) <;> rfl) (by simp) ?_)  -- R8
  refine EvC.cond (by (simp only [go_sem]) <;> rfl) (fun hc => ?_) (fun hc => ?_)
  rotate_left
  · refine EvC.exit ?_  -- 2
    have hc : ¬ i < x.i := by simpa using hc
    obtain rfl : i = x.i := by omega
    have hne : (x.i == 0) = false := by simp; omega
    refine EvC.frz 3 (by (simp only [go_sem, hli, hne]) <;> rfl) ?_
    refine EvC.rg (by (simp only [go_sem]) <;> rfl) (by simp [room_eq, AV.norefs, AV.noref, hls]; omega) ?_  -- R17
    refine EvC.rg (by (simp only [go_sem]) <;> rfl) (inI64_of (by omega) (by omega)) ?_  -- R5
    refine ⟨[(0, 0), (1, 1), (2, 2)], s + 1, rfl, ?_, by omega, by omega⟩
    have hs0 : (s + 1 == 0) = false := rfl
    (simp only [go_sem, hs0, List.range_succ, rowF, rowC, LM.row, List.length_map, List.length_range]) <;> rfl
  have hc : i < x.i := by simpa using hc
  have hv := LM.v_ok h s i
  have hsi : (0 : Int) ≤ (s : Int) * x.i := Int.mul_nonneg (by omega) (by omega)
  have hsi2 : (s : Int) * x.i ≤ 18 := by
    have : s * x.i ≤ 6 * 3 := Nat.mul_le_mul (by omega) (by omega)
    have := Int.ofNat_le.2 this
    simpa using this
  have hk : ((s * x.i + i : Nat) : Int) = (s : Int) * x.i + i := by simp
  have hkn : ((s : Int) * x.i + i).toNat = s * x.i + i := by omega
  have hIm : inI64 ((s : Int) * x.i) = true := inI64_of (by omega) (by omega)
  have hIk : inI64 ((s : Int) * x.i + i) = true := inI64_of (by omega) (by omega)
  have hIi : inI64 ((i : Int) + 1) = true := inI64_of (by omega) (by omega)
  have hIv : inI64 (x.v s i) = true := inI64_of (by omega) (by omega)
  refine EvC.skip ?_
  refine EvC.seq ?_
  refine EvC.block ?_  -- 3
  refine EvC.seq (EvC.rg (by (simp only [go_sem]) <;> rfl) (by simp) ?_)  -- R10
  refine EvC.seq ?_
  refine EvC.seq (EvC.rg (by (simp only [go_sem]) <;> rfl) (by simp [hIm, hIk]) ?_)  -- R11
  refine EvC.seq (EvC.rg (by (simp only [go_sem, LM.cells]) <;> rfl) (by simp) ?_)  -- R12
  refine EvC.cond (by (simp only [go_sem]) <;> rfl) (fun hc => ?_) (fun hc => ?_)
  · have hkl : s * x.i + i < x.es.length := by
      have : (s : Int) * x.i + i < x.es.length := by simpa using hc
      omega
    have hev : x.es[s * x.i + i]? = some (x.v s i) := by
      unfold LM.v
      rw [List.getElem?_eq_getElem hkl]; rfl
    refine EvC.rg (by (simp only [go_sem, LM.cells, hkn, hev, u16C]) <;> rfl) (by simp [hIv]; omega) ?_  -- R13
    apply EvC.seq  -- R14
    apply EvC.trd
    · (simp only [go_sem, LM.cells]) <;> rfl
    · simp [hv.1]
    have hi0 : (i + 1 == 0) = false := rfl
    refine EvC.cond (by (simp only [go_sem]) <;> rfl) (fun hp => ?_) (fun hp => ?_)
    · have hp : x.part = true ∧ x.v s i % 4 = 3 := by
        by_cases h1 : x.part = true
        · simp [h1] at hp; exact ⟨h1, hp⟩
        · simp [h1] at hp
      have he : x.edge s i = (-1, -1) := if_pos hp
      refine EvC.rg (by (simp only [go_sem]) <;> rfl) (by simp [room_eq, AV.norefs, AV.noref]; omega) ?_  -- R15
      refine EvC.rg (by (simp only [go_sem]) <;> rfl) hIi ?_  -- R9
      refine ⟨[(0, 0), (1, 1), (2, 2), (3, 3)], i + 1, rfl, ?_, by omega, by omega⟩
      (simp only [go_sem, hi0, List.range_succ, he, edgeC, List.length_map, List.length_range]) <;> rfl
    · have hp : ¬ (x.part = true ∧ x.v s i % 4 = 3) := by
        rintro ⟨h1, h2⟩
        simp [h1, h2] at hp
      have he : x.edge s i = (x.v s i / 4 % x.n, x.v s i / 4 / x.n % x.o) := if_neg hp
      have hq1 : 0 ≤ x.v s i / 4 := Int.ediv_nonneg hv.1 (by omega)
      have hq2 : 0 ≤ x.v s i / 4 / x.n := Int.ediv_nonneg hq1 (by omega)
      have hq3 : x.v s i / 4 ≤ 65536 := by omega
      have hq4 : x.v s i / 4 / x.n ≤ x.v s i / 4 := Int.ediv_le_self _ hq1
      have hIq1 : inI64 (x.v s i / 4) = true := inI64_of (by omega) (by omega)
      have hIq2 : inI64 (x.v s i / 4 / x.n) = true := inI64_of (by omega) (by omega)
      apply EvC.drd mixed  -- R16
      · (simp only [go_sem]) <;> rfl
      · simp [room_eq, AV.norefs, AV.noref, hv.1, hq1, hq2, hIq1, hIq2]; omega
      · kernel_rfl
      refine EvC.rg (by (simp only [go_sem]) <;> rfl) hIi ?_  -- R9
      refine ⟨[(0, 0), (1, 1), (2, 2), (3, 3)], i + 1, rfl, ?_, by omega, by omega⟩
      (simp only [go_sem, hi0, List.range_succ, he, edgeC, List.length_map, List.length_range]) <;> rfl
  · have hkl : ¬ s * x.i + i < x.es.length := by
      have : ¬ (s : Int) * x.i + i < x.es.length := by simpa using hc
      omega
    have hev : x.v s i = 0 := by
      unfold LM.v
      rw [List.getElem?_eq_none (by omega)]; rfl
    refine EvC.skip ?_
    rw [← hev]
    apply EvC.seq  -- R14
    apply EvC.trd
    · (simp only [go_sem, LM.cells]) <;> rfl
    · simp [hv.1]
    have hi0 : (i + 1 == 0) = false := rfl
    refine EvC.cond (by (simp only [go_sem]) <;> rfl) (fun hp => ?_) (fun hp => ?_)
    · have hp : x.part = true ∧ x.v s i % 4 = 3 := by
        by_cases h1 : x.part = true
        · simp [h1] at hp; exact ⟨h1, hp⟩
        · simp [h1] at hp
      have he : x.edge s i = (-1, -1) := if_pos hp
      refine EvC.rg (by (simp only [go_sem]) <;> rfl) (by simp [room_eq, AV.norefs, AV.noref]; omega) ?_  -- R15
      refine EvC.rg (by (simp only [go_sem]) <;> rfl) hIi ?_  -- R9
      refine ⟨[(0, 0), (1, 1), (2, 2), (3, 3)], i + 1, rfl, ?_, by omega, by omega⟩
      (simp only [go_sem, hi0, List.range_succ, he, edgeC, List.length_map, List.length_range]) <;> rfl
    · have hp : ¬ (x.part = true ∧ x.v s i % 4 = 3) := by
        rintro ⟨h1, h2⟩
        simp [h1, h2] at hp
      have he : x.edge s i = (x.v s i / 4 % x.n, x.v s i / 4 / x.n % x.o) := if_neg hp
      have hq1 : 0 ≤ x.v s i / 4 := Int.ediv_nonneg hv.1 (by omega)
      have hq2 : 0 ≤ x.v s i / 4 / x.n := Int.ediv_nonneg hq1 (by omega)
      have hq3 : x.v s i / 4 ≤ 65536 := by omega
      have hq4 : x.v s i / 4 / x.n ≤ x.v s i / 4 := Int.ediv_le_self _ hq1
      have hIq1 : inI64 (x.v s i / 4) = true := inI64_of (by omega) (by omega)
      have hIq2 : inI64 (x.v s i / 4 / x.n) = true := inI64_of (by omega) (by omega)
      apply EvC.drd mixed  -- R16
      · (simp only [go_sem]) <;> rfl
      · simp [room_eq, AV.norefs, AV.noref, hv.1, hq1, hq2, hIq1, hIq2]; omega
      · kernel_rfl
      refine EvC.rg (by (simp only [go_sem]) <;> rfl) hIi ?_  -- R9
      refine ⟨[(0, 0), (1, 1), (2, 2), (3, 3)], i + 1, rfl, ?_, by omega, by omega⟩
      (simp only [go_sem, hi0, List.range_succ, he, edgeC, List.length_map, List.length_range]) <;> rfl
end Go.Avl
namespace Go.Avl
open Go Go.Proofs.Try
set_option maxRecDepth 10000
set_option linter.unusedSimpArgs false

def fdiff : List Int → List Int → Int
  | x :: xs, y :: ys => if x < y then -1 else if y < x then 1 else fdiff xs ys
  | _, _ => 0
def cmpW (a b : List Int) : Int := if a.length < b.length then -1 else if b.length < a.length then 1 else fdiff a b
theorem fdiff_zero : ∀ {a b : List Int}, a.length = b.length → (fdiff a b = 0 ↔ a = b)
  | [], [], _ => by simp [fdiff]
  | x :: xs, y :: ys, h => by
    have := fdiff_zero (a := xs) (b := ys) (by simpa using h)
    unfold fdiff
    split
    · rename_i h1
      constructor
      · intro h; cases h
      · intro h; cases h; omega
    · split
      · constructor
        · intro h; cases h
        · intro h; cases h; omega
      · rw [this]
        have : x = y := by omega
        simp [this]
theorem cmpW_zero {a b : List Int} : cmpW a b = 0 ↔ a = b := by
  unfold cmpW
  split
  · rename_i h
    constructor
    · intro h; cases h
    · rintro rfl; omega
  · split
    · constructor
      · intro h; cases h
      · rintro rfl; omega
    · exact fdiff_zero (by omega)
theorem compare_is (na : Bool) (a : List Int) (ca : Cp) (nb : Bool) (b : List Int) (cb : Cp) (hl : a.length < 1000000) : PureIs prog 52 [.sl na (a.map intC) ca, .sl nb (b.map intC) cb] (.sc (.int .i64 (cmpW a b))) := by
  refine PureIs.of (nv := 2) (hid := [4, 5, 10, 15, 19, 30, 39]) func52 rfl (by kernel_rfl) (by simp [ntmps52]) fun _ => ?_
  rw [ntmps52, results52]
  refine EvC.seq (EvC.rg (by (simp only [go_sem]) <;> rfl) (by simp) ?_)
  refine EvC.seq ?_
  refine EvC.seq (EvC.rg (by (simp only [go_sem]) <;> rfl) (by simp) ?_)
  refine EvC.cond (by (simp only [go_sem]) <;> rfl) (fun hc => ?_) (fun hc => ?_)
  · have hc : a.length < b.length := by have : (a.length : Int) < b.length := by simpa using hc
                                        omega
    refine EvC.seq (EvC.rg (by (simp only [go_sem]) <;> rfl) (by simp) ?_)
    refine EvC.ret ⟨.inl rfl, _, (by (simp only [go_sem]) <;> rfl), ?_, rfl⟩
    simp only [go_sem]
    rw [cmpW, if_pos hc]
  have h1 : ¬ a.length < b.length := by have : ¬ (a.length : Int) < b.length := by simpa using hc
                                        omega
  clear hc
  refine EvC.skip ?_
  refine EvC.seq ?_
  refine EvC.seq (EvC.rg (by (simp only [go_sem]) <;> rfl) (by simp) ?_)
  refine EvC.cond (by (simp only [go_sem]) <;> rfl) (fun hc => ?_) (fun hc => ?_)
  · have hc : b.length < a.length := by have : (b.length : Int) < a.length := by simpa using hc
                                        omega
    refine EvC.seq (EvC.rg (by (simp only [go_sem]) <;> rfl) (by simp) ?_)
    refine EvC.ret ⟨.inl rfl, _, (by (simp only [go_sem]) <;> rfl), ?_, rfl⟩
    simp only [go_sem]
    rw [cmpW, if_neg h1, if_pos hc]
  have h2 : ¬ b.length < a.length := by have : ¬ (b.length : Int) < a.length := by simpa using hc
                                        omega
  clear hc
  have hw : cmpW a b = fdiff a b := by rw [cmpW, if_neg h1, if_neg h2]
  refine EvC.skip ?_
  refine EvC.seq ?_
  refine EvC.seq (EvC.rg (by (simp only [go_sem]) <;> rfl) (by simp) ?_)
  refine EvC.block ?_  -- 0
  refine EvC.loopS (σ := Nat) (fun i => ⟨[(0, .sl na (a.map intC) ca), (1, .sl nb (b.map intC) cb), (5, .sc (.int .i64 i))], [], [], 0⟩) (fun i => a.length - i) (fun i => i ≤ a.length ∧ fdiff a b = fdiff (a.drop i) (b.drop i)) [0, 1, 5] 0 ?_ ?_
  · refine ⟨[], 0, rfl, (by (simp only [go_sem]) <;> rfl), Nat.zero_le _, by simp⟩
  rintro i ⟨hi, h3⟩
  refine EvC.seq ?_
  refine EvC.seq (EvC.rg (by (simp only [go_sem]) <;> rfl) (by simp) ?_)
  refine EvC.cond (by (simp only [go_sem]) <;> rfl) (fun hc => ?_) (fun hc => ?_)
  rotate_left
  · refine EvC.exit ?_  -- 0
    have hi : ¬ i < a.length := by simpa using hc
    refine EvC.seq (EvC.rg (by (simp only [go_sem]) <;> rfl) (by simp) ?_)
    refine EvC.ret ⟨.inl rfl, _, (by (simp only [go_sem]) <;> rfl), ?_, rfl⟩
    simp only [go_sem]
    rw [hw, h3, List.drop_of_length_le (by omega)]; rfl
  have hi : i < a.length := by simpa using hc
  have hi2 : i < b.length := by omega
  have ha : a[i]? = some a[i] := List.getElem?_eq_getElem hi
  have hb : b[i]? = some b[i] := List.getElem?_eq_getElem hi2
  have hda : a.drop i = a[i] :: a.drop (i + 1) := List.drop_eq_getElem_cons hi
  have hdb : b.drop i = b[i] :: b.drop (i + 1) := List.drop_eq_getElem_cons hi2
  generalize a[i] = x at ha hda
  generalize b[i] = y at hb hdb
  refine EvC.skip ?_
  refine EvC.seq ?_
  refine EvC.block ?_  -- 1
  refine EvC.seq ?_
  apply EvC.seq
  apply EvC.drd mixed
  · (simp only [go_sem, ha, hb, intC]) <;> rfl
  · simp
  · kernel_rfl
  refine EvC.cond (by (simp only [go_sem]) <;> rfl) (fun hc => ?_) (fun hc => ?_)
  · have hc : x < y := by simpa using hc
    refine EvC.seq (EvC.rg (by (simp only [go_sem]) <;> rfl) (by simp) ?_)
    refine EvC.ret ⟨.inl rfl, _, (by (simp only [go_sem]) <;> rfl), ?_, rfl⟩
    simp only [go_sem]
    rw [hw, h3, hda, hdb, fdiff, if_pos hc]
  have hc1 : ¬ x < y := by simpa using hc
  refine EvC.skip ?_
  apply EvC.seq
  apply EvC.drd mixed
  · (simp only [go_sem, ha, hb, intC]) <;> rfl
  · simp
  · kernel_rfl
  refine EvC.cond (by (simp only [go_sem]) <;> rfl) (fun hc => ?_) (fun hc => ?_)
  · have hc : y < x := by simpa using hc
    refine EvC.seq (EvC.rg (by (simp only [go_sem]) <;> rfl) (by simp) ?_)
    refine EvC.ret ⟨.inl rfl, _, (by (simp only [go_sem]) <;> rfl), ?_, rfl⟩
    simp only [go_sem]
    rw [hw, h3, hda, hdb, fdiff, if_neg hc1, if_pos hc]
  have hc2 : ¬ y < x := by simpa using hc
  refine EvC.skip ?_
  refine EvC.rg (by (simp only [go_sem]) <;> rfl) (by exact inI64_of (by omega) (by omega)) ?_
  refine ⟨[], i + 1, rfl, (by (simp only [go_sem]) <;> rfl), ⟨by omega, ?_⟩, by omega⟩
  rw [h3, hda, hdb, fdiff, if_neg hc1, if_neg hc2]
theorem same_is (na : Bool) (a : List Int) (ca : Cp) (nb : Bool) (b : List Int) (cb : Cp) (hl : a.length < 1000000) : PureIs prog 30 [.sl na (a.map intC) ca, .sl nb (b.map intC) cb] (.sc (.bool (decide (a = b)))) := by
  refine PureIs.of (nv := 2) (hid := [4]) func30 rfl (by kernel_rfl) (by simp [ntmps30]) fun _ => ?_
  rw [ntmps30, results30]
  refine EvC.seq (EvC.rg (by (simp only [go_sem]) <;> rfl) (by simp) ?_)
  apply EvC.seq
  apply EvC.tr
  · apply Tr.run
    · (simp only [go_sem]) <;> rfl
    · simp
    apply Tr.cons
    · exact .call rfl rfl (by (simp only [go_sem]) <;> rfl) (by (simp only [go_sem]) <;> rfl) (by (simp only [go_sem]) <;> rfl) (by (simp only [go_sem]) <;> rfl) (by (simp only [go_sem]) <;> rfl) (compare_is na a ca nb b cb hl)
    apply Tr.done
    · (simp only [go_sem]) <;> rfl
    · simp
  refine EvC.ret ⟨.inl rfl, _, (by (simp only [go_sem]) <;> rfl), ?_, rfl⟩
  simp only [go_sem]
  simp [cmpW_zero]
end Go.Avl
namespace Go.Avl
open Go Go.Proofs.Try
set_option maxRecDepth 10000
set_option linter.unusedSimpArgs false

def u8C (x : Int) : List AV := [.sc (.int .u8 x)]
@[go_sem] theorem norefs_u8 (l : List Int) : (l.map u8C).all AV.norefs = true := by simp [List.all_eq_true, u8C, AV.norefs, AV.noref]
/-- The symbols of a word's plain data. -/
def wOf (l : List Int) (n : Int) : List Int := (l.take 12).map (· % n)
theorem wOf_snoc {l : List Int} {i : Nat} {x n : Int} (h : l[i]? = some x) (hi : i < 12) : wOf (l.take (i + 1)) n = wOf (l.take i) n ++ [x % n] := by
  unfold wOf
  obtain ⟨h1, rfl⟩ := List.getElem?_eq_some_iff.1 h
  rw [List.take_take, List.take_take, Nat.min_eq_right (by omega), Nat.min_eq_right (by omega), List.take_add_one, List.getElem?_eq_getElem h1, List.map_append]
  rfl
theorem isEmpty_len {α : Type} (l : List α) : l.isEmpty = (l.length == 0) := by cases l <;> rfl
theorem wOf_is (nl : Bool) (l : List Int) (c : Cp) (n : Int) (hn : 1 ≤ n) (hl : ∀ x ∈ l, 0 ≤ x ∧ x < 256) : PureIs prog 13 [.ag [.sl nl (l.map u8C) c], .sc (.int .i64 n)] (.sl (wOf l n).isEmpty ((wOf l n).map intC) .unk) := by
  refine PureIs.of (nv := 3) (hid := [4, 5, 6, 15]) func13 rfl (by kernel_rfl) (by simp [ntmps13]) fun _ => ?_
  rw [ntmps13, results13]
  refine EvC.seq (EvC.rg (by (simp only [go_sem]) <;> rfl) (by simp) ?_)
  refine EvC.frzB 0 (by (simp only [go_sem]) <;> rfl) ?_
  refine EvC.seq (EvC.rg (by (simp only [go_sem]) <;> rfl) (by simp) ?_)
  refine EvC.seq ?_
  refine EvC.seq (EvC.rg (by (simp only [go_sem]) <;> rfl) (by simp) ?_)
  refine EvC.block ?_  -- 0
  refine EvC.loopS (σ := Nat) (fun i => ⟨[(1, .sc (.int .i64 n)), (2, .ia [.sl nl (l.map u8C) c]), (5, .tl 0 i (i == 0)), (6, .sc (.int .i64 i))], [], [(0, .arr 1 ((wOf (l.take i) n).map intC) true)], 1⟩) (fun i => l.length - i) (fun i => i ≤ l.length ∧ i ≤ 12) [1, 2, 5, 6] 1 ?_ ?_
  · refine ⟨[(2, 0)], 0, rfl, (by simp only [List.take_zero, wOf]; (simp only [go_sem]) <;> rfl), Nat.zero_le _, Nat.zero_le _⟩
  rintro i ⟨h1, h2⟩
  have hlw : (wOf (l.take i) n).length = i := by simp [wOf]; omega
  have hlen : ((wOf (l.take i) n).map intC).length = i := by simp [hlw]
  refine EvC.seq ?_
  apply EvC.seq
  apply EvC.trd
  · (simp only [go_sem]) <;> rfl
  · simp
  refine EvC.cond (by (simp only [go_sem]) <;> rfl) (fun hc => ?_) (fun hc => ?_)
  rotate_left
  · refine EvC.exit ?_  -- 0
    have hi : i = l.length ∨ i = 12 := by
      by_cases h : (i : Int) < l.length
      · simp [h] at hc; omega
      · omega
    have hw : wOf (l.take i) n = wOf l n := by
      unfold wOf
      rcases hi with rfl | rfl
      · rw [List.take_length]
      · rw [List.take_take]; rfl
    have he : (wOf l n).isEmpty = (i == 0) := by
      rw [← hw, isEmpty_len, hlw]
    refine EvC.frz 0 (by (simp only [go_sem, hlen]) <;> rfl) ?_
    refine EvC.seq (EvC.rg (by (simp only [go_sem]) <;> rfl) (by simp) ?_)
    refine EvC.ret ⟨.inl rfl, _, (by (simp only [go_sem]) <;> rfl), ?_, rfl⟩
    simp only [go_sem]
    rw [hw, he]
  have hi : i < l.length ∧ i < 12 := by
    by_cases h : (i : Int) < l.length
    · simp [h] at hc; omega
    · simp [h] at hc
  have he : l[i]? = some l[i] := List.getElem?_eq_getElem hi.1
  have hx := hl _ (List.getElem_mem hi.1)
  generalize l[i] = x at he hx
  refine EvC.skip ?_
  refine EvC.seq ?_
  refine EvC.block ?_  -- 1
  have hI : inI64 x = true := inI64_of (by omega) (by omega)
  refine EvC.rg (by (simp only [go_sem, he, u8C]) <;> rfl) (by simp [room_eq, AV.norefs, AV.noref, hI, hlw, hx.1]; omega) ?_
  refine EvC.rg (by (simp only [go_sem]) <;> rfl) (by exact inI64_of (by omega) (by omega)) ?_
  refine ⟨[(0, 0)], i + 1, rfl, ?_, ⟨by omega, by omega⟩, by omega⟩
  have h0 : (i + 1 == 0) = false := by simp
  (simp only [go_sem, h0, hlw, wOf_snoc he hi.2, intC, List.length_append, List.length_map]) <;> rfl

theorem edge_is (a b : Int) : PureIs prog 27 [.sc (.int .i64 a), .sc (.int .i64 b)] (.ag [.sc (.int .i64 a), .sc (.int .i64 b)]) := by
  refine PureIs.of (nv := 2) (hid := [4]) func27 rfl (by kernel_rfl) (by simp [ntmps27]) fun _ => ?_
  rw [ntmps27, results27]
  refine EvC.seq (EvC.rg (by (simp only [go_sem]) <;> rfl) (by simp) ?_)
  refine EvC.seq (EvC.rg (by (simp only [go_sem]) <;> rfl) (by simp) ?_)
  refine EvC.ret ⟨.inl rfl, _, (by (simp only [go_sem]) <;> rfl), ?_, rfl⟩
  simp only [go_sem]
end Go.Avl
namespace Go.Avl
open Go Go.Proofs.Try
set_option maxRecDepth 10000
set_option linter.unusedSimpArgs false

theorem none11_is : PureIs prog 39 [] (.ag [.sc (.int .i64 (-1)), .sc (.int .i64 (-1))]) := by
  refine PureIs.of (nv := 1) (hid := []) func39 rfl (by kernel_rfl) (by simp [ntmps39]) fun _ => ?_
  rw [ntmps39, results39]
  refine EvC.seq (EvC.rg (by (simp only [go_sem]) <;> rfl) (by simp) ?_)
  refine EvC.seq (EvC.rg (by (simp only [go_sem]) <;> rfl) (by simp) ?_)
  refine EvC.ret ⟨.inl rfl, _, (by (simp only [go_sem]) <;> rfl), ?_, rfl⟩
  simp only [go_sem]

/-- A row, a machine without spare capacity. -/
def rowG (r : Row) : List AV := [.sl r.1 (r.2.map edgeC) .full]
@[go_sem] theorem norefs_rowG (l : List Row) : (l.map rowG).all AV.norefs = true := by simp [List.all_eq_true, rowG, AV.norefs, AV.noref]
@[go_sem] theorem norefs_rowC (l : List Row) : (l.map rowC).all AV.norefs = true := by simp [List.all_eq_true, rowC, AV.norefs, AV.noref]
def Mach.cellsF (m : Mach) : List AV := [.sc (.int .i64 m.ins), .sc (.int .i64 m.outs), .sl m.nl (m.rows.map rowG) .full]
theorem edges_unk (l : List (Int × Int)) : AV.unkss (l.map edgeC) = l.map edgeC := unkss_map edgeC (fun _ => rfl) l
theorem rowC_unk (r : Row) : AV.unks (rowC r) = rowC r := by simp only [rowC, AV.unks, AV.unk, edges_unk]
theorem rowG_unk (r : Row) : AV.unks (rowG r) = rowC r := by simp only [rowC, rowG, AV.unks, AV.unk, edges_unk]
theorem rowsC_unk (l : List Row) : AV.unkss (l.map rowC) = l.map rowC := unkss_map rowC rowC_unk l
theorem rowsG_unk (l : List Row) : AV.unkss (l.map rowG) = l.map rowC := by rw [unkss_eq, List.map_map]; exact List.map_congr_left fun r _ => rowG_unk r
theorem Mach.cells_unk (m : Mach) : AV.unks m.cells = m.cells := by simp only [Mach.cells, AV.unks, AV.unk, rowsC_unk]
theorem Mach.cellsF_unk (m : Mach) : AV.unks m.cellsF = m.cells := by simp only [Mach.cells, Mach.cellsF, AV.unks, AV.unk, rowsG_unk]
@[go_sem] theorem norefs_cells (m : Mach) : AV.norefs m.cells = true := by simp [Mach.cells, AV.norefs, AV.noref]
@[go_sem] theorem norefs_cellsF (m : Mach) : AV.norefs m.cellsF = true := by simp [Mach.cellsF, AV.norefs, AV.noref]

theorem clipped_is (m : Mach) (hl : m.rows.length < 1000000) : PureIs prog 16 [.ag m.cellsF] (.sc (.bool true)) := by
  refine PureIs.of (nv := 4) (hid := [8, 23]) func16 rfl (by kernel_rfl) (by simp [ntmps16]) fun _ => ?_
  rw [ntmps16, results16]
  refine EvC.seq (EvC.rg (by (simp only [go_sem, Mach.cellsF]) <;> rfl) (by simp) ?_)
  refine EvC.frzB 0 (by (simp only [go_sem]) <;> rfl) ?_
  refine EvC.seq ?_
  refine EvC.seq (EvC.rg (by (simp only [go_sem]) <;> rfl) (by simp) ?_)
  refine EvC.block ?_  -- 0
  refine EvC.loopS (σ := Nat) (fun i => ⟨[(1, .ia m.cellsF), (3, .sc (.int .i64 i))], [], [], 0⟩) (fun i => m.rows.length - i) (fun i => i ≤ m.rows.length) [1, 3] 0 ?_ ?_
  · refine ⟨[], 0, rfl, (by (simp only [go_sem, Mach.cellsF]) <;> rfl), Nat.zero_le _⟩
  intro i h1
  refine EvC.seq ?_
  refine EvC.seq (EvC.rg (by (simp only [go_sem, Mach.cellsF]) <;> rfl) (by simp) ?_)
  refine EvC.cond (by (simp only [go_sem]) <;> rfl) (fun hc => ?_) (fun hc => ?_)
  rotate_left
  · refine EvC.exit ?_  -- 0
    refine EvC.seq (EvC.rg (by (simp only [go_sem, Mach.cellsF]) <;> rfl) (by simp) ?_)
    refine EvC.ret ⟨.inl rfl, _, (by (simp only [go_sem]) <;> rfl), ?_, rfl⟩
    simp only [go_sem]
  have hi : i < m.rows.length := by simpa using hc
  have he : m.rows[i]? = some m.rows[i] := List.getElem?_eq_getElem hi
  generalize m.rows[i] = r at he
  refine EvC.skip ?_
  refine EvC.seq ?_
  refine EvC.block ?_  -- 1
  apply EvC.seq
  apply EvC.drd mixed
  · (simp only [go_sem, he, rowG, Mach.cellsF]) <;> rfl
  · simp
  · kernel_rfl
  refine EvC.cond_false (by (simp only [go_sem]) <;> rfl) ?_
  refine EvC.skip ?_
  refine EvC.rg (by (simp only [go_sem]) <;> rfl) (by exact inI64_of (by omega) (by omega)) ?_
  exact ⟨[], i + 1, rfl, (by (simp only [go_sem]) <;> rfl), by omega, by omega⟩

/-- What is returned with an error. -/
def zeroM : List AV := [.sc (.int .i64 0), .sc (.int .i64 0), .sl true [] .zer]
theorem nothing_is (e : Int) (c : Cp) : PureIs prog 18 [.ag [.sc (.int .i64 0), .sc (.int .i64 0), .sl true [] c], .sc (.int .i64 e), .sc (.int .i64 e)] (.sc (.bool true)) := by
  refine PureIs.of (nv := 4) (hid := [6]) func18 rfl (by kernel_rfl) (by simp [ntmps18]) fun _ => ?_
  rw [ntmps18, results18]
  refine EvC.seq (EvC.rg (by (simp only [go_sem]) <;> rfl) (by simp) ?_)
  apply EvC.seq
  apply EvC.trd
  · (simp only [go_sem]) <;> rfl
  · simp
  refine EvC.ret ⟨.inl rfl, _, (by (simp only [go_sem]) <;> rfl), ?_, rfl⟩
  simp only [go_sem]
end Go.Avl
namespace Go.Avl
open Go Go.Proofs.Try
set_option maxRecDepth 10000
set_option linter.unusedSimpArgs false

theorem rows_get {a b : Mach} (h : a.rows.map (·.2) = b.rows.map (·.2)) {i : Nat} {r : Row} (hr : a.rows[i]? = some r) : ∃ n, b.rows[i]? = some (n, r.2) := by
  have h2 := congrArg (fun l => l[i]?) h
  simp only [List.getElem?_map, hr, Option.map_some] at h2
  cases hb : b.rows[i]? with
  | none => rw [hb] at h2; cases h2
  | some q => rw [hb] at h2; simp only [Option.map_some, Option.some.injEq] at h2; exact ⟨q.1, by rw [h2]⟩

theorem sameM_is {a b : Mach} (h1 : a.ins = b.ins) (h2 : a.outs = b.outs) (h3 : a.rows.map (·.2) = b.rows.map (·.2)) (hl : a.rows.length < 1000000) (hr : ∀ r ∈ a.rows, r.2.length < 1000000) : PureIs prog 42 [.ag a.cells, .ag b.cells] (.sc (.bool true)) := by
  have hl2 : b.rows.length = a.rows.length := by have := congrArg List.length h3; simpa using this.symm
  refine PureIs.of (nv := 7) (hid := [27, 32, 47, 55, 74]) func42 rfl (by kernel_rfl) (by simp [ntmps42]) fun _ => ?_
  rw [ntmps42, results42]
  refine EvC.seq (EvC.rg (by (simp only [go_sem, Mach.cells]) <;> rfl) (by simp) ?_)
  refine EvC.frzB 0 (by (simp only [go_sem]) <;> rfl) ?_
  refine EvC.frzB 1 (by (simp only [go_sem]) <;> rfl) ?_
  refine EvC.seq ?_
  apply EvC.seq
  apply EvC.trd
  · (simp only [go_sem, h1, h2, hl2]) <;> rfl
  · simp
  refine EvC.cond_false (by (simp only [go_sem]) <;> rfl) ?_
  refine EvC.skip ?_
  refine EvC.seq ?_
  refine EvC.seq (EvC.rg (by (simp only [go_sem]) <;> rfl) (by simp) ?_)
  refine EvC.block ?_  -- 0
  refine EvC.loopS (σ := Nat) (fun i => ⟨[(2, .ia a.cells), (3, .ia b.cells), (5, .sc (.int .i64 i))], [], [], 0⟩) (fun i => a.rows.length - i) (fun i => i ≤ a.rows.length) [2, 3, 5] 0 ?_ ?_
  · exact ⟨[], 0, rfl, (by (simp only [go_sem, Mach.cells, h1, h2]) <;> rfl), Nat.zero_le _⟩
  intro i hi
  refine EvC.seq ?_
  refine EvC.seq (EvC.rg (by (simp only [go_sem, Mach.cells]) <;> rfl) (by simp) ?_)
  refine EvC.cond (by (simp only [go_sem]) <;> rfl) (fun hc => ?_) (fun hc => ?_)
  rotate_left
  · refine EvC.exit ?_  -- 0
    refine EvC.seq (EvC.rg (by (simp only [go_sem]) <;> rfl) (by simp) ?_)
    refine EvC.ret ⟨.inl rfl, _, (by (simp only [go_sem]) <;> rfl), ?_, rfl⟩
    simp only [go_sem]
  have hi : i < a.rows.length := by simpa using hc
  have he : a.rows[i]? = some a.rows[i] := List.getElem?_eq_getElem hi
  have hm := List.getElem_mem hi
  generalize a.rows[i] = r at he hm
  obtain ⟨n, hb⟩ := rows_get h3 he
  obtain ⟨na, es⟩ := r
  have hes := hr _ hm
  simp only at hb hes
  refine EvC.skip ?_
  refine EvC.seq ?_
  refine EvC.block ?_  -- 1
  refine EvC.seq ?_
  apply EvC.seq
  apply EvC.drd mixed
  · (simp only [go_sem, he, hb, rowC, Mach.cells]) <;> rfl
  · simp
  · kernel_rfl
  refine EvC.cond_false (by (simp only [go_sem]) <;> rfl) ?_
  refine EvC.skip ?_
  refine EvC.seq (EvC.rg (by (simp only [go_sem]) <;> rfl) (by simp) ?_)
  refine EvC.block ?_  -- 2
  refine EvC.loopS (σ := Nat) (fun k => ⟨[(2, .ia a.cells), (3, .ia b.cells), (5, .sc (.int .i64 i)), (6, .sc (.int .i64 k))], [], [], 0⟩) (fun k => es.length - k) (fun k => k ≤ es.length) [2, 3, 5, 6] 0 ?_ ?_
  · exact ⟨[], 0, rfl, (by (simp only [go_sem, Mach.cells, h1, h2]) <;> rfl), Nat.zero_le _⟩
  intro k hk
  refine EvC.seq ?_
  refine EvC.seq (EvC.rg (by (simp only [go_sem, he, rowC, Mach.cells]) <;> rfl) (by simp) ?_)
  refine EvC.cond (by (simp only [go_sem]) <;> rfl) (fun hc => ?_) (fun hc => ?_)
  rotate_left
  · refine EvC.exit ?_  -- 2
    refine EvC.rg (by (simp only [go_sem]) <;> rfl) (by exact inI64_of (by omega) (by omega)) ?_
    exact ⟨[], i + 1, rfl, (by (simp only [go_sem, Mach.cells]) <;> rfl), by omega, by omega⟩
  have hk : k < es.length := by simpa using hc
  have hek : es[k]? = some es[k] := List.getElem?_eq_getElem hk
  generalize es[k] = e at hek
  refine EvC.skip ?_
  refine EvC.seq ?_
  refine EvC.block ?_  -- 3
  apply EvC.seq
  apply EvC.drd mixed
  · (simp only [go_sem, he, hb, rowC, Mach.cells, hek, edgeC]) <;> rfl
  · simp
  · kernel_rfl
  refine EvC.cond_false (by (simp only [go_sem]) <;> rfl) ?_
  refine EvC.skip ?_
  refine EvC.rg (by (simp only [go_sem]) <;> rfl) (by exact inI64_of (by omega) (by omega)) ?_
  exact ⟨[], k + 1, rfl, (by (simp only [go_sem, Mach.cells]) <;> rfl), by omega, by omega⟩

theorem machine_is {a b : Mach} (h1 : a.ins = b.ins) (h2 : a.outs = b.outs) (h3 : a.rows.map (·.2) = b.rows.map (·.2)) (hl : a.rows.length < 1000000) (hr : ∀ r ∈ a.rows, r.2.length < 1000000) : PureIs prog 21 [.ag a.cellsF, .sc (.int .i64 0), .ag b.cells] (.sc (.bool true)) := by
  have hs : PureIs prog 42 [.ag a.cellsF, .ag b.cells] (.sc (.bool true)) := by
    refine PureIs.weak ?_
    simp only [List.map_cons, List.map_nil, AV.unk, Mach.cellsF_unk, Mach.cells_unk]
    exact sameM_is h1 h2 h3 hl hr
  refine PureIs.of (nv := 4) (hid := [5, 6]) func21 rfl (by kernel_rfl) (by simp [ntmps21]) fun _ => ?_
  rw [ntmps21, results21]
  refine EvC.seq (EvC.rg (by (simp only [go_sem, Mach.cellsF, Mach.cells]) <;> rfl) (by simp) ?_)
  refine EvC.frzB 0 (by (simp only [go_sem]) <;> rfl) ?_
  refine EvC.frzB 1 (by (simp only [go_sem]) <;> rfl) ?_
  apply EvC.seq
  apply EvC.tr
  · apply Tr.run
    · (simp only [go_sem, Mach.cellsF, Mach.cells]) <;> rfl
    · simp
    apply Tr.cons
    · exact .callG rfl rfl (by (simp only [go_sem]) <;> rfl) rfl (by (simp only [go_sem]) <;> rfl) (by (simp only [go_sem]) <;> rfl) (by (simp only [go_sem]) <;> rfl) (by (simp only [go_sem]) <;> rfl) (by (simp only [go_sem]) <;> rfl) (by simpa [Mach.cellsF, Mach.cells] using hs)
    apply Tr.run
    · (simp only [go_sem]) <;> rfl
    · simp
    apply Tr.cons
    · exact .callG rfl rfl (by (simp only [go_sem]) <;> rfl) rfl (by (simp only [go_sem]) <;> rfl) (by (simp only [go_sem]) <;> rfl) (by (simp only [go_sem]) <;> rfl) (by (simp only [go_sem]) <;> rfl) (by (simp only [go_sem]) <;> rfl) (by simpa [Mach.cellsF] using clipped_is a hl)
    apply Tr.done
    · (simp only [go_sem]) <;> rfl
    · simp
  refine EvC.ret ⟨.inl rfl, _, (by (simp only [go_sem]) <;> rfl), ?_, rfl⟩
  simp only [go_sem]
end Go.Avl
namespace Go.Avl
open Go Go.Proofs.Try
set_option maxRecDepth 10000
set_option linter.unusedSimpArgs false

/-- What a pair of states does. -/
def stepJ (a b : Mach) (par : Int) (p : Int × Int) (i : Int) : (Int × Int) × Int :=
  if (stepR a p.1 i).1 < 0 then ((0, 0), -1)
  else if par = 1 then
    if (stepR b p.2 i).1 < 0 then ((0, 0), -1) else (((stepR a p.1 i).1, (stepR b p.2 i).1), (stepR a p.1 i).2 * b.outs + (stepR b p.2 i).2)
  else if (stepR b p.2 (stepR a p.1 i).2).1 < 0 then ((0, 0), -1) else (((stepR a p.1 i).1, (stepR b p.2 (stepR a p.1 i).2).1), (stepR b p.2 (stepR a p.1 i).2).2)
/-- Machines that fit, in series or in parallel. -/
structure Fit (a b : Mach) (par : Int) : Prop where
  va : Valid a
  vb : Valid b
  p : par = 0 ∨ par = 1
  ser : par = 0 → a.outs = b.ins
  par : par = 1 → a.ins = b.ins
theorem fits_edge {n : Nat} {o : Int} {e : Int × Int} (h : fitsR n o e.1 e.2 = true) : (e.1 = -1 ∧ e.2 = -1) ∨ (0 ≤ e.1 ∧ e.1 < n ∧ 0 ≤ e.2 ∧ e.2 < o) := by
  simp only [fitsR, Bool.or_eq_true, Bool.and_eq_true, decide_eq_true_eq] at h
  rcases h with h | h
  · exact .inl h
  · exact .inr ⟨h.1.1.1, h.1.1.2, h.1.2, h.2⟩
theorem step40_is {a b : Mach} {par : Int} (h : Fit a b par) (s t : Int) (i : Int) (hs : 0 ≤ s ∧ s < a.rows.length) (ht : 0 ≤ t ∧ t < b.rows.length) (hi : 0 ≤ i ∧ i < a.ins) :
    PureIs prog 40 [.ag a.cells, .ag b.cells, .sc (.int .i64 par), edgeA (s, t), .sc (.int .i64 i)] (.tu [edgeA (stepJ a b par (s, t) i).1, .sc (.int .i64 (stepJ a b par (s, t) i).2)]) := by
  obtain ⟨r1, x, k1, k2, k3, k4⟩ := stepR_get h.va hs.1 hs.2 hi
  have hx := fits_edge k4
  have ho := h.vb.outs
  have hao := h.va.outs
  refine PureIs.of (nv := 7) (hid := [8, 10, 11, 12, 13, 14, 26, 29, 41, 68]) func40 rfl (by kernel_rfl) (by simp [ntmps40]) fun _ => ?_
  rw [ntmps40, results40]
  refine EvC.seq (EvC.rg (by (simp only [go_sem, Mach.cells, edgeA]) <;> rfl) (by simp) ?_)
  refine EvC.frzB 0 (by (simp only [go_sem]) <;> rfl) ?_
  refine EvC.frzB 1 (by (simp only [go_sem]) <;> rfl) ?_
  refine EvC.frzB 2 (by (simp only [go_sem]) <;> rfl) ?_
  refine EvC.seq (EvC.rg (by (simp only [go_sem, k1, rowC, k2, edgeC]) <;> rfl) (by simp [hs.1, hi.1]) ?_)
  refine EvC.seq ?_
  refine EvC.seq (EvC.rg (by (simp only [go_sem]) <;> rfl) (by simp) ?_)
  refine EvC.cond (by (simp only [go_sem]) <;> rfl) (fun hc => ?_) (fun hc => ?_)
  · refine EvC.seq (EvC.rg (by (simp only [go_sem]) <;> rfl) (by simp) ?_)
    have hx1 : x.1 < 0 := by simpa using hc
    have hJ : stepJ a b par (s, t) i = ((0, 0), -1) := by simp [stepJ, k3, hx1]
    refine EvC.ret ⟨.inl rfl, _, (by (simp only [go_sem]) <;> rfl), ?_, by simp [edgeA, AV.noref, AV.norefs]⟩
    simp only [go_sem]
    rw [hJ]; rfl
  have hx0 : ¬ x.1 < 0 := by simpa using hc
  have hx' : 0 ≤ x.1 ∧ x.1 < a.rows.length ∧ 0 ≤ x.2 ∧ x.2 < a.outs := by omega
  refine EvC.skip ?_
  refine EvC.seq ?_
  refine EvC.seq (EvC.rg (by (simp only [go_sem]) <;> rfl) (by simp) ?_)
  refine EvC.cond (by (simp only [go_sem]) <;> rfl) (fun hc => ?_) (fun hc => ?_)
  · have hp : par = 1 := by simpa using hc
    obtain ⟨r2, y, l1, l2, l3, l4⟩ := stepR_get h.vb ht.1 ht.2 (show 0 ≤ i ∧ i < b.ins by rw [← h.par hp]; exact hi)
    have hy := fits_edge l4
    refine EvC.seq (EvC.rg (by (simp only [go_sem, l1, rowC, l2, edgeC]) <;> rfl) (by simp [ht.1, hi.1]) ?_)
    refine EvC.seq ?_
    refine EvC.seq (EvC.rg (by (simp only [go_sem]) <;> rfl) (by simp) ?_)
    refine EvC.cond (by (simp only [go_sem]) <;> rfl) (fun hc => ?_) (fun hc => ?_)
    · refine EvC.seq (EvC.rg (by (simp only [go_sem]) <;> rfl) (by simp) ?_)
      have hy1 : y.1 < 0 := by simpa using hc
      have hJ : stepJ a b par (s, t) i = ((0, 0), -1) := by simp [stepJ, k3, l3, hp, hx0, hy1]
      refine EvC.ret ⟨.inl rfl, _, (by (simp only [go_sem]) <;> rfl), ?_, by simp [edgeA, AV.noref, AV.norefs]⟩
      simp only [go_sem]
      rw [hJ]; rfl
    have hy0 : ¬ y.1 < 0 := by simpa using hc
    refine EvC.skip ?_
    have hm1 : 0 ≤ x.2 * b.outs := Int.mul_nonneg (by omega) (by omega)
    have hm2 : x.2 * b.outs ≤ 16 * 16 := Int.mul_le_mul (by omega) (by omega) (by omega) (by omega)
    apply EvC.seq
    apply EvC.drd mixed
    · (simp only [go_sem]) <;> rfl
    · simp; exact ⟨inI64_of (by omega) (by omega), inI64_of (by omega) (by omega)⟩
    · kernel_rfl
    have hJ : stepJ a b par (s, t) i = ((x.1, y.1), x.2 * b.outs + y.2) := by simp [stepJ, k3, l3, hp, hx0, hy0]
    refine EvC.ret ⟨.inl rfl, _, (by (simp only [go_sem]) <;> rfl), ?_, by simp [edgeA, AV.noref, AV.norefs]⟩
    simp only [go_sem]
    rw [hJ]; rfl
  have hp : ¬ par = 1 := by simpa using hc
  have hp0 : par = 0 := by rcases h.p with h | h; exact h; exact absurd h hp
  refine EvC.skip ?_
  obtain ⟨r2, y, l1, l2, l3, l4⟩ := stepR_get h.vb ht.1 ht.2 (show 0 ≤ x.2 ∧ x.2 < b.ins by rw [← h.ser hp0]; omega)
  have hy := fits_edge l4
  apply EvC.seq
  apply EvC.drd mixed
  · (simp only [go_sem, l1, rowC, l2, edgeC]) <;> rfl
  · simp [ht.1, hx'.2.2.1]
  · kernel_rfl
  refine EvC.seq ?_
  refine EvC.seq (EvC.rg (by (simp only [go_sem]) <;> rfl) (by simp) ?_)
  refine EvC.cond (by (simp only [go_sem]) <;> rfl) (fun hc => ?_) (fun hc => ?_)
  · refine EvC.seq (EvC.rg (by (simp only [go_sem]) <;> rfl) (by simp) ?_)
    have hy1 : y.1 < 0 := by simpa using hc
    have hJ : stepJ a b par (s, t) i = ((0, 0), -1) := by simp [stepJ, k3, l3, hp, hx0, hy1]
    refine EvC.ret ⟨.inl rfl, _, (by (simp only [go_sem]) <;> rfl), ?_, by simp [edgeA, AV.noref, AV.norefs]⟩
    simp only [go_sem]
    rw [hJ]; rfl
  have hy0 : ¬ y.1 < 0 := by simpa using hc
  refine EvC.skip ?_
  apply EvC.seq
  apply EvC.drd mixed
  · (simp only [go_sem]) <;> rfl
  · simp
  · kernel_rfl
  have hJ : stepJ a b par (s, t) i = ((x.1, y.1), y.2) := by simp [stepJ, k3, l3, hp, hx0, hy0]
  refine EvC.ret ⟨.inl rfl, _, (by (simp only [go_sem]) <;> rfl), ?_, by simp [edgeA, AV.noref, AV.norefs]⟩
  simp only [go_sem]
  rw [hJ]; rfl
end Go.Avl
