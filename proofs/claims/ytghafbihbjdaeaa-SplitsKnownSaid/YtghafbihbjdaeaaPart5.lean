/-
  Calls that lend objects, whatever they hold, in regions that are drawn, too.
  Facts of the types, printed by a program of this claim's own.
  Lemmas.
  Lemmas.
  Lemmas.
  Lemmas.
  Lemmas.
  Lemmas.
  Lemmas.
  Lemmas.
  Lemmas.
  Lemmas.
  Lemmas.
  Lemmas.
-/
import Derived.Test.YtghafbihbjdaeaaProg
import Derived.KernelRfl
import Derived.Test.YtghafbihbjdaeaaPart4
set_option linter.unusedSimpArgs false
set_option linter.unusedVariables false
set_option linter.unnecessarySimpa false
set_option linter.deprecated false
namespace Go.Avl
open Go

def lendC (f : AV → AV) (cs : List AV) : List AV := if AV.norefs cs = true then cs else cs.map f
def lendR (f : AV → AV) (es : List (List AV)) : List (List AV) := if es.all AV.norefs = true then es else es.map (·.map f)
/-- A value as a plain reading, what it reaches through objects by their contents. -/
def lendA (M : Mem) : Nat → AV → AV
  | 0, v => v
  | d + 1, .tl i n b => match mlook M i with
    | some (.arr _ es _) => .sl b (lendR (lendA M d) es) .unk
    | _ => .tl i n b
  | d + 1, .tv i n off len cap => match mlook M i with
    | some (.arr _ es _) => .sl false (tvEs (lendR (lendA M d) es) n off len) (tvCap len cap)
    | _ => .tv i n off len cap
  | d + 1, .rf i off => match mlook M i with
    | some (.cells cs) => .ia ((lendC (lendA M d) cs).drop off)
    | _ => .rf i off
  | d + 1, .fn f cs => .fn f (lendC (lendA M d) cs)
  | d + 1, .ag cs => .ag (lendC (lendA M d) cs)
  | _ + 1, v => v
/-- Whether that is all that it reaches. -/
def lendK (M : Mem) : Nat → AV → Bool
  | 0, v => v.noref
  | d + 1, .tl i n _ => match mlook M i with
    | some (.arr _ es _) => decide (n = es.length) && (es.all AV.norefs || es.all fun c => c.all (lendK M d))
    | _ => false
  | d + 1, .tv i n _ _ _ => match mlook M i with
    | some (.arr _ es _) => decide (n = es.length) && (es.all AV.norefs || es.all fun c => c.all (lendK M d))
    | _ => false
  | d + 1, .rf i _ => match mlook M i with
    | some (.cells cs) => AV.norefs cs || cs.all (lendK M d)
    | _ => false
  | d + 1, .fn _ cs => AV.norefs cs || cs.all (lendK M d)
  | d + 1, .ag cs => AV.norefs cs || cs.all (lendK M d)
  | _ + 1, v => v.noref
def lendIs (f : AV → List Nat) : List AV → List Nat
  | [] => []
  | c :: cs => f c ++ lendIs f cs
def lendIss (f : AV → List Nat) : List (List AV) → List Nat
  | [] => []
  | c :: cs => lendIs f c ++ lendIss f cs
/-- The objects that are read for that. -/
def lendI (M : Mem) : Nat → AV → List Nat
  | 0, _ => []
  | d + 1, .tl i _ _ => i :: match mlook M i with
    | some (.arr _ es _) => if es.all AV.norefs = true then [] else lendIss (lendI M d) es
    | _ => []
  | d + 1, .tv i _ _ _ _ => i :: match mlook M i with
    | some (.arr _ es _) => if es.all AV.norefs = true then [] else lendIss (lendI M d) es
    | _ => []
  | d + 1, .rf i _ => i :: match mlook M i with
    | some (.cells cs) => if AV.norefs cs = true then [] else lendIs (lendI M d) cs
    | _ => []
  | d + 1, .fn _ cs => if AV.norefs cs = true then [] else lendIs (lendI M d) cs
  | d + 1, .ag cs => if AV.norefs cs = true then [] else lendIs (lendI M d) cs
  | _ + 1, _ => []

section
variable {P : Program} {fr : Fr} {ro : Option Nat} {ds : DS} {st st' : St} {Q Q' : Exit → St → Prop} {G G' : Nat → Option Value} {F F' : Nat → Nat → Prop} {a : Act} {w w' : World} {x y c : Code}
  {M M' : Mem} {ops : Array Oper} {l rest : List Oper} {o : Oper} {id N : Nat} {rd : List Nat}

theorem lendIs_mem {f : AV → List Nat} {i : Nat} {v : AV} : ∀ {cs : List AV}, v ∈ cs → i ∈ f v → i ∈ lendIs f cs
  | c :: cs, h, hi => by
    simp only [lendIs, List.mem_append]
    rcases List.mem_cons.1 h with rfl | h
    · exact .inl hi
    · exact .inr (lendIs_mem h hi)
theorem lendIss_mem {f : AV → List Nat} {i : Nat} {v : List AV} : ∀ {cs : List (List AV)}, v ∈ cs → i ∈ lendIs f v → i ∈ lendIss f cs
  | c :: cs, h, hi => by
    simp only [lendIss, List.mem_append]
    rcases List.mem_cons.1 h with rfl | h
    · exact .inl hi
    · exact .inr (lendIss_mem h hi)

theorem lend_congr : ∀ (d : Nat) (v : AV), (∀ i ∈ lendI M d v, mlook M' i = mlook M i) → lendA M' d v = lendA M d v ∧ lendK M' d v = lendK M d v
  | 0, v, _ => ⟨rfl, rfl⟩
  | d + 1, v, h => by
    have cells : ∀ cs : List AV, (∀ i ∈ (if AV.norefs cs = true then [] else lendIs (lendI M d) cs), mlook M' i = mlook M i) → lendC (lendA M' d) cs = lendC (lendA M d) cs ∧ (AV.norefs cs || cs.all (lendK M' d)) = (AV.norefs cs || cs.all (lendK M d)) := fun cs hc => by
      unfold lendC
      by_cases hn : AV.norefs cs = true
      · rw [if_pos hn, if_pos hn, hn]; exact ⟨rfl, rfl⟩
      · rw [if_neg hn] at hc
        rw [if_neg hn, if_neg hn]
        have ih : ∀ c ∈ cs, lendA M' d c = lendA M d c ∧ lendK M' d c = lendK M d c := fun c hc' => lend_congr d c fun i hi => hc i (lendIs_mem hc' hi)
        refine ⟨List.map_congr_left fun c hc => (ih c hc).1, ?_⟩
        congr 1
        rw [Bool.eq_iff_iff, List.all_eq_true, List.all_eq_true]
        exact ⟨fun h c hc => by rw [← (ih c hc).2]; exact h c hc, fun h c hc => by rw [(ih c hc).2]; exact h c hc⟩
    have rows : ∀ es : List (List AV), (∀ i ∈ (if es.all AV.norefs = true then [] else lendIss (lendI M d) es), mlook M' i = mlook M i) → lendR (lendA M' d) es = lendR (lendA M d) es ∧ (es.all AV.norefs || es.all fun c => c.all (lendK M' d)) = (es.all AV.norefs || es.all fun c => c.all (lendK M d)) := fun es hc => by
      unfold lendR
      by_cases hn : es.all AV.norefs = true
      · rw [if_pos hn, if_pos hn, hn]; exact ⟨rfl, rfl⟩
      · rw [if_neg hn] at hc
        rw [if_neg hn, if_neg hn]
        have ih : ∀ r ∈ es, ∀ c ∈ r, lendA M' d c = lendA M d c ∧ lendK M' d c = lendK M d c := fun r hr c hc' => lend_congr d c fun i hi => hc i (lendIss_mem hr (lendIs_mem hc' hi))
        refine ⟨List.map_congr_left fun r hr => List.map_congr_left fun c hc => (ih r hr c hc).1, ?_⟩
        congr 1
        rw [Bool.eq_iff_iff, List.all_eq_true, List.all_eq_true]
        simp only [List.all_eq_true]
        exact ⟨fun h r hr c hc => by rw [← (ih r hr c hc).2]; exact h r hr c hc, fun h r hr c hc => by rw [(ih r hr c hc).2]; exact h r hr c hc⟩
    cases v with
    | tl i n b =>
      simp only [lendI, List.mem_cons, forall_eq_or_imp] at h
      obtain ⟨h1, h2⟩ := h
      simp only [lendA, lendK, h1]
      cases hM : mlook M i with
      | none => exact ⟨rfl, rfl⟩
      | some ob =>
        rw [hM] at h2
        cases ob with
        | arr esz es fz => obtain ⟨e1, e2⟩ := rows es h2; simp only; rw [e1, e2]; exact ⟨rfl, rfl⟩
        | _ => exact ⟨rfl, rfl⟩
    | tv i n off len cap =>
      simp only [lendI, List.mem_cons, forall_eq_or_imp] at h
      obtain ⟨h1, h2⟩ := h
      simp only [lendA, lendK, h1]
      cases hM : mlook M i with
      | none => exact ⟨rfl, rfl⟩
      | some ob =>
        rw [hM] at h2
        cases ob with
        | arr esz es fz => obtain ⟨e1, e2⟩ := rows es h2; simp only; rw [e1, e2]; exact ⟨rfl, rfl⟩
        | _ => exact ⟨rfl, rfl⟩
    | rf i off =>
      simp only [lendI, List.mem_cons, forall_eq_or_imp] at h
      obtain ⟨h1, h2⟩ := h
      simp only [lendA, lendK, h1]
      cases hM : mlook M i with
      | none => exact ⟨rfl, rfl⟩
      | some ob =>
        rw [hM] at h2
        cases ob with
        | cells cs => obtain ⟨e1, e2⟩ := cells cs h2; simp only; rw [e1, e2]; exact ⟨rfl, rfl⟩
        | _ => exact ⟨rfl, rfl⟩
    | fn f cs => obtain ⟨e1, e2⟩ := cells cs h; simp only [lendA, lendK]; rw [e1, e2]; exact ⟨rfl, rfl⟩
    | ag cs => obtain ⟨e1, e2⟩ := cells cs h; simp only [lendA, lendK]; rw [e1, e2]; exact ⟨rfl, rfl⟩
    | _ => exact ⟨rfl, rfl⟩

theorem lendR_len (f : AV → AV) (es : List (List AV)) : (lendR f es).length = es.length := by unfold lendR; split <;> simp
theorem lendC_len (f : AV → AV) (cs : List AV) : (lendC f cs).length = cs.length := by unfold lendC; split <;> simp

theorem RV.lendA {nx : Nat} (hm : SimM P G F M nx w) : ∀ (d : Nat) {v : Value} {y : AV}, RV G F M w v y → lendK M d y = true → Imm (Avl.lend G F M) w v (Avl.lendA M d y)
  | 0, v, y, h, hk => (h.imm_of hk).lend
  | d + 1, v, y, h, hk => by
    have cells : ∀ (vs : List Value) (cs : List AV), vs.length = cs.length → (∀ i (h1 : i < vs.length) (h2 : i < cs.length), RV G F M w vs[i] cs[i]) → (AV.norefs cs || cs.all (lendK M d)) = true →
        vs.length = (lendC (Avl.lendA M d) cs).length ∧ ∀ i (h1 : i < vs.length) (h2 : i < (lendC (Avl.lendA M d) cs).length), Imm (Avl.lend G F M) w vs[i] (lendC (Avl.lendA M d) cs)[i] := fun vs cs hl hr hc => by
      refine ⟨by rw [lendC_len]; exact hl, fun i h1 h2 => ?_⟩
      have h2' : i < cs.length := by rw [lendC_len] at h2; exact h2
      by_cases hn : AV.norefs cs = true
      · simp only [lendC, if_pos hn]
        exact ((hr i h1 h2').imm_of (norefs_get _ hn i h2')).lend
      · simp only [lendC, if_neg hn, List.getElem_map]
        have hn' : AV.norefs cs = false := by simpa using hn
        rw [hn', Bool.false_or, List.all_eq_true] at hc
        exact RV.lendA hm d (hr i h1 h2') (hc _ (List.getElem_mem h2'))
    have rows : ∀ (es : List (List AV)), (es.all AV.norefs || es.all fun c => c.all (lendK M d)) = true → ∀ i (hi : i < es.length), ∃ hi' : i < (lendR (Avl.lendA M d) es).length, (lendR (Avl.lendA M d) es)[i].length = es[i].length ∧
        ∀ j (hj : j < es[i].length) (hj' : j < (lendR (Avl.lendA M d) es)[i].length) (v : Value), RV G F M w v es[i][j] → Imm (Avl.lend G F M) w v (lendR (Avl.lendA M d) es)[i][j] := fun es hc i hi => by
      refine ⟨by rw [lendR_len]; exact hi, ?_⟩
      by_cases hn : es.all AV.norefs = true
      · simp only [lendR, if_pos hn]
        exact ⟨trivial, fun j hj _ v hr => (hr.imm_of (all_norefs hn i j hi hj)).lend⟩
      · simp only [lendR, if_neg hn, List.getElem_map, List.length_map]
        have hn' : es.all AV.norefs = false := by simpa using hn
        rw [hn', Bool.false_or, List.all_eq_true] at hc
        have hci := hc _ (List.getElem_mem hi)
        rw [List.all_eq_true] at hci
        exact ⟨trivial, fun j hj _ v hr => RV.lendA hm d hr (hci _ (List.getElem_mem hj))⟩
    cases y with
    | tl i n b =>
      simp only [lendK] at hk
      cases hM : mlook M i with
      | none => rw [hM] at hk; cases hk
      | some ob =>
        rw [hM] at hk
        cases ob with
        | arr esz es fz =>
          simp only [Bool.and_eq_true, decide_eq_true_eq] at hk
          obtain ⟨hnl, hc⟩ := hk
          simp only [Avl.lendA, hM]
          have hrows := rows es hc
          obtain ⟨_, hh⟩ := h.inv_tl
          obtain ⟨hG, hb⟩ := (hh _ _ _ hM).2 hnl
          rcases (hm.obj i _ hM).2 with ⟨h0, base, h1, hsp⟩ | ⟨b', c, cc, e, h1, h2, h3, h4, h5, h6, h7, h8, h9⟩
          · rw [hG] at h1; cases h1
            subst h0
            have : lendR (Avl.lendA M d) [] = [] := rfl
            rw [this]
            cases base with
            | none => simp [isNilSlice] at hb; subst hb; exact .nil _ (.inl rfl)
            | some a => simp [isNilSlice] at hb; subst hb; exact .sz a .unk (.inl rfl)
          · have hG1 := hG
            rw [hG] at h1; cases h1
            simp [isNilSlice] at hb; subst hb
            have hown : Owned G M b' := ⟨i, _, _, hM, hG1, by simp [blkOf, h2]⟩
            have hlen := lendR_len (Avl.lendA M d) es
            have := Imm.sl (F := Avl.lend G F M) (w := w) b' 0 c esz (lendR (Avl.lendA M d) es) .unk (fun i j => (cc[i * esz + j]?).getD undef) (by rw [hlen]; exact h4) (.inl rfl)
              (fun k hk => by rw [hlen] at hk; obtain ⟨_, q1, _⟩ := hrows k hk; rw [q1]; exact h6 k hk)
              (fun k j hk hj => by
                rw [hlen] at hk
                refine ⟨.inr hown, ?_⟩
                rw [cell?_block h3, Nat.zero_add]
                obtain ⟨v, hv, h1c, _⟩ := h7 k j hk (by rw [h6 k hk]; exact hj)
                rw [hv]; exact ⟨rfl, h1c⟩)
              (fun k j hk hj => by
                have hk' := hk
                rw [hlen] at hk'
                obtain ⟨_, q1, q2⟩ := hrows k hk'
                obtain ⟨v, hv, _, hr⟩ := h7 k j hk' (by rw [← q1]; exact hj)
                rw [hv]; exact q2 j (by rw [← q1]; exact hj) hj v hr)
            rw [hlen] at this
            exact this
        | _ => cases hk
    | tv i n off len cap =>
      simp only [lendK] at hk
      cases hM : mlook M i with
      | none => rw [hM] at hk; cases hk
      | some ob =>
        rw [hM] at hk
        cases ob with
        | arr esz es fz =>
          simp only [Bool.and_eq_true, decide_eq_true_eq] at hk
          obtain ⟨hnl, hc⟩ := hk
          simp only [Avl.lendA, hM]
          have hrows := rows es hc
          obtain ⟨_, hh⟩ := h.inv_tv
          obtain ⟨hol, b', c, hG, hc0, c', rfl, hlc, hcp⟩ := (hh _ _ _ hM).2 hnl
          rcases (hm.obj i _ hM).2 with ⟨h0, base, h1, hsp⟩ | ⟨b2, c2, cc, e, h1, h2, h3, h4, h5, h6, h7, h8, h9⟩
          · rw [hG] at h1; cases h1; exact absurd rfl hc0
          · have hown : Owned G M b' := ⟨i, _, _, hM, hG, by simp [blkOf, hc0]⟩
            rw [hG] at h1; cases h1
            have hnl' : es.length = (lendR (Avl.lendA M d) es).length := (lendR_len _ _).symm
            have hlen := tvEs_len hol hnl'
            have hget := tvEs_get hol hnl'
            have := Imm.sl (F := Avl.lend G F M) (w := w) b' (off * esz) c' esz (tvEs (lendR (Avl.lendA M d) es) es.length off len) (tvCap len cap) (fun i j => (cc[(off + i) * esz + j]?).getD undef) (by rw [hlen]; exact hlc)
              (by
                rcases hcp with rfl | rfl | ⟨rfl, _⟩
                · exact .inl rfl
                · simp only [tvCap]
                  by_cases e : c' = len
                  · rw [if_pos e, hlen]; exact .inr (.inr (.inl ⟨rfl, e⟩))
                  · rw [if_neg e]; exact .inl rfl
                · exact .inl rfl)
              (fun k hk => by
                rw [hget k hk]
                rw [hlen] at hk
                obtain ⟨_, q1, _⟩ := hrows (off + k) (by omega)
                rw [q1]; exact h6 _ _)
              (fun k j hk hj => by
                rw [hlen] at hk
                have hk2 : off + k < es.length := by omega
                rw [show off * esz + k * esz + j = (off + k) * esz + j by rw [Nat.add_mul]]
                refine ⟨.inr hown, ?_⟩
                rw [cell?_block h3]
                obtain ⟨v, hv, h1c, _⟩ := h7 (off + k) j hk2 (by rw [h6 _ hk2]; exact hj)
                rw [hv]; exact ⟨rfl, h1c⟩)
              (fun k j hk hj => by
                have hk' := hk
                rw [hlen] at hk'
                have hk2 : off + k < es.length := by omega
                simp only [hget k hk] at hj ⊢
                obtain ⟨_, q1, q2⟩ := hrows (off + k) hk2
                obtain ⟨v, hv, _, hr⟩ := h7 (off + k) j hk2 (by rw [← q1]; exact hj)
                rw [hv]; exact q2 j (by rw [← q1]; exact hj) hj v hr)
            rw [hlen] at this
            exact this
        | _ => cases hk
    | rf i off =>
      simp only [lendK] at hk
      cases hM : mlook M i with
      | none => rw [hM] at hk; cases hk
      | some ob =>
        rw [hM] at hk
        cases ob with
        | cells cs =>
          simp only [Avl.lendA, hM]
          obtain ⟨b, hG, rfl⟩ := h.inv_rf
          obtain ⟨b', cc, e, h1, h2, h3, h4, h5⟩ := (hm.obj i _ hM).2
          have hown : Owned G M b' := ⟨i, _, _, hM, h1, rfl⟩
          rw [hG] at h1; cases h1
          obtain ⟨q1, q2⟩ := cells cc.toList cs (by simpa using h3) (fun i h1 h2 => by simpa using h4 i (by simpa using h1) h2) hk
          refine .ia b off _ (fun j => (cc[off + j]?).getD undef) (fun j hj => ?_) (fun j hj => ?_)
          · simp only [List.length_drop, ← q1, Array.length_toList] at hj
            refine ⟨.inr hown, ?_⟩
            rw [cell?_block h2, Array.getElem?_eq_getElem (by omega)]; rfl
          · have hj' := hj
            simp only [List.length_drop, ← q1, Array.length_toList] at hj'
            have := q2 (off + j) (by simp; omega) (by rw [← q1]; simp; omega)
            simp only [List.getElem_drop]
            rw [Array.getElem?_eq_getElem (by omega)]
            simpa using this
        | _ => cases hk
    | fn f cs =>
      obtain ⟨vs, rfl, hl, hcs⟩ := h.inv_fn
      obtain ⟨q1, q2⟩ := cells vs cs hl hcs hk
      exact .fn f vs _ q1 q2
    | ag cs =>
      obtain ⟨vs, rfl, hl, hcs⟩ := h.inv_ag
      obtain ⟨q1, q2⟩ := cells vs cs hl hcs hk
      exact .ag vs _ q1 q2
    | _ => exact (h.imm_of hk).lend

/-- A contract whose result is a plain cell. -/
theorem PureIs.frSc {f : FuncId} {args : List AV} {v : Value} (h : PureIs P f args (.sc v)) : PureFr P f args (.sc v) :=
  ⟨h.1, fun F w vals hF hi => (h.2 F w vals hF hi).mono fun _ w' ⟨u, F', he, hv, g⟩ => by
    have hu : u = v := by cases hv; rfl
    subst hu
    exact ⟨u, fun b o => F' b o ∧ w.heap.size ≤ b, he, .sc _, fun b o h => ⟨h.2, g.inF b o h.1⟩,
      ⟨g.size, g.old, fun b o h => .inl h, fun b o h => h.elim .inl fun h => .inr h.2, fun b o h => h.elim (fun h => Nat.lt_of_lt_of_le (hF b o h) g.size) fun h => g.inF b o h.1, g.kept⟩⟩⟩

def argsD (fr : Fr) (st : St) (d : Nat) (args : Array Operand) : List AV := args.toList.map fun x => lendA st.mem d (od fr st true x)
def argsK (fr : Fr) (st : St) (d : Nat) (args : Array Operand) : Bool := args.toList.all fun x => lendK st.mem d (od fr st true x)
def argsI (fr : Fr) (st : St) (d : Nat) : List Operand → List Nat
  | [] => []
  | x :: xs => odds (lendI st.mem d (od fr st true x)) ++ argsI fr st d xs
def rdL (fr : Fr) (st : St) (d : Nat) (gs : List Nat) (o : Oper) (args : Array Operand) : List Nat := gs ++ (opSlots o.op.operands.toList ++ argsI fr st d args.toList)
theorem argsI_mem {d : Nat} {x : Operand} {i : Nat} : ∀ {xs : List Operand}, x ∈ xs → i ∈ lendI st.mem d (od fr st true x) → 2 * i + 1 ∈ argsI fr st d xs
  | y :: xs, h, hi => by
    simp only [argsI, List.mem_append]
    rcases List.mem_cons.1 h with rfl | h
    · exact .inl (odds_mem hi)
    · exact .inr (argsI_mem h hi)

theorem SimD.callD {f : FuncId} {callee : Operand} {args : Array Operand} {tys : Array TypeId} {xs : List AV} {r : AV} {d : Nat} {K : Act → World → Prop} {Q1 : Exit → Act → World → Prop}
    (s : SimD P fr ds G F st N a w) (hop : o.op = .call ⟨.value callee, args, tys⟩) (hd : dok fr o.dst = true) (hcal : od fr st true callee = .fn f [])
    (hxs : argsD fr st d args = xs) (hk : argsK fr st d args = true) (hc : PureFr P f xs r)
    (h : ∀ G' F' a' w', SimD P fr ds G' F' (run1 fr o.dst ⟨r, none⟩ st) N a' w' → Step All G F st.mem w G' F' (run1 fr o.dst ⟨r, none⟩ st).mem w' → (∀ j, j ≠ id → G j = none → G' j = none) → K a' w') : o.wpIn (fc ro) 0 P a w K Q1 := by
  refine ⟨fun _ _ => trivial, ?_⟩
  rw [Oper.semAt_eq _ _ _ (by rw [hop]; intro c h; cases h)]
  have hv := (s.eval callee).unopt
  have hv : RV G F st.mem w (a.eval callee) (.fn f []) := by unfold od at hcal; rwa [hcal] at hv
  obtain ⟨vs, hev, hl, _⟩ := hv.inv_fn
  have hvs : vs = [] := by cases vs with
    | nil => rfl
    | cons a l => simp at hl
  subst hvs
  have hrun : (execOp a.eval o).run P w = .ok (.enter f ((args.toList.map a.eval).toArray)) w := by
    obtain ⟨dst, op, ty, pos, after, guard⟩ := o
    simp only at hop
    subst hop
    simp only [execOp, resolve, hev, Deferred.ofValue, Sem.run_bind, Sem.run_pure, Result.andThen_ok, invoke]
    rw [hc.1]
    congr 2
    apply Array.ext'
    simp
  rw [hrun]
  have hi : Imms (Avl.lend G F st.mem) w (args.toList.map a.eval) xs := by
    subst hxs
    refine ⟨by simp [argsD], fun i h1 h2 => ?_⟩
    simp only [argsD, List.getElem_map] at h2 ⊢
    unfold argsK at hk
    rw [List.all_eq_true] at hk
    exact RV.lendA s.mem d (s.eval _).unopt (hk _ (List.getElem_mem _))
  have hin : ∀ b o, Avl.lend G F st.mem b o → b < w.heap.size := fun b o h => h.elim (s.mem.inF b o) fun h => s.mem.lt h
  refine ⟨fun h => by simp [fc, Fence.wide] at h, callsIn_fc ((hc.2 _ w _ hin hi).mono ?_)⟩
  rintro e w' ⟨v, Fr, rfl, hv, hFr, g⟩
  have g' := s.mem.frGrown g hFr
  obtain ⟨hm', S'⟩ := simM_grown s.mem g'
  obtain ⟨s1, S1⟩ := s.put (d := o.dst) (r := ⟨r, none⟩) (u := v) hm' (fun _ => rfl) S' hd (.imm (hv.mono (fun _ _ h => .inr h) fun _ _ _ => rfl))
  exact h G _ _ w' s1 S1 (fun _ _ h => h)

/-- A call that lends objects, to the depth d. -/
theorem OpIs.callD {f : FuncId} {callee : Operand} {args : Array Operand} {tys : Array TypeId} {xs : List AV} {v : AV} (d : Nat) (hg : o.guard = none) (hop : o.op = .call ⟨.value callee, args, tys⟩) (hd : dok fr o.dst = true)
    (hcal : od fr st true callee = .fn f []) (hxs : argsD fr st d args = xs) (hk : argsK fr st d args = true) (hrd : rdL fr st d [] o args = rd) (hc : PureFr P f xs v) : OpIs P fr ro ds ops id st ⟨o, ⟨v, none⟩, rd⟩ := by
  intro st' G F a w N K Q1 s hN hG hl h
  simp only [Region.wanted, hg, if_true]
  have hslot : ∀ x ∈ o.op.operands.toList, opnd fr st' x = opnd fr st x := fun x hx => by
    cases x with
    | tmp t => exact look_slot (hl _ (by simp only; rw [← hrd]; unfold rdL; exact List.mem_append_right _ (List.mem_append_left _ (opSlots_mem hx))))
    | _ => rfl
  rw [hop] at hslot
  have hodc : od fr st' true callee = od fr st true callee := by unfold od; rw [hslot callee (by simp [Op.operands, Call.operands])]
  have hoda : ∀ x ∈ args.toList, od fr st' true x = od fr st true x := fun x hx => by
    unfold od; rw [hslot x (by simp only [Op.operands, Call.operands]; simp; exact .inr (by simpa using hx))]
  have hcg : ∀ x ∈ args.toList, lendA st'.mem d (od fr st' true x) = lendA st.mem d (od fr st true x) ∧ lendK st'.mem d (od fr st' true x) = lendK st.mem d (od fr st true x) := fun x hx => by
    rw [hoda x hx]
    exact lend_congr d _ fun i hi => look_obj (hl _ (by simp only; rw [← hrd]; unfold rdL; exact List.mem_append_right _ (List.mem_append_right _ (argsI_mem hx hi))))
  refine s.callD (d := d) hop hd (by rw [hodc]; exact hcal) ?_ ?_ hc h
  · rw [← hxs]; unfold argsD; exact List.map_congr_left fun x hx => (hcg x hx).1
  · rw [← hk]; unfold argsK
    rw [Bool.eq_iff_iff, List.all_eq_true, List.all_eq_true]
    exact ⟨fun h x hx => by rw [← (hcg x hx).2]; exact h x hx, fun h x hx => by rw [(hcg x hx).2]; exact h x hx⟩
end
attribute [go_sem] lendC lendR lendA lendK lendIs lendIss lendI argsD argsK argsI rdL
end Go.Avl
namespace Go.Avl
open Go Go.Proofs.Try
def nilsV : List Value := List.replicate 4096 (Value.slice none 0 0)
@[go_sem] theorem ty_cellsOf_104 : Program.cellsOf prog 104 = 1 := by kernel_rfl
@[go_sem] theorem ty_cellsOf_22 : Program.cellsOf prog 22 = 1 := by kernel_rfl
@[go_sem] theorem ty_cellsOf_26 : Program.cellsOf prog 26 = 1 := by kernel_rfl
@[go_sem] theorem ty_cellsOf_3 : Program.cellsOf prog 3 = 1 := by kernel_rfl
@[go_sem] theorem ty_cellsOf_30 : Program.cellsOf prog 30 = 1 := by kernel_rfl
@[go_sem] theorem ty_cellsOf_4 : Program.cellsOf prog 4 = 1 := by kernel_rfl
@[go_sem] theorem ty_cellsOf_40 : Program.cellsOf prog 40 = 1 := by kernel_rfl
@[go_sem] theorem ty_cellsOf_42 : Program.cellsOf prog 42 = 1 := by kernel_rfl
@[go_sem] theorem ty_cellsOf_5 : Program.cellsOf prog 5 = 1 := by kernel_rfl
@[go_sem] theorem ty_cellsOf_51 : Program.cellsOf prog 51 = 1 := by kernel_rfl
@[go_sem] theorem ty_cellsOf_57 : Program.cellsOf prog 57 = 4 := by kernel_rfl
@[go_sem] theorem ty_cellsOf_59 : Program.cellsOf prog 59 = 1 := by kernel_rfl
@[go_sem] theorem ty_cellsOf_68 : Program.cellsOf prog 68 = 1 := by kernel_rfl
@[go_sem] theorem ty_cellsOf_73 : Program.cellsOf prog 73 = 2 := by kernel_rfl
@[go_sem] theorem ty_cellsOf_75 : Program.cellsOf prog 75 = 1 := by kernel_rfl
@[go_sem] theorem ty_cellsOf_78 : Program.cellsOf prog 78 = 64 := by kernel_rfl
@[go_sem] theorem ty_eqKinds_3 : eqKinds prog 3 = none := by kernel_rfl
@[go_sem] theorem ty_eqKinds_30 : eqKinds prog 30 = none := by kernel_rfl
@[go_sem] theorem ty_eqKinds_31 : eqKinds prog 31 = none := by kernel_rfl
@[go_sem] theorem ty_eqKinds_4 : eqKinds prog 4 = none := by kernel_rfl
@[go_sem] theorem ty_eqKinds_5 : eqKinds prog 5 = none := by kernel_rfl
@[go_sem] theorem ty_eqKinds_73 : eqKinds prog 73 = some [Kd.int IntKind.i64, Kd.int IntKind.i64] := by kernel_rfl
@[go_sem] theorem ty_kindsOf_3 : kindsOf prog 8 3 = some [Kd.int IntKind.i64] := by kernel_rfl
@[go_sem] theorem ty_nilTy_3 : nilTy prog 3 = 0 := by kernel_rfl
@[go_sem] theorem ty_nilTy_30 : nilTy prog 30 = 1 := by kernel_rfl
@[go_sem] theorem ty_nilTy_31 : nilTy prog 31 = 0 := by kernel_rfl
@[go_sem] theorem ty_nilTy_4 : nilTy prog 4 = 0 := by kernel_rfl
@[go_sem] theorem ty_nilTy_5 : nilTy prog 5 = 0 := by kernel_rfl
@[go_sem] theorem ty_nilTy_73 : nilTy prog 73 = 0 := by kernel_rfl
@[go_sem] theorem ty_placeOf_24_0 : placeOf prog 24 0 = some (0, 1) := by kernel_rfl
@[go_sem] theorem ty_placeOf_24_1 : placeOf prog 24 1 = some (1, 1) := by kernel_rfl
@[go_sem] theorem ty_placeOf_24_2 : placeOf prog 24 2 = some (2, 1) := by kernel_rfl
@[go_sem] theorem ty_placeOf_24_3 : placeOf prog 24 3 = some (3, 1) := by kernel_rfl
@[go_sem] theorem ty_placeOf_24_4 : placeOf prog 24 4 = some (4, 1) := by kernel_rfl
@[go_sem] theorem ty_placeOf_25_0 : placeOf prog 25 0 = some (0, 1) := by kernel_rfl
@[go_sem] theorem ty_placeOf_25_1 : placeOf prog 25 1 = some (1, 1) := by kernel_rfl
@[go_sem] theorem ty_placeOf_28_0 : placeOf prog 28 0 = some (0, 1) := by kernel_rfl
@[go_sem] theorem ty_placeOf_28_1 : placeOf prog 28 1 = some (1, 1) := by kernel_rfl
@[go_sem] theorem ty_placeOf_28_2 : placeOf prog 28 2 = some (2, 1) := by kernel_rfl
@[go_sem] theorem ty_placeOf_42_0 : placeOf prog 42 0 = some (0, 1) := by kernel_rfl
@[go_sem] theorem ty_placeOf_43_0 : placeOf prog 43 0 = some (0, 1) := by kernel_rfl
@[go_sem] theorem ty_placeOf_43_1 : placeOf prog 43 1 = some (1, 1) := by kernel_rfl
@[go_sem] theorem ty_placeOf_44_0 : placeOf prog 44 0 = some (0, 1) := by kernel_rfl
@[go_sem] theorem ty_placeOf_44_1 : placeOf prog 44 1 = some (1, 1) := by kernel_rfl
@[go_sem] theorem ty_placeOf_44_2 : placeOf prog 44 2 = some (2, 1) := by kernel_rfl
@[go_sem] theorem ty_placeOf_57_0 : placeOf prog 57 0 = some (0, 1) := by kernel_rfl
@[go_sem] theorem ty_placeOf_57_1 : placeOf prog 57 1 = some (1, 1) := by kernel_rfl
@[go_sem] theorem ty_placeOf_57_2 : placeOf prog 57 2 = some (2, 1) := by kernel_rfl
@[go_sem] theorem ty_placeOf_57_3 : placeOf prog 57 3 = some (3, 1) := by kernel_rfl
@[go_sem] theorem ty_placeOf_73_0 : placeOf prog 73 0 = some (0, 1) := by kernel_rfl
@[go_sem] theorem ty_placeOf_73_1 : placeOf prog 73 1 = some (1, 1) := by kernel_rfl
@[go_sem] theorem ty_tarr_100 : tarr prog 100 = some (64, 78) := by kernel_rfl
@[go_sem] theorem ty_tarr_104 : tarr prog 104 = none := by kernel_rfl
@[go_sem] theorem ty_tarr_22 : tarr prog 22 = none := by kernel_rfl
@[go_sem] theorem ty_tarr_25 : tarr prog 25 = some (2, 5) := by kernel_rfl
@[go_sem] theorem ty_tarr_26 : tarr prog 26 = none := by kernel_rfl
@[go_sem] theorem ty_tarr_30 : tarr prog 30 = none := by kernel_rfl
@[go_sem] theorem ty_tarr_40 : tarr prog 40 = none := by kernel_rfl
@[go_sem] theorem ty_tarr_43 : tarr prog 43 = some (2, 42) := by kernel_rfl
@[go_sem] theorem ty_tarr_44 : tarr prog 44 = some (3, 5) := by kernel_rfl
@[go_sem] theorem ty_tarr_51 : tarr prog 51 = none := by kernel_rfl
@[go_sem] theorem ty_tarr_59 : tarr prog 59 = none := by kernel_rfl
@[go_sem] theorem ty_tarr_67 : tarr prog 67 = some (2, 3) := by kernel_rfl
@[go_sem] theorem ty_tarr_68 : tarr prog 68 = none := by kernel_rfl
@[go_sem] theorem ty_tarr_78 : tarr prog 78 = some (64, 30) := by kernel_rfl
@[go_sem] theorem ty_tarr_93 : tarr prog 93 = none := by kernel_rfl
@[go_sem] theorem ty_tbool_3 : tbool prog 3 = false := by kernel_rfl
@[go_sem] theorem ty_tbool_30 : tbool prog 30 = false := by kernel_rfl
@[go_sem] theorem ty_tbool_31 : tbool prog 31 = false := by kernel_rfl
@[go_sem] theorem ty_tbool_4 : tbool prog 4 = true := by kernel_rfl
@[go_sem] theorem ty_tbool_5 : tbool prog 5 = false := by kernel_rfl
@[go_sem] theorem ty_tbool_73 : tbool prog 73 = false := by kernel_rfl
@[go_sem] theorem ty_tbuild_100 : tbuild prog 100 = true := by kernel_rfl
@[go_sem] theorem ty_tbuild_24 : tbuild prog 24 = true := by kernel_rfl
@[go_sem] theorem ty_tbuild_25 : tbuild prog 25 = true := by kernel_rfl
@[go_sem] theorem ty_tbuild_28 : tbuild prog 28 = true := by kernel_rfl
@[go_sem] theorem ty_tbuild_42 : tbuild prog 42 = true := by kernel_rfl
@[go_sem] theorem ty_tbuild_43 : tbuild prog 43 = true := by kernel_rfl
@[go_sem] theorem ty_tbuild_44 : tbuild prog 44 = true := by kernel_rfl
@[go_sem] theorem ty_tbuild_57 : tbuild prog 57 = true := by kernel_rfl
@[go_sem] theorem ty_tbuild_73 : tbuild prog 73 = true := by kernel_rfl
@[go_sem] theorem ty_telem_100 : telem prog 100 = none := by kernel_rfl
@[go_sem] theorem ty_telem_104 : telem prog 104 = some 59 := by kernel_rfl
@[go_sem] theorem ty_telem_111 : telem prog 111 = none := by kernel_rfl
@[go_sem] theorem ty_telem_118 : telem prog 118 = none := by kernel_rfl
@[go_sem] theorem ty_telem_22 : telem prog 22 = some 75 := by kernel_rfl
@[go_sem] theorem ty_telem_24 : telem prog 24 = none := by kernel_rfl
@[go_sem] theorem ty_telem_25 : telem prog 25 = none := by kernel_rfl
@[go_sem] theorem ty_telem_26 : telem prog 26 = some 68 := by kernel_rfl
@[go_sem] theorem ty_telem_28 : telem prog 28 = none := by kernel_rfl
@[go_sem] theorem ty_telem_3 : telem prog 3 = none := by kernel_rfl
@[go_sem] theorem ty_telem_30 : telem prog 30 = some 3 := by kernel_rfl
@[go_sem] theorem ty_telem_31 : telem prog 31 = none := by kernel_rfl
@[go_sem] theorem ty_telem_40 : telem prog 40 = some 5 := by kernel_rfl
@[go_sem] theorem ty_telem_42 : telem prog 42 = none := by kernel_rfl
@[go_sem] theorem ty_telem_43 : telem prog 43 = none := by kernel_rfl
@[go_sem] theorem ty_telem_44 : telem prog 44 = none := by kernel_rfl
@[go_sem] theorem ty_telem_51 : telem prog 51 = some 57 := by kernel_rfl
@[go_sem] theorem ty_telem_59 : telem prog 59 = some 4 := by kernel_rfl
@[go_sem] theorem ty_telem_67 : telem prog 67 = none := by kernel_rfl
@[go_sem] theorem ty_telem_68 : telem prog 68 = some 73 := by kernel_rfl
@[go_sem] theorem ty_telem_73 : telem prog 73 = none := by kernel_rfl
@[go_sem] theorem ty_telem_78 : telem prog 78 = none := by kernel_rfl
@[go_sem] theorem ty_telem_79 : telem prog 79 = none := by kernel_rfl
@[go_sem] theorem ty_telem_93 : telem prog 93 = some 30 := by kernel_rfl
@[go_sem] theorem ty_telem_95 : telem prog 95 = none := by kernel_rfl
@[go_sem] theorem ty_telem_98 : telem prog 98 = none := by kernel_rfl
@[go_sem] theorem ty_tfield_24_0 : tfield prog 24 0 = some (0, 5) := by kernel_rfl
@[go_sem] theorem ty_tfield_24_1 : tfield prog 24 1 = some (1, 5) := by kernel_rfl
@[go_sem] theorem ty_tfield_24_2 : tfield prog 24 2 = some (2, 5) := by kernel_rfl
@[go_sem] theorem ty_tfield_24_3 : tfield prog 24 3 = some (3, 4) := by kernel_rfl
@[go_sem] theorem ty_tfield_24_4 : tfield prog 24 4 = some (4, 22) := by kernel_rfl
@[go_sem] theorem ty_tfield_28_0 : tfield prog 28 0 = some (0, 3) := by kernel_rfl
@[go_sem] theorem ty_tfield_28_1 : tfield prog 28 1 = some (1, 3) := by kernel_rfl
@[go_sem] theorem ty_tfield_28_2 : tfield prog 28 2 = some (2, 26) := by kernel_rfl
@[go_sem] theorem ty_tfield_42_0 : tfield prog 42 0 = some (0, 40) := by kernel_rfl
@[go_sem] theorem ty_tfield_57_0 : tfield prog 57 0 = some (0, 3) := by kernel_rfl
@[go_sem] theorem ty_tfield_57_1 : tfield prog 57 1 = some (1, 3) := by kernel_rfl
@[go_sem] theorem ty_tfield_57_2 : tfield prog 57 2 = some (2, 30) := by kernel_rfl
@[go_sem] theorem ty_tfield_57_3 : tfield prog 57 3 = some (3, 4) := by kernel_rfl
@[go_sem] theorem ty_tfield_73_0 : tfield prog 73 0 = some (0, 3) := by kernel_rfl
@[go_sem] theorem ty_tfield_73_1 : tfield prog 73 1 = some (1, 3) := by kernel_rfl
@[go_sem] theorem ty_tiface_9 : tiface prog 9 = false := by kernel_rfl
@[go_sem] theorem ty_tinf_3 : tinf prog 3 = true := by kernel_rfl
@[go_sem] theorem ty_tinf_30 : tinf prog 30 = true := by kernel_rfl
@[go_sem] theorem ty_tinf_4 : tinf prog 4 = true := by kernel_rfl
@[go_sem] theorem ty_tinf_42 : tinf prog 42 = true := by kernel_rfl
@[go_sem] theorem ty_tinf_5 : tinf prog 5 = true := by kernel_rfl
@[go_sem] theorem ty_tinf_57 : tinf prog 57 = true := by kernel_rfl
@[go_sem] theorem ty_tinf_59 : tinf prog 59 = true := by kernel_rfl
@[go_sem] theorem ty_tinf_68 : tinf prog 68 = true := by kernel_rfl
@[go_sem] theorem ty_tinf_73 : tinf prog 73 = true := by kernel_rfl
@[go_sem] theorem ty_tinf_75 : tinf prog 75 = true := by kernel_rfl
@[go_sem] theorem ty_tinf_78 : tinf prog 78 = true := by kernel_rfl
@[go_sem] theorem ty_tinfo_100 : tinfo prog 100 = some { size := 4096, agg := true, zero := nilsV, bytes := 98304 } := by kernel_rfl
@[go_sem] theorem ty_tinfo_22 : tinfo prog 22 = some { size := 1, agg := false, zero := [Value.slice none 0 0], bytes := 24 } := by kernel_rfl
@[go_sem] theorem ty_tinfo_24 : tinfo prog 24 = some { size := 5, agg := true, zero := [Value.int IntKind.u8 0, Value.int IntKind.u8 0, Value.int IntKind.u8 0, Value.bool false, Value.slice none 0 0], bytes := 32 } := by kernel_rfl
@[go_sem] theorem ty_tinfo_25 : tinfo prog 25 = some { size := 2, agg := true, zero := [Value.int IntKind.u8 0, Value.int IntKind.u8 0], bytes := 2 } := by kernel_rfl
@[go_sem] theorem ty_tinfo_26 : tinfo prog 26 = some { size := 1, agg := false, zero := [Value.slice none 0 0], bytes := 24 } := by kernel_rfl
@[go_sem] theorem ty_tinfo_28 : tinfo prog 28 = some { size := 3, agg := true, zero := [Value.int IntKind.i64 0, Value.int IntKind.i64 0, Value.slice none 0 0], bytes := 40 } := by kernel_rfl
@[go_sem] theorem ty_tinfo_3 : tinfo prog 3 = some { size := 1, agg := false, zero := [Value.int IntKind.i64 0], bytes := 8 } := by kernel_rfl
@[go_sem] theorem ty_tinfo_30 : tinfo prog 30 = some { size := 1, agg := false, zero := [Value.slice none 0 0], bytes := 24 } := by kernel_rfl
@[go_sem] theorem ty_tinfo_4 : tinfo prog 4 = some { size := 1, agg := false, zero := [Value.bool false], bytes := 1 } := by kernel_rfl
@[go_sem] theorem ty_tinfo_40 : tinfo prog 40 = some { size := 1, agg := false, zero := [Value.slice none 0 0], bytes := 24 } := by kernel_rfl
@[go_sem] theorem ty_tinfo_42 : tinfo prog 42 = some { size := 1, agg := true, zero := [Value.slice none 0 0], bytes := 24 } := by kernel_rfl
@[go_sem] theorem ty_tinfo_43 : tinfo prog 43 = some { size := 2, agg := true, zero := [Value.slice none 0 0, Value.slice none 0 0], bytes := 48 } := by kernel_rfl
@[go_sem] theorem ty_tinfo_44 : tinfo prog 44 = some { size := 3, agg := true, zero := [Value.int IntKind.u8 0, Value.int IntKind.u8 0, Value.int IntKind.u8 0], bytes := 3 } := by kernel_rfl
@[go_sem] theorem ty_tinfo_5 : tinfo prog 5 = some { size := 1, agg := false, zero := [Value.int IntKind.u8 0], bytes := 1 } := by kernel_rfl
@[go_sem] theorem ty_tinfo_51 : tinfo prog 51 = some { size := 1, agg := false, zero := [Value.slice none 0 0], bytes := 24 } := by kernel_rfl
@[go_sem] theorem ty_tinfo_57 : tinfo prog 57 = some { size := 4, agg := true, zero := [Value.int IntKind.i64 0, Value.int IntKind.i64 0, Value.slice none 0 0, Value.bool false], bytes := 48 } := by kernel_rfl
@[go_sem] theorem ty_tinfo_59 : tinfo prog 59 = some { size := 1, agg := false, zero := [Value.slice none 0 0], bytes := 24 } := by kernel_rfl
@[go_sem] theorem ty_tinfo_68 : tinfo prog 68 = some { size := 1, agg := false, zero := [Value.slice none 0 0], bytes := 24 } := by kernel_rfl
@[go_sem] theorem ty_tinfo_73 : tinfo prog 73 = some { size := 2, agg := true, zero := [Value.int IntKind.i64 0, Value.int IntKind.i64 0], bytes := 16 } := by kernel_rfl
@[go_sem] theorem ty_tinfo_75 : tinfo prog 75 = some { size := 1, agg := false, zero := [Value.int IntKind.u16 0], bytes := 2 } := by kernel_rfl
@[go_sem] theorem ty_tinfo_78 : tinfo prog 78 = some { size := 64, agg := true, zero := List.replicate 64 (Value.slice none 0 0), bytes := 1536 } := by kernel_rfl
@[go_sem] theorem ty_tinfo_79 : tinfo prog 79 = some { size := 1, agg := false, zero := [Value.pointer none], bytes := 8 } := by kernel_rfl
@[go_sem] theorem ty_tinfo_93 : tinfo prog 93 = some { size := 1, agg := false, zero := [Value.slice none 0 0], bytes := 24 } := by kernel_rfl
@[go_sem] theorem ty_tint_3 : tint prog 3 = some IntKind.i64 := by kernel_rfl
@[go_sem] theorem ty_tint_5 : tint prog 5 = some IntKind.u8 := by kernel_rfl
@[go_sem] theorem ty_tint_75 : tint prog 75 = some IntKind.u16 := by kernel_rfl
@[go_sem] theorem ty_tknown_3 : tknown prog 3 = true := by kernel_rfl
@[go_sem] theorem ty_tknown_5 : tknown prog 5 = true := by kernel_rfl
@[go_sem] theorem ty_tknown_75 : tknown prog 75 = true := by kernel_rfl
@[go_sem] theorem ty_tknown_9 : tknown prog 9 = true := by kernel_rfl
@[go_sem] theorem ty_tmap_104 : tmap prog 104 = none := by kernel_rfl
@[go_sem] theorem ty_tmap_111 : tmap prog 111 = none := by kernel_rfl
@[go_sem] theorem ty_tmap_118 : tmap prog 118 = some (3, 3) := by kernel_rfl
@[go_sem] theorem ty_tmap_22 : tmap prog 22 = none := by kernel_rfl
@[go_sem] theorem ty_tmap_24 : tmap prog 24 = none := by kernel_rfl
@[go_sem] theorem ty_tmap_25 : tmap prog 25 = none := by kernel_rfl
@[go_sem] theorem ty_tmap_26 : tmap prog 26 = none := by kernel_rfl
@[go_sem] theorem ty_tmap_28 : tmap prog 28 = none := by kernel_rfl
@[go_sem] theorem ty_tmap_3 : tmap prog 3 = none := by kernel_rfl
@[go_sem] theorem ty_tmap_30 : tmap prog 30 = none := by kernel_rfl
@[go_sem] theorem ty_tmap_31 : tmap prog 31 = none := by kernel_rfl
@[go_sem] theorem ty_tmap_40 : tmap prog 40 = none := by kernel_rfl
@[go_sem] theorem ty_tmap_42 : tmap prog 42 = none := by kernel_rfl
@[go_sem] theorem ty_tmap_43 : tmap prog 43 = none := by kernel_rfl
@[go_sem] theorem ty_tmap_44 : tmap prog 44 = none := by kernel_rfl
@[go_sem] theorem ty_tmap_51 : tmap prog 51 = none := by kernel_rfl
@[go_sem] theorem ty_tmap_68 : tmap prog 68 = none := by kernel_rfl
@[go_sem] theorem ty_tmap_73 : tmap prog 73 = none := by kernel_rfl
@[go_sem] theorem ty_tmap_79 : tmap prog 79 = none := by kernel_rfl
@[go_sem] theorem ty_tmap_93 : tmap prog 93 = none := by kernel_rfl
@[go_sem] theorem ty_tmap_95 : tmap prog 95 = none := by kernel_rfl
@[go_sem] theorem ty_tmap_98 : tmap prog 98 = none := by kernel_rfl
@[go_sem] theorem ty_tstr_104 : tstr prog 104 = false := by kernel_rfl
@[go_sem] theorem ty_tstr_111 : tstr prog 111 = false := by kernel_rfl
@[go_sem] theorem ty_tstr_118 : tstr prog 118 = false := by kernel_rfl
@[go_sem] theorem ty_tstr_22 : tstr prog 22 = false := by kernel_rfl
@[go_sem] theorem ty_tstr_24 : tstr prog 24 = false := by kernel_rfl
@[go_sem] theorem ty_tstr_25 : tstr prog 25 = false := by kernel_rfl
@[go_sem] theorem ty_tstr_26 : tstr prog 26 = false := by kernel_rfl
@[go_sem] theorem ty_tstr_28 : tstr prog 28 = false := by kernel_rfl
@[go_sem] theorem ty_tstr_3 : tstr prog 3 = false := by kernel_rfl
@[go_sem] theorem ty_tstr_30 : tstr prog 30 = false := by kernel_rfl
@[go_sem] theorem ty_tstr_31 : tstr prog 31 = false := by kernel_rfl
@[go_sem] theorem ty_tstr_40 : tstr prog 40 = false := by kernel_rfl
@[go_sem] theorem ty_tstr_42 : tstr prog 42 = false := by kernel_rfl
@[go_sem] theorem ty_tstr_43 : tstr prog 43 = false := by kernel_rfl
@[go_sem] theorem ty_tstr_44 : tstr prog 44 = false := by kernel_rfl
@[go_sem] theorem ty_tstr_51 : tstr prog 51 = false := by kernel_rfl
@[go_sem] theorem ty_tstr_68 : tstr prog 68 = false := by kernel_rfl
@[go_sem] theorem ty_tstr_73 : tstr prog 73 = false := by kernel_rfl
@[go_sem] theorem ty_tstr_79 : tstr prog 79 = false := by kernel_rfl
@[go_sem] theorem ty_tstr_93 : tstr prog 93 = false := by kernel_rfl
@[go_sem] theorem ty_tstr_95 : tstr prog 95 = false := by kernel_rfl
@[go_sem] theorem ty_tstr_98 : tstr prog 98 = false := by kernel_rfl
end Go.Avl
namespace Go.Avl
open Go Go.Proofs.Try
set_option maxRecDepth 10000
set_option linter.unusedSimpArgs false
attribute [go_sem] Nat.reduceLT Nat.reduceLeDiff Nat.reduceEqDiff Nat.reduceAdd Nat.reduceSub Nat.reduceMul Nat.reduceBEq Int.reduceToNat Int.reduceEq Int.reduceLT Int.reduceLE Int.reduceAdd reduceCtorEq
attribute [go_sem ↓] reduceIte
theorem mixed : prog.follows .mixedOrders = true := by kernel_rfl
theorem none_is : PureIs prog 67 [] (.ag [.sc (.int .i64 (-1)), .sc (.int .i64 (-1))]) := by
  refine PureIs.of (nv := 1) (hid := []) func67 rfl (by kernel_rfl) (by simp) fun _ => ?_
  rw [ntmps67, results67]
  refine EvC.seq (EvC.rg (by simp only [go_sem]; rfl) rfl ?_)
  refine EvC.seq (EvC.rg (by simp only [go_sem]; rfl) rfl ?_)
  refine EvC.ret ⟨.inl rfl, _, (by simp only [go_sem]; rfl), rfl, rfl⟩
theorem clip31_is (nl : Bool) (es : List (List AV)) (c : Cp) (h : (es.all fun y => decide (y.length = 1)) = true) : PureIs prog 31 [.sl nl es c] (.sl nl es .full) := by
  refine PureIs.of (nv := 3) (hid := []) func31 rfl (by kernel_rfl) (by simp [ntmps31]) fun _ => ?_
  rw [ntmps31, results31]
  refine EvC.seq (EvC.rg (by (simp only [go_sem]) <;> rfl) rfl ?_)
  refine EvC.seq (EvC.rg (by (simp only [go_sem]) <;> rfl) (by simp [h]) ?_)
  refine EvC.ret ⟨.inl rfl, _, (by (simp only [go_sem]) <;> rfl), rfl, rfl⟩
theorem clip43_is (nl : Bool) (es : List (List AV)) (c : Cp) (h : (es.all fun y => decide (y.length = 4)) = true) : PureIs prog 43 [.sl nl es c] (.sl nl es .full) := by
  refine PureIs.of (nv := 3) (hid := []) func43 rfl (by kernel_rfl) (by simp [ntmps43]) fun _ => ?_
  rw [ntmps43, results43]
  refine EvC.seq (EvC.rg (by (simp only [go_sem]) <;> rfl) rfl ?_)
  refine EvC.seq (EvC.rg (by (simp only [go_sem]) <;> rfl) (by simp [h]) ?_)
  refine EvC.ret ⟨.inl rfl, _, (by (simp only [go_sem]) <;> rfl), rfl, rfl⟩
def I (n : Int) : AV := .sc (.int .i64 n)
def B (b : Bool) : AV := .sc (.bool b)
def intC (x : Int) : List AV := [.sc (.int .i64 x)]
@[go_sem] theorem norefs_ints (l : List Int) : (l.map intC).all AV.norefs = true := by simp [List.all_eq_true, intC, AV.norefs, AV.noref]
theorem intC_len (l : List Int) : ((l.map intC).all fun y => decide (y.length = 1)) = true := by simp [List.all_eq_true, intC]
/-- Values that are weaker readings of the same thing: a nil slice. -/
theorem clone_is (nl : Bool) (es : List Int) (c : Cp) (hn : nl = true → es = []) (hl : es.length < 1000000) : PureIs prog 32 [.sl nl (es.map intC) c] (.sl nl (es.map intC) .unk) := by
  refine PureIs.of (nv := 3) (hid := [4]) func32 rfl (by kernel_rfl) (by simp [ntmps32]) fun _ => ?_
  rw [ntmps32, results32]
  refine EvC.seq (EvC.rg (by (simp only [go_sem]) <;> rfl) rfl ?_)
  refine EvC.seq ?_
  refine EvC.seq (EvC.rg (by (simp only [go_sem]) <;> rfl) (by simp) ?_)
  refine EvC.cond (by (simp only [go_sem]) <;> rfl) (fun hc => ?_) (fun hc => ?_)
  · have hc : nl = true := by simpa using hc
    subst hc
    rw [hn rfl]
    refine EvC.seq (EvC.rg (by (simp only [go_sem]) <;> rfl) rfl ?_)
    refine EvC.ret ⟨.inl rfl, _, (by (simp only [go_sem]) <;> rfl), ?_, rfl⟩
    simp only [go_sem]
  have hc : nl = false := by simpa using hc
  subst hc
  refine EvC.skip ?_
  refine EvC.seq (EvC.rg (by (simp only [go_sem]) <;> rfl) (by simp [room_eq, intC]; omega) ?_)
  refine EvC.frz 5 (by (simp only [go_sem]) <;> rfl) ?_
  refine EvC.ret ⟨.inl rfl, _, (by (simp only [go_sem]) <;> rfl), ?_, rfl⟩
  simp only [go_sem]
end Go.Avl
namespace Go.Avl
open Go Go.Proofs.Try
set_option maxRecDepth 10000
set_option linter.unusedSimpArgs false
def fitsR (n o to out : Int) : Bool := decide (to = -1) && decide (out = -1) || (decide (0 ≤ to) && decide (to < n) && decide (0 ≤ out) && decide (out < o))
theorem fits_is (i o : Int) (nl : Bool) (rows : List (List AV)) (c : Cp) (to out : Int) :
    PureIs prog 61 [.ag [.sc (.int .i64 i), .sc (.int .i64 o), .sl nl rows c], .ag [.sc (.int .i64 to), .sc (.int .i64 out)]] (.sc (.bool (fitsR rows.length o to out))) := by
  refine PureIs.of (nv := 5) (hid := []) func61 rfl (by kernel_rfl) (by simp [ntmps61]) fun _ => ?_
  rw [ntmps61, results61]
  refine EvC.seq (EvC.rg (by simp only [go_sem]; rfl) rfl ?_)
  apply EvC.seq
  apply EvC.drw mixed
  case ht =>
    apply Tr.run
    · (simp only [go_sem]) <;> rfl
    · rfl
    apply Tr.cons
    · exact .call rfl rfl (by (simp only [go_sem]) <;> rfl) (by (simp only [go_sem]) <;> rfl) (by (simp only [go_sem]) <;> rfl) (by (simp only [go_sem]) <;> rfl) (by (simp only [go_sem]) <;> rfl) none_is
    apply Tr.done
    · (simp only [go_sem]) <;> rfl
    · simp
  case hc => kernel_rfl
  case hq =>
    refine EvC.ret ⟨.inl rfl, _, (by (simp only [go_sem]) <;> rfl), ?_, rfl⟩
    simp only [go_sem]
    congr 2
    unfold fitsR
    by_cases h1 : to = -1 <;> by_cases h2 : out = -1 <;> by_cases h3 : 0 ≤ to <;> by_cases h4 : to < rows.length <;> by_cases h5 : 0 ≤ out <;> simp [h1, h2, h3, h4, h5]
end Go.Avl
namespace Go.Avl
open Go Go.Proofs.Try
set_option maxRecDepth 10000
set_option linter.unusedSimpArgs false
def edgeC (e : Int × Int) : List AV := [.sc (.int .i64 e.1), .sc (.int .i64 e.2)]
@[go_sem] theorem norefs_edges (l : List (Int × Int)) : (l.map edgeC).all AV.norefs = true := by simp [List.all_eq_true, edgeC, AV.norefs, AV.noref]

theorem check1_is (i o : Int) (nl : Bool) (rows : List (List AV)) (c : Cp) (to out : Int) :
    PureIs prog 60 [.ag [.sc (.int .i64 to), .sc (.int .i64 out)], .ia [.sc (.int .i64 i), .sc (.int .i64 o), .sl nl rows c]] (.sc (.bool (!fitsR rows.length o to out))) := by
  refine PureIs.of (nv := 4) (hid := []) func60 rfl (by kernel_rfl) (by simp [ntmps60]) fun _ => ?_
  rw [ntmps60, results60]
  refine EvC.seq (EvC.rg (by (simp only [go_sem]) <;> rfl) rfl ?_)
  apply EvC.seq
  apply EvC.tr
  · apply Tr.run
    · (simp only [go_sem]) <;> rfl
    · rfl
    apply Tr.cons
    · exact .call rfl rfl (by (simp only [go_sem]) <;> rfl) (by (simp only [go_sem]) <;> rfl) (by (simp only [go_sem]) <;> rfl) (by (simp only [go_sem]) <;> rfl) (by (simp only [go_sem]) <;> rfl) (fits_is _ _ _ _ _ _ _)
    apply Tr.done
    · (simp only [go_sem]) <;> rfl
    · rfl
  refine EvC.ret ⟨.inl rfl, _, (by (simp only [go_sem]) <;> rfl), ?_, rfl⟩
  simp only [go_sem]

def findIdxR (p : Int × Int → Bool) : List (Int × Int) → Int → Int
  | [], _ => -1
  | e :: es, i => if p e = true then i else findIdxR p es (i + 1)

theorem indexFunc_is (nl : Bool) (xs : List (Int × Int)) (c : Cp) (f : FuncId) (cs : List AV) (hcs : AV.norefs cs = true) (p : Int × Int → Bool) (hp : ∀ e ∈ xs, PureIs prog f (.ag (edgeC e) :: cs) (.sc (.bool (p e)))) (hl : xs.length < 1000000) :
    PureIs prog 68 [.sl nl (xs.map edgeC) c, .fn f cs] (.sc (.int .i64 (findIdxR p xs 0))) := by
  refine PureIs.of (nv := 6) (hid := [6, 7, 8, 9, 16]) func68 rfl (by kernel_rfl) (by simp [ntmps68]) fun _ => ?_
  rw [ntmps68, results68]
  refine EvC.seq (EvC.rg (by (simp only [go_sem]) <;> rfl) rfl ?_)
  refine EvC.seq ?_
  refine EvC.seq (EvC.rg (by (simp only [go_sem]) <;> rfl) rfl ?_)
  refine EvC.block (EvC.loopS (σ := Nat) (fun i => ⟨[(0, .sl nl (xs.map edgeC) c), (1, .fn f cs), (7, .sc (.int .i64 xs.length)), (8, .sc (.int .i64 i))], [], [], 0⟩) (fun i => xs.length - i) (fun i => i ≤ xs.length ∧ findIdxR p xs 0 = findIdxR p (xs.drop i) i) [0, 1, 7, 8] 0 ?_ ?_)
  · refine ⟨[], 0, rfl, (by (simp only [go_sem, hcs]) <;> rfl), Nat.zero_le _, by simp⟩
  · rintro i ⟨h1, h2⟩
    refine EvC.seq (EvC.rg (by (simp only [go_sem]) <;> rfl) rfl ?_)
    refine EvC.seq (EvC.cond (by (simp only [go_sem]) <;> rfl) (fun hc => ?_) (fun hc => ?_))
    · refine EvC.skip ?_
      have hi : i < xs.length := by simpa using hc
      have he : xs[i]? = some xs[i] := List.getElem?_eq_getElem hi
      generalize xs[i] = e at he
      have hm : e ∈ xs := List.mem_of_getElem? he
      have hd : xs.drop i = e :: xs.drop (i + 1) := by
        rw [List.drop_eq_getElem_cons hi]; congr 1; rw [List.getElem?_eq_getElem hi] at he; simpa using he
      refine EvC.seq ?_
      refine EvC.block (EvC.seq (EvC.rg (by (simp only [go_sem]) <;> rfl) rfl ?_))
      apply EvC.seq
      apply EvC.tr
      · apply Tr.run
        · (simp only [go_sem, he, edgeC]) <;> rfl
        · simp
        apply Tr.cons
        · exact .call rfl rfl (by (simp only [go_sem]) <;> rfl) (by (simp only [go_sem]) <;> rfl) (by (simp only [go_sem]) <;> rfl) (by (simp only [go_sem, hcs]) <;> rfl) (by (simp only [go_sem]) <;> rfl) (hp e hm)
        apply Tr.done
        · (simp only [go_sem]) <;> rfl
        · rfl
      refine EvC.cond (by (simp only [go_sem]) <;> rfl) (fun hc => ?_) (fun hc => ?_)
      · refine EvC.seq (EvC.rg (by (simp only [go_sem]) <;> rfl) rfl ?_)
        refine EvC.ret ⟨.inl rfl, _, (by (simp only [go_sem]) <;> rfl), ?_, rfl⟩
        simp only [go_sem]
        rw [h2, hd, findIdxR, if_pos hc]
      · refine EvC.skip ?_
        refine EvC.rg (by (simp only [go_sem]) <;> rfl) ?_ ?_
        · exact inI64_of (by omega) (by omega)
        refine ⟨[], i + 1, rfl, ?_, ⟨by omega, ?_⟩, by omega⟩
        · (simp only [go_sem, hcs]) <;> rfl
        · rw [h2, hd, findIdxR, if_neg (by simp [hc])]; rfl
    · refine EvC.exit ?_
      have hi : ¬ i < xs.length := by simpa using hc
      refine EvC.seq (EvC.rg (by (simp only [go_sem]) <;> rfl) rfl ?_)
      refine EvC.ret ⟨.inl rfl, _, (by (simp only [go_sem]) <;> rfl), ?_, rfl⟩
      simp only [go_sem]
      rw [h2, List.drop_of_length_le (by omega)]; rfl
end Go.Avl
namespace Go.Avl
open Go Go.Proofs.Try
set_option maxRecDepth 10000
set_option linter.unusedSimpArgs false

theorem findIdxR_any (p : Int × Int → Bool) : ∀ (es : List (Int × Int)) (i : Int), 0 ≤ i → decide (0 ≤ findIdxR p es i) = es.any p
  | [], i, _ => by simp [findIdxR]
  | e :: es, i, h => by
    unfold findIdxR
    split
    · rename_i hp; simp [hp, h]
    · rename_i hp
      rw [findIdxR_any p es (i + 1) (by omega)]
      simp [hp]

theorem containsFunc_is (nl : Bool) (xs : List (Int × Int)) (c : Cp) (f : FuncId) (cs : List AV) (hcs : AV.norefs cs = true) (p : Int × Int → Bool) (hp : ∀ e ∈ xs, PureIs prog f (.ag (edgeC e) :: cs) (.sc (.bool (p e)))) (hl : xs.length < 1000000) :
    PureIs prog 59 [.sl nl (xs.map edgeC) c, .fn f cs] (.sc (.bool (xs.any p))) := by
  refine PureIs.of (nv := 5) (hid := []) func59 rfl (by kernel_rfl) (by simp [ntmps59]) fun _ => ?_
  rw [ntmps59, results59]
  refine EvC.seq (EvC.rg (by (simp only [go_sem]) <;> rfl) rfl ?_)
  apply EvC.seq
  apply EvC.tr
  · apply Tr.run
    · (simp only [go_sem]) <;> rfl
    · rfl
    apply Tr.cons
    · exact .call rfl rfl (by (simp only [go_sem]) <;> rfl) (by (simp only [go_sem]) <;> rfl) (by (simp only [go_sem]) <;> rfl) (by (simp only [go_sem, hcs]) <;> rfl) (by (simp only [go_sem]) <;> rfl) (indexFunc_is _ _ _ _ _ hcs _ hp hl)
    apply Tr.done
    · (simp only [go_sem]) <;> rfl
    · rfl
  refine EvC.ret ⟨.inl rfl, _, (by (simp only [go_sem]) <;> rfl), ?_, rfl⟩
  simp only [go_sem]
  rw [findIdxR_any _ _ _ (Int.le_refl 0)]

abbrev Row := Bool × List (Int × Int)
def rowC (r : Row) : List AV := [.sl r.1 (r.2.map edgeC) .unk]
structure Mach where
  ins : Int
  outs : Int
  nl : Bool
  rows : List Row
def Mach.cells (m : Mach) : List AV := [.sc (.int .i64 m.ins), .sc (.int .i64 m.outs), .sl m.nl (m.rows.map rowC) .unk]
def rowOk (m : Mach) (r : Row) : Bool := decide ((r.2.length : Int) = m.ins) && !(r.2.any fun e => !fitsR m.rows.length m.outs e.1 e.2)
def checkM (m : Mach) : Int :=
  if 16 < m.ins ∨ 16 < m.outs ∨ 64 < (m.rows.length : Int) then 3
  else if m.ins < 1 ∨ m.outs < 1 ∨ (m.rows.length : Int) < 1 then 1
  else if m.rows.all (rowOk m) = true then 0 else 1

theorem check_is (m : Mach) (hr : ∀ r ∈ m.rows, r.2.length < 1000000) : PureIs prog 41 [.ag m.cells] (.sc (.int .i64 (checkM m))) := by
  refine PureIs.of (nv := 5) (hid := [18, 32, 34, 35, 36, 37, 49]) func41 rfl (by kernel_rfl) (by simp [ntmps41]) fun _ => ?_
  rw [ntmps41, results41]
  refine EvC.seq (EvC.rg (by (simp only [go_sem, Mach.cells]) <;> rfl) rfl ?_)
  refine EvC.frzB 0 (by (simp only [go_sem]) <;> rfl) ?_
  refine EvC.seq ?_
  apply EvC.seq
  apply EvC.trd
  · (simp only [go_sem]) <;> rfl
  · simp
  refine EvC.cond (by (simp only [go_sem]) <;> rfl) (fun hc => ?_) (fun hc => ?_)
  · refine EvC.seq (EvC.rg (by (simp only [go_sem]) <;> rfl) rfl ?_)
    refine EvC.ret ⟨.inl rfl, _, (by (simp only [go_sem]) <;> rfl), ?_, rfl⟩
    simp only [go_sem]
    have h : 16 < m.ins ∨ 16 < m.outs ∨ 64 < (m.rows.length : Int) := by
      by_cases h1 : 16 < m.ins <;> by_cases h2 : 16 < m.outs <;> simp_all
    rw [checkM, if_pos h]
  have hn : ¬ (16 < m.ins ∨ 16 < m.outs ∨ 64 < (m.rows.length : Int)) := by
    by_cases h1 : 16 < m.ins <;> by_cases h2 : 16 < m.outs <;> simp_all
  refine EvC.skip ?_
  refine EvC.seq ?_
  apply EvC.seq
  apply EvC.trd
  · (simp only [go_sem]) <;> rfl
  · simp
  refine EvC.cond (by (simp only [go_sem]) <;> rfl) (fun hc => ?_) (fun hc => ?_)
  · refine EvC.seq (EvC.rg (by (simp only [go_sem]) <;> rfl) rfl ?_)
    refine EvC.ret ⟨.inl rfl, _, (by (simp only [go_sem]) <;> rfl), ?_, rfl⟩
    simp only [go_sem]
    have h : m.ins < 1 ∨ m.outs < 1 ∨ (m.rows.length : Int) < 1 := by
      by_cases h1 : m.ins < 1 <;> by_cases h2 : m.outs < 1 <;> simp_all
    rw [checkM, if_neg hn, if_pos h]
  have hn2 : ¬ (m.ins < 1 ∨ m.outs < 1 ∨ (m.rows.length : Int) < 1) := by
    by_cases h1 : m.ins < 1 <;> by_cases h2 : m.outs < 1 <;> simp_all
  refine EvC.skip ?_
  have hlen : (m.rows.length : Int) ≤ 64 := by omega
  refine EvC.seq ?_
  refine EvC.seq (EvC.rg (by (simp only [go_sem]) <;> rfl) (by simp) ?_)
  refine EvC.block (EvC.loopS (σ := Nat) (fun i => ⟨[(1, .ia m.cells), (34, .sl m.nl (m.rows.map rowC) .unk), (35, .sc (.int .i64 m.rows.length)), (36, .sc (.int .i64 i))], [], [], 0⟩) (fun i => m.rows.length - i) (fun i => i ≤ m.rows.length ∧ m.rows.all (rowOk m) = (m.rows.drop i).all (rowOk m)) [1, 34, 35, 36] 0 ?_ ?_)
  · refine ⟨[], 0, rfl, (by (simp only [go_sem, Mach.cells]) <;> rfl), Nat.zero_le _, by simp⟩
  rintro i ⟨h1, h2⟩
  refine EvC.seq (EvC.rg (by (simp only [go_sem]) <;> rfl) rfl ?_)
  refine EvC.seq (EvC.cond (by (simp only [go_sem]) <;> rfl) (fun hc => ?_) (fun hc => ?_))
  · refine EvC.skip ?_
    have hi : i < m.rows.length := by simpa using hc
    have he : m.rows[i]? = some m.rows[i] := List.getElem?_eq_getElem hi
    generalize m.rows[i] = r at he
    have hm : r ∈ m.rows := List.mem_of_getElem? he
    have hd : m.rows.drop i = r :: m.rows.drop (i + 1) := by
      rw [List.drop_eq_getElem_cons hi]; congr 1; rw [List.getElem?_eq_getElem hi] at he; simpa using he
    refine EvC.seq ?_
    refine EvC.block (EvC.seq (EvC.rg (by (simp only [go_sem, he, rowC]) <;> rfl) (by simp) ?_))
    by_cases hl : (r.2.length : Int) = m.ins
    · apply EvC.seq
      apply EvC.tr
      · apply Tr.run
        · (simp only [go_sem, Mach.cells, hl]) <;> rfl
        · simp
        apply Tr.cons
        · exact .callG rfl rfl (by (simp only [go_sem]) <;> rfl) rfl (by (simp only [go_sem]) <;> rfl) (by (simp only [go_sem]) <;> rfl) (by (simp only [go_sem]) <;> rfl) (by (simp only [go_sem]) <;> rfl) (by (simp only [go_sem]) <;> rfl) (containsFunc_is r.1 r.2 .unk 60 [.ia m.cells] rfl (fun e => !fitsR m.rows.length m.outs e.1 e.2) (fun e _ => by simpa [edgeC, Mach.cells] using check1_is m.ins m.outs m.nl (m.rows.map rowC) .unk e.1 e.2) (hr r hm))
        apply Tr.done
        · (simp only [go_sem]) <;> rfl
        · simp
      refine EvC.cond (by (simp only [go_sem]) <;> rfl) (fun hc2 => ?_) (fun hc2 => ?_)
      · refine EvC.seq (EvC.rg (by (simp only [go_sem]) <;> rfl) rfl ?_)
        refine EvC.ret ⟨.inl rfl, _, (by (simp only [go_sem]) <;> rfl), ?_, rfl⟩
        simp only [go_sem]
        rw [checkM, if_neg hn, if_neg hn2, h2, hd, List.all_cons]
        simp [rowOk, hc2]
      · refine EvC.skip ?_
        refine EvC.rg (by (simp only [go_sem]) <;> rfl) ?_ ?_
        · exact inI64_of (by omega) (by omega)
        refine ⟨[], i + 1, rfl, (by (simp only [go_sem, Mach.cells]) <;> rfl), ⟨by omega, ?_⟩, by omega⟩
        rw [h2, hd, List.all_cons]
        simp [rowOk, hl, hc2]
    · apply EvC.seq
      apply EvC.tr
      · apply Tr.run
        · (simp only [go_sem, Mach.cells, hl]) <;> rfl
        · simp
        apply Tr.cons
        · exact .skipv (.sc (.bool false)) rfl rfl (by (simp only [go_sem]) <;> rfl) (by (simp only [go_sem]) <;> rfl)
        apply Tr.done
        · (simp only [go_sem]) <;> rfl
        · simp
      refine EvC.cond_true (by (simp only [go_sem]) <;> rfl) ?_
      refine EvC.seq (EvC.rg (by (simp only [go_sem]) <;> rfl) rfl ?_)
      refine EvC.ret ⟨.inl rfl, _, (by (simp only [go_sem]) <;> rfl), ?_, rfl⟩
      simp only [go_sem]
      rw [checkM, if_neg hn, if_neg hn2, h2, hd, List.all_cons]
      simp [rowOk, hl]
  · refine EvC.exit ?_
    have hi : ¬ i < m.rows.length := by simpa using hc
    refine EvC.seq (EvC.rg (by (simp only [go_sem]) <;> rfl) rfl ?_)
    refine EvC.ret ⟨.inl rfl, _, (by (simp only [go_sem]) <;> rfl), ?_, rfl⟩
    simp only [go_sem]
    rw [checkM, if_neg hn, if_neg hn2, h2, List.drop_of_length_le (by omega)]; rfl
end Go.Avl
namespace Go.Avl
open Go Go.Proofs.Try
set_option maxRecDepth 10000
set_option linter.unusedSimpArgs false
def stepM (m : Mach) (s a : Int) : Int × Int := (((m.rows[s.toNat]?).map (·.2)).getD [])[a.toNat]?.getD (-1, -1)
def edgeA (e : Int × Int) : AV := .ag [.sc (.int .i64 e.1), .sc (.int .i64 e.2)]
theorem next04_is (m : Mach) (s a : Int) (r : Row) (e : Int × Int) (hs : 0 ≤ s → m.rows[s.toNat]? = some r) (ha : 0 ≤ s → 0 ≤ a ∧ r.2[a.toNat]? = some e) : PureIs prog 44 [.ag m.cells, .sc (.int .i64 s), .sc (.int .i64 a)] (edgeA (if s < 0 then (-1, -1) else e)) := by
  refine PureIs.of (nv := 7) (hid := [8]) func44 rfl (by kernel_rfl) (by simp [ntmps44]) fun _ => ?_
  rw [ntmps44, results44]
  refine EvC.seq (EvC.rg (by (simp only [go_sem, Mach.cells]) <;> rfl) rfl ?_)
  refine EvC.seq (EvC.seq (EvC.rg (by (simp only [go_sem]) <;> rfl) rfl ?_))
  refine EvC.cond (by (simp only [go_sem]) <;> rfl) (fun hc => ?_) (fun hc => ?_)
  · refine EvC.seq (EvC.rg (by (simp only [go_sem]) <;> rfl) rfl ?_)
    refine EvC.ret ⟨.inl rfl, _, (by (simp only [go_sem]) <;> rfl), ?_, (by unfold edgeA; simp only [go_sem])⟩
    simp only [go_sem]
    rw [if_pos (by simpa using hc)]; rfl
  · have h0 : 0 ≤ s := by simpa using hc
    refine EvC.skip ?_
    refine EvC.seq (EvC.rg (by (simp only [go_sem, hs h0, rowC, (ha h0).2, edgeC]) <;> rfl) ?_ ?_)
    · simp [h0, (ha h0).1]
    refine EvC.ret ⟨.inl rfl, _, (by (simp only [go_sem]) <;> rfl), ?_, (by unfold edgeA; simp only [go_sem])⟩
    simp only [go_sem]
    rw [if_neg (by simpa using hc)]; rfl
/-- A valid machine's rows and edges. -/
structure Valid (m : Mach) : Prop where
  ins : 1 ≤ m.ins ∧ m.ins ≤ 16
  outs : 1 ≤ m.outs ∧ m.outs ≤ 16
  rows : 1 ≤ m.rows.length ∧ m.rows.length ≤ 64
  row : ∀ r ∈ m.rows, (r.2.length : Int) = m.ins ∧ ∀ e ∈ r.2, fitsR m.rows.length m.outs e.1 e.2 = true
theorem Valid.of {m : Mach} (h : checkM m = 0) : Valid m := by
  unfold checkM at h
  split at h
  · cases h
  · split at h
    · cases h
    · split at h
      · rename_i h1 h2 h3
        rw [List.all_eq_true] at h3
        refine ⟨by omega, by omega, by omega, fun r hr => ?_⟩
        have := h3 r hr
        simp only [rowOk, Bool.and_eq_true, decide_eq_true_eq, Bool.not_eq_true', List.any_eq_false] at this
        exact ⟨this.1, fun e he => by simpa using this.2 e he⟩
      · cases h
def stepR (m : Mach) (s a : Int) : Int × Int := if s < 0 then (-1, -1) else (((m.rows[s.toNat]?).map (·.2)).getD [])[a.toNat]?.getD (-1, -1)
theorem stepR_get {m : Mach} (hv : Valid m) {s a : Int} (h0 : 0 ≤ s) (hs : s < m.rows.length) (ha : 0 ≤ a ∧ a < m.ins) :
    ∃ r e, m.rows[s.toNat]? = some r ∧ r.2[a.toNat]? = some e ∧ stepR m s a = e ∧ fitsR m.rows.length m.outs e.1 e.2 = true := by
  have h1 : m.rows[s.toNat]? = some m.rows[s.toNat] := List.getElem?_eq_getElem (by omega)
  obtain ⟨h2, h3⟩ := hv.row _ (List.getElem_mem (show s.toNat < m.rows.length by omega))
  have h4 : (m.rows[s.toNat]).2[a.toNat]? = some ((m.rows[s.toNat]).2[a.toNat]'(by omega)) := List.getElem?_eq_getElem _
  exact ⟨_, _, h1, h4, by rw [stepR, if_neg (by omega), h1]; simp only [Option.map_some, Option.getD_some, h4], h3 _ (List.getElem_mem _)⟩

theorem stepR_is {m : Mach} (hv : Valid m) {s a : Int} (hs : s < m.rows.length) (ha : 0 ≤ a ∧ a < m.ins) : PureIs prog 44 [.ag m.cells, .sc (.int .i64 s), .sc (.int .i64 a)] (edgeA (stepR m s a)) := by
  by_cases h0 : 0 ≤ s
  · obtain ⟨r, e, h1, h2, h3, _⟩ := stepR_get hv h0 hs ha
    have := next04_is m s a r e (fun _ => h1) (fun _ => ⟨ha.1, h2⟩)
    rw [if_neg (by omega)] at this
    rw [h3]; exact this
  · have := next04_is m s a (false, []) (0, 0) (fun h => absurd h h0) (fun h => absurd h h0)
    rw [if_pos (by omega)] at this
    rw [stepR, if_pos (by omega)]; exact this
def runR (m : Mach) : Int → List Int → List Int
  | _, [] => []
  | s, a :: w => (stepR m s a).2 :: runR m (stepR m s a).1 w
theorem stepR_lt {m : Mach} (hv : Valid m) {s a : Int} (hs : s < m.rows.length) (ha : 0 ≤ a ∧ a < m.ins) : (stepR m s a).1 < m.rows.length := by
  by_cases h0 : 0 ≤ s
  · obtain ⟨r, e, _, _, h3, h4⟩ := stepR_get hv h0 hs ha
    rw [h3]
    have := hv.rows
    unfold fitsR at h4
    simp at h4; omega
  · rw [stepR, if_pos (by omega)]; have := hv.rows; simp only; omega

theorem run04_is {m : Mach} (hv : Valid m) (s : Int) (hs : s < m.rows.length) (nl : Bool) (w : List Int) (c : Cp) (hw : ∀ a ∈ w, 0 ≤ a ∧ a < m.ins) (hl : w.length < 1000000) :
    PureIs prog 40 [.ag m.cells, .sc (.int .i64 s), .sl nl (w.map intC) c] (.sl (runR m s w).isEmpty ((runR m s w).map intC) .unk) := by
  refine PureIs.of (nv := 10) (hid := [13]) func40 rfl (by kernel_rfl) (by simp [ntmps40]) fun _ => ?_
  rw [ntmps40, results40]
  refine EvC.seq (EvC.rg (by (simp only [go_sem, Mach.cells]) <;> rfl) rfl ?_)
  refine EvC.frzB 0 (by (simp only [go_sem]) <;> rfl) ?_
  refine EvC.seq (EvC.rg (by (simp only [go_sem]) <;> rfl) rfl ?_)
  refine EvC.seq ?_
  refine EvC.seq (EvC.rg (by (simp only [go_sem]) <;> rfl) rfl ?_)
  refine EvC.block (EvC.loopS (σ := Nat × Int × List Int) (fun g => ⟨[(1, .sc (.int .i64 g.2.1)), (2, .sl nl (w.map intC) c), (3, .ia m.cells), (7, .tl 0 g.2.2.length g.2.2.isEmpty), (8, .sc (.int .i64 g.1))], [], [(0, .arr 1 (g.2.2.map intC) true)], 1⟩) (fun g => w.length - g.1)
    (fun g => g.1 ≤ w.length ∧ g.2.1 < m.rows.length ∧ runR m s w = g.2.2 ++ runR m g.2.1 (w.drop g.1) ∧ g.2.2.length = g.1) [1, 2, 3, 7, 8] 1 ?_ ?_)
  · refine ⟨[(2, 0)], (0, s, []), rfl, (by (simp only [go_sem, Mach.cells]) <;> rfl), Nat.zero_le _, hs, by simp, rfl⟩
  rintro ⟨i, t, os⟩ ⟨h1, h2, h3, h4⟩
  simp only at h1 h2 h3 h4
  refine EvC.seq (EvC.seq (EvC.rg (by (simp only [go_sem]) <;> rfl) rfl ?_))
  refine EvC.cond (by (simp only [go_sem]) <;> rfl) (fun hc => ?_) (fun hc => ?_)
  · refine EvC.skip ?_
    have hi : i < w.length := by simpa using hc
    have he : w[i]? = some w[i] := List.getElem?_eq_getElem hi
    generalize w[i] = a at he
    have ha := hw a (List.mem_of_getElem? he)
    have hd : w.drop i = a :: w.drop (i + 1) := by
      rw [List.drop_eq_getElem_cons hi]; congr 1; rw [List.getElem?_eq_getElem hi] at he; simpa using he
    have hstep := stepR_is hv h2 ha
    refine EvC.seq ?_
    apply EvC.block
    apply EvC.seq
    apply EvC.drw mixed
    · apply Tr.run
      · (simp only [go_sem, Mach.cells, he, intC]) <;> rfl
      · simp
      apply Tr.cons
      · exact .call rfl rfl (by (simp only [go_sem]) <;> rfl) (by (simp only [go_sem]) <;> rfl) (by (simp only [go_sem]) <;> rfl) (by (simp only [go_sem]) <;> rfl) (by (simp only [go_sem]) <;> rfl) hstep
      apply Tr.done
      · (simp only [go_sem, edgeA]) <;> rfl
      · simp
    · kernel_rfl
    refine EvC.seq (EvC.rg (by (simp only [go_sem, List.set_cons_zero]) <;> rfl) ?_ ?_)
    · simp [room_eq]; omega
    refine EvC.rg (by (simp only [go_sem]) <;> rfl) (by simp) ?_
    refine EvC.rg (by (simp only [go_sem]) <;> rfl) ?_ ?_
    · exact inI64_of (by omega) (by omega)
    refine ⟨[(0, 0)], (i + 1, (stepR m t a).1, os ++ [(stepR m t a).2]), rfl, ?_, ⟨by omega, stepR_lt hv h2 ha, ?_, by simp [h4]⟩, by simp; omega⟩
    · (simp only [go_sem, Mach.cells, intC, List.length_append]) <;> rfl
    · rw [h3, hd, runR]; simp
  · refine EvC.exit ?_
    have hi : ¬ i < w.length := by simpa using hc
    have hr : runR m s w = os := by rw [h3, List.drop_of_length_le (by omega), runR, List.append_nil]
    refine EvC.frz 0 (by (simp only [go_sem]) <;> rfl) ?_
    refine EvC.seq (EvC.rg (by (simp only [go_sem]) <;> rfl) rfl ?_)
    refine EvC.ret ⟨.inl rfl, _, (by (simp only [go_sem]) <;> rfl), ?_, rfl⟩
    simp only [go_sem]
    rw [hr]
end Go.Avl
namespace Go.Avl
open Go Go.Proofs.Try
set_option maxRecDepth 10000
set_option linter.unusedSimpArgs false
def rowF (r : List (Int × Int)) : List AV := rowC (false, r)
@[go_sem] theorem norefs_rowF (l : List (List (Int × Int))) : (l.map rowF).all AV.norefs = true := by simp [List.all_eq_true, rowF, rowC, AV.norefs, AV.noref]
/-- The plain data of a machine. -/
structure LM where
  st : Int
  ins : Int
  outs : Int
  part : Bool
  nl : Bool
  es : List Int
  cap : Cp
def u16C (x : Int) : List AV := [.sc (.int .u16 x)]
@[go_sem] theorem norefs_u16 (l : List Int) : (l.map u16C).all AV.norefs = true := by simp [List.all_eq_true, u16C, AV.norefs, AV.noref]
def LM.cells (x : LM) : List AV := [.sc (.int .u8 x.st), .sc (.int .u8 x.ins), .sc (.int .u8 x.outs), .sc (.bool x.part), .sl x.nl (x.es.map u16C) x.cap]
structure LM.Ok (x : LM) : Prop where
  st : 0 ≤ x.st
  ins : 0 ≤ x.ins
  outs : 0 ≤ x.outs
  es : ∀ e ∈ x.es, 0 ≤ e ∧ e < 65536
def LM.n (x : LM) : Nat := (1 + x.st % 6).toNat
def LM.i (x : LM) : Nat := (1 + x.ins % 3).toNat
def LM.o (x : LM) : Int := 1 + x.outs % 3
def LM.v (x : LM) (s i : Nat) : Int := (x.es[s * x.i + i]?).getD 0
def LM.edge (x : LM) (s i : Nat) : Int × Int :=
  if x.part = true ∧ x.v s i % 4 = 3 then (-1, -1) else (x.v s i / 4 % x.n, x.v s i / 4 / x.n % x.o)
def LM.row (x : LM) (s : Nat) : List (Int × Int) := (List.range x.i).map (x.edge s)
def LM.mach (x : LM) : Mach := ⟨x.i, x.o, false, (List.range x.n).map fun s => (false, x.row s)⟩

theorem LM.bounds {x : LM} (h : x.Ok) : 1 ≤ x.n ∧ x.n ≤ 6 ∧ 1 ≤ x.i ∧ x.i ≤ 3 ∧ 1 ≤ x.o ∧ x.o ≤ 3 ∧ (x.n : Int) = 1 + x.st % 6 ∧ (x.i : Int) = 1 + x.ins % 3 := by
  have h1 := h.st
  have h2 := h.ins
  have h3 := h.outs
  unfold LM.n LM.i LM.o
  omega
theorem LM.v_ok {x : LM} (h : x.Ok) (s i : Nat) : 0 ≤ x.v s i ∧ x.v s i < 65536 := by
  unfold LM.v
  cases he : x.es[s * x.i + i]? with
  | none => simp
  | some e => exact h.es e (List.mem_of_getElem? he)

theorem mOf_is {x : LM} (h : x.Ok) : PureIs prog 10 [.ag x.cells] (.ag x.mach.cells) := by
  refine PureIs.of (nv := 10) (hid := [28, 34, 47, 60]) func10 rfl (by kernel_rfl) (by simp [ntmps10]) fun _ => ?_
  rw [ntmps10, results10]
  obtain ⟨b1, b2, b3, b4, b5, b6, b7, b8⟩ := LM.bounds h
  have h1 := h.st
  have h2 := h.ins
  have h3 := h.outs
  have hI1 : inI64 (x.st % 6) = true := inI64_of (by omega) (by omega)
  have hI2 : inI64 (x.ins % 3) = true := inI64_of (by omega) (by omega)
  have hI3 : inI64 (x.outs % 3) = true := inI64_of (by omega) (by omega)
  have hI4 : inI64 (1 + x.st % 6) = true := inI64_of (by omega) (by omega)
  have hI5 : inI64 (1 + x.ins % 3) = true := inI64_of (by omega) (by omega)
  have hI6 : inI64 (1 + x.outs % 3) = true := inI64_of (by omega) (by omega)
  refine EvC.seq (EvC.rg (by (simp only [go_sem, LM.cells]) <;> rfl) (by simp) ?_)  -- R0
  refine EvC.frzB 0 (by (simp only [go_sem]) <;> rfl) ?_
  refine EvC.seq (EvC.rg (by (simp only [go_sem]) <;> rfl) (by simp [hI1, hI4, h1]) ?_)  -- R1
  refine EvC.seq (EvC.rg (by (simp only [go_sem]) <;> rfl) (by simp [hI2, hI3, hI5, hI6, h2, h3]) ?_)  -- R2
  refine EvC.seq ?_
  refine EvC.seq (EvC.rg (by (simp only [go_sem]) <;> rfl) (by simp) ?_)  -- R3
  refine EvC.block ?_  -- 0
  have hmem : ∀ {s : Nat}, (fun s => ((false, x.row s) : Row)) s = (false, x.row s) := fun {_} => rfl
  have hO : x.o = 1 + x.outs % 3 := rfl
  refine EvC.ownC 19 2 1 (by (simp only [go_sem]) <;> rfl) ?_
  refine EvC.loopS (σ := Nat) (fun s => ⟨[(1, .ia x.cells), (2, .rf 0 0), (3, .sc (.int .i64 x.n)), (4, .rf 1 0), (5, .sc (.int .i64 s))], [],
      [(0, .cells [.sc (.int .i64 0), .sc (.int .i64 0), .sl true [] .zer]), (1, .cells [.sc (.int .i64 x.i), .sc (.int .i64 x.o), .tl 2 s (s == 0)]), (2, .arr 1 (((List.range s).map x.row).map rowF) true)], 3⟩) (fun s => x.n - s)
    (fun s => s ≤ x.n) [1, 2, 3, 4, 5] 3 ?_ ?_
  · exact ⟨[(1, 0), (19, 1), (22, 2)], 0, rfl, (by (simp only [go_sem, LM.cells, ← b7, ← b8, ← hO, List.range_zero]) <;> rfl), Nat.zero_le _⟩
  intro s hs
  have hls : (((List.range s).map x.row).map rowF).length = s := by simp
  refine EvC.seq ?_
  refine EvC.seq (EvC.rg (by (simp only [go_sem]) <;> rfl) (by simp) ?_)  -- R4
  refine EvC.cond (by (simp only [go_sem]) <;> rfl) (fun hc => ?_) (fun hc => ?_)
  rotate_left
  · refine EvC.exit ?_  -- 0
    have hc : ¬ s < x.n := by simpa using hc
    obtain rfl : s = x.n := by omega
    refine EvC.frzD 2 (by (simp only [go_sem, hls]) <;> rfl) ?_
    refine EvC.seq (EvC.rg (by (simp only [go_sem]) <;> rfl) (by simp) ?_)  -- R18
    refine EvC.ret ⟨.inl rfl, _, (by (simp only [go_sem]) <;> rfl), ?_, rfl⟩
    simp only [go_sem]
    have hne : (x.n == 0) = false := by simp; omega
    simp only [Mach.cells, LM.mach, hne]
    rw [List.map_map, List.map_map]
    rfl
  have hc : s < x.n := by simpa using hc
  refine EvC.skip ?_
  refine EvC.seq ?_
  refine EvC.block ?_  -- 1
  refine EvC.seq (EvC.rg (by (simp only [go_sem]) <;> rfl) (by simp) ?_)  -- R6
  refine EvC.seq ?_
  refine EvC.seq (EvC.rg (by (simp only [go_sem]) <;> rfl) (by simp) ?_)  -- R7
  refine EvC.block ?_  -- 2
  refine EvC.loopS (σ := Nat) (fun i => ⟨[(1, .ia x.cells), (2, .rf 0 0), (3, .sc (.int .i64 x.n)), (4, .rf 1 0), (5, .sc (.int .i64 s)), (6, .tl 3 i (i == 0)), (7, .sc (.int .i64 i))], [],
      [(0, .cells [.sc (.int .i64 0), .sc (.int .i64 0), .sl true [] .zer]), (1, .cells [.sc (.int .i64 x.i), .sc (.int .i64 x.o), .tl 2 s (s == 0)]), (2, .arr 1 (((List.range s).map x.row).map rowF) true),
       (3, .arr 2 (((List.range i).map (x.edge s)).map edgeC) true)], 4⟩) (fun i => x.i - i)
    (fun i => i ≤ x.i) [1, 2, 3, 4, 5, 6, 7] 4 ?_ ?_
  · exact ⟨[(0, 0), (1, 1), (2, 2), (6, 3)], 0, rfl, (by (simp only [go_sem, List.range_zero]) <;> rfl), Nat.zero_le _⟩
  intro i hi
  have hli : (((List.range i).map (x.edge s)).map edgeC).length = i := by simp
  refine EvC.seq ?_
  refine EvC.seq (EvC.rg (by (simp only [go_sem]) <;> rfl) (by simp) ?_)  -- R8
  refine EvC.cond (by (simp only [go_sem]) <;> rfl) (fun hc => ?_) (fun hc => ?_)
  rotate_left
  · refine EvC.exit ?_  -- 2
    have hc : ¬ i < x.i := by simpa using hc
    obtain rfl : i = x.i := by omega
    have hne : (x.i == 0) = false := by simp; omega
    refine EvC.frz 3 (by (simp only [go_sem, hli, hne]) <;> rfl) ?_
    refine EvC.rg (by (simp only [go_sem]) <;> rfl) (by simp [room_eq, AV.norefs, AV.noref, hls]; omega) ?_  -- R17
    refine EvC.rg (by (simp only [go_sem]) <;> rfl) (inI64_of (by omega) (by omega)) ?_  -- R5
    refine ⟨[(0, 0), (1, 1), (2, 2)], s + 1, rfl, ?_, by omega, by omega⟩
    have hs0 : (s + 1 == 0) = false := rfl
    (simp only [go_sem, hs0, List.range_succ, rowF, rowC, LM.row, List.length_map, List.length_range]) <;> rfl
  have hc : i < x.i := by simpa using hc
  have hv := LM.v_ok h s i
  have hsi : (0 : Int) ≤ (s : Int) * x.i := Int.mul_nonneg (by omega) (by omega)
  have hsi2 : (s : Int) * x.i ≤ 18 := by
    have : s * x.i ≤ 6 * 3 := Nat.mul_le_mul (by omega) (by omega)
    have := Int.ofNat_le.2 this
    simpa using this
  have hk : ((s * x.i + i : Nat) : Int) = (s : Int) * x.i + i := by simp
  have hkn : ((s : Int) * x.i + i).toNat = s * x.i + i := by omega
  have hIm : inI64 ((s : Int) * x.i) = true := inI64_of (by omega) (by omega)
  have hIk : inI64 ((s : Int) * x.i + i) = true := inI64_of (by omega) (by omega)
  have hIi : inI64 ((i : Int) + 1) = true := inI64_of (by omega) (by omega)
  have hIv : inI64 (x.v s i) = true := inI64_of (by omega) (by omega)
  refine EvC.skip ?_
  refine EvC.seq ?_
  refine EvC.block ?_  -- 3
  refine EvC.seq (EvC.rg (by (simp only [go_sem]) <;> rfl) (by simp) ?_)  -- R10
  refine EvC.seq ?_
  refine EvC.seq (EvC.rg (by (simp only [go_sem]) <;> rfl) (by simp [hIm, hIk]) ?_)  -- R11
  refine EvC.seq (EvC.rg (by (simp only [go_sem, LM.cells]) <;> rfl) (by simp) ?_)  -- R12
  refine EvC.cond (by (simp only [go_sem]) <;> rfl) (fun hc => ?_) (fun hc => ?_)
  · have hkl : s * x.i + i < x.es.length := by
      have : (s : Int) * x.i + i < x.es.length := by simpa using hc
      omega
    have hev : x.es[s * x.i + i]? = some (x.v s i) := by
      unfold LM.v
      rw [List.getElem?_eq_getElem hkl]; rfl
    refine EvC.rg (by (simp only [go_sem, LM.cells, hkn, hev, u16C]) <;> rfl) (by simp [hIv]; omega) ?_  -- R13
    apply EvC.seq  -- R14
    apply EvC.trd
    · (simp only [go_sem, LM.cells]) <;> rfl
    · simp [hv.1]
    have hi0 : (i + 1 == 0) = false := rfl
    refine EvC.cond (by (simp only [go_sem]) <;> rfl) (fun hp => ?_) (fun hp => ?_)
    · have hp : x.part = true ∧ x.v s i % 4 = 3 := by
        by_cases h1 : x.part = true
        · simp [h1] at hp; exact ⟨h1, hp⟩
        · simp [h1] at hp
      have he : x.edge s i = (-1, -1) := if_pos hp
      refine EvC.rg (by (simp only [go_sem]) <;> rfl) (by simp [room_eq, AV.norefs, AV.noref]; omega) ?_  -- R15
      refine EvC.rg (by (simp only [go_sem]) <;> rfl) hIi ?_  -- R9
      refine ⟨[(0, 0), (1, 1), (2, 2), (3, 3)], i + 1, rfl, ?_, by omega, by omega⟩
      (simp only [go_sem, hi0, List.range_succ, he, edgeC, List.length_map, List.length_range]) <;> rfl
    · have hp : ¬ (x.part = true ∧ x.v s i % 4 = 3) := by
        rintro ⟨h1, h2⟩
        simp [h1, h2] at hp
      have he : x.edge s i = (x.v s i / 4 % x.n, x.v s i / 4 / x.n % x.o) := if_neg hp
      have hq1 : 0 ≤ x.v s i / 4 := Int.ediv_nonneg hv.1 (by omega)
      have hq2 : 0 ≤ x.v s i / 4 / x.n := Int.ediv_nonneg hq1 (by omega)
      have hq3 : x.v s i / 4 ≤ 65536 := by omega
      have hq4 : x.v s i / 4 / x.n ≤ x.v s i / 4 := Int.ediv_le_self _ hq1
      have hIq1 : inI64 (x.v s i / 4) = true := inI64_of (by omega) (by omega)
      have hIq2 : inI64 (x.v s i / 4 / x.n) = true := inI64_of (by omega) (by omega)
      apply EvC.drd mixed  -- R16
      · (simp only [go_sem]) <;> rfl
      · simp [room_eq, AV.norefs, AV.noref, hv.1, hq1, hq2, hIq1, hIq2]; omega
      · kernel_rfl
      refine EvC.rg (by (simp only [go_sem]) <;> rfl) hIi ?_  -- R9
      refine ⟨[(0, 0), (1, 1), (2, 2), (3, 3)], i + 1, rfl, ?_, by omega, by omega⟩
      (simp only [go_sem, hi0, List.range_succ, he, edgeC, List.length_map, List.length_range]) <;> rfl
  · have hkl : ¬ s * x.i + i < x.es.length := by
      have : ¬ (s : Int) * x.i + i < x.es.length := by simpa using hc
      omega
    have hev : x.v s i = 0 := by
      unfold LM.v
      rw [List.getElem?_eq_none (by omega)]; rfl
    refine EvC.skip ?_
    rw [← hev]
    apply EvC.seq  -- R14
    apply EvC.trd
    · (simp only [go_sem, LM.cells]) <;> rfl
    · simp [hv.1]
    have hi0 : (i + 1 == 0) = false := rfl
    refine EvC.cond (by (simp only [go_sem]) <;> rfl) (fun hp => ?_) (fun hp => ?_)
    · have hp : x.part = true ∧ x.v s i % 4 = 3 := by
        by_cases h1 : x.part = true
        · simp [h1] at hp; exact ⟨h1, hp⟩
        · simp [h1] at hp
      have he : x.edge s i = (-1, -1) := if_pos hp
      refine EvC.rg (by (simp only [go_sem]) <;> rfl) (by simp [room_eq, AV.norefs, AV.noref]; omega) ?_  -- R15
      refine EvC.rg (by (simp only [go_sem]) <;> rfl) hIi ?_  -- R9
      refine ⟨[(0, 0), (1, 1), (2, 2), (3, 3)], i + 1, rfl, ?_, by omega, by omega⟩
      (simp only [go_sem, hi0, List.range_succ, he, edgeC, List.length_map, List.length_range]) <;> rfl
    · have hp : ¬ (x.part = true ∧ x.v s i % 4 = 3) := by
        rintro ⟨h1, h2⟩
        simp [h1, h2] at hp
      have he : x.edge s i = (x.v s i / 4 % x.n, x.v s i / 4 / x.n % x.o) := if_neg hp
      have hq1 : 0 ≤ x.v s i / 4 := Int.ediv_nonneg hv.1 (by omega)
      have hq2 : 0 ≤ x.v s i / 4 / x.n := Int.ediv_nonneg hq1 (by omega)
      have hq3 : x.v s i / 4 ≤ 65536 := by omega
      have hq4 : x.v s i / 4 / x.n ≤ x.v s i / 4 := Int.ediv_le_self _ hq1
      have hIq1 : inI64 (x.v s i / 4) = true := inI64_of (by omega) (by omega)
      have hIq2 : inI64 (x.v s i / 4 / x.n) = true := inI64_of (by omega) (by omega)
      apply EvC.drd mixed  -- R16
      · (simp only [go_sem]) <;> rfl
      · simp [room_eq, AV.norefs, AV.noref, hv.1, hq1, hq2, hIq1, hIq2]; omega
      · kernel_rfl
      refine EvC.rg (by (simp only [go_sem]) <;> rfl) hIi ?_  -- R9
      refine ⟨[(0, 0), (1, 1), (2, 2), (3, 3)], i + 1, rfl, ?_, by omega, by omega⟩
      (simp only [go_sem, hi0, List.range_succ, he, edgeC, List.length_map, List.length_range]) <;> rfl
end Go.Avl
namespace Go.Avl
open Go Go.Proofs.Try
set_option maxRecDepth 10000
set_option linter.unusedSimpArgs false

def findIdxI (p : Int → Bool) : List Int → Int → Int
  | [], _ => -1
  | e :: es, i => if p e = true then i else findIdxI p es (i + 1)
theorem findIdxI_any (p : Int → Bool) : ∀ (es : List Int) (i : Int), 0 ≤ i → decide (0 ≤ findIdxI p es i) = es.any p
  | [], i, _ => by simp [findIdxI]
  | e :: es, i, h => by
    unfold findIdxI
    split
    · rename_i hp; simp [hp, h]
    · rename_i hp
      rw [findIdxI_any p es (i + 1) (by omega)]
      simp [hp]
theorem indexInt_is (nl : Bool) (xs : List Int) (c : Cp) (f : FuncId) (cs : List AV) (hcs : AV.norefs cs = true) (p : Int → Bool) (hp : ∀ e ∈ xs, PureIs prog f (.sc (.int .i64 e) :: cs) (.sc (.bool (p e)))) (hl : xs.length < 1000000) :
    PureIs prog 64 [.sl nl (xs.map intC) c, .fn f cs] (.sc (.int .i64 (findIdxI p xs 0))) := by
  refine PureIs.of (nv := 2) (hid := [4, 5, 7, 8, 9, 16]) func64 rfl (by kernel_rfl) (by simp [ntmps64]) fun _ => ?_
  rw [ntmps64, results64]
  refine EvC.seq (EvC.rg (by (simp only [go_sem]) <;> rfl) (by simp) ?_)
  refine EvC.seq ?_
  refine EvC.seq (EvC.rg (by (simp only [go_sem]) <;> rfl) (by simp) ?_)
  refine EvC.block ?_  -- 0
  refine EvC.loopS (σ := Nat) (fun i => ⟨[(0, .sl nl (xs.map intC) c), (1, .fn f cs), (7, .sc (.int .i64 xs.length)), (8, .sc (.int .i64 i))], [], [], 0⟩) (fun i => xs.length - i) (fun i => i ≤ xs.length ∧ findIdxI p xs 0 = findIdxI p (xs.drop i) i) [0, 1, 7, 8] 0 ?_ ?_
  · refine ⟨[], 0, rfl, (by (simp only [go_sem, hcs]) <;> rfl), Nat.zero_le _, by simp⟩
  rintro i ⟨h1, h2⟩
  refine EvC.seq (EvC.rg (by (simp only [go_sem]) <;> rfl) (by simp) ?_)
  refine EvC.seq ?_
  refine EvC.cond (by (simp only [go_sem]) <;> rfl) (fun hc => ?_) (fun hc => ?_)
  rotate_left
  · refine EvC.exit ?_  -- 0
    have hi : ¬ i < xs.length := by simpa using hc
    refine EvC.seq (EvC.rg (by (simp only [go_sem]) <;> rfl) (by simp) ?_)
    refine EvC.ret ⟨.inl rfl, _, (by (simp only [go_sem]) <;> rfl), ?_, rfl⟩
    simp only [go_sem]
    rw [h2, List.drop_of_length_le (by omega)]; rfl
  have hi : i < xs.length := by simpa using hc
  have he : xs[i]? = some xs[i] := List.getElem?_eq_getElem hi
  have hd : xs.drop i = xs[i] :: xs.drop (i + 1) := List.drop_eq_getElem_cons hi
  have hm : xs[i] ∈ xs := List.getElem_mem hi
  generalize xs[i] = e at he hd hm
  refine EvC.skip ?_
  refine EvC.seq ?_
  refine EvC.block ?_  -- 1
  refine EvC.seq (EvC.rg (by (simp only [go_sem]) <;> rfl) (by simp) ?_)
  apply EvC.seq
  apply EvC.tr
  · apply Tr.run
    · (simp only [go_sem, he, intC]) <;> rfl
    · simp
    apply Tr.cons
    · exact .call rfl rfl (by (simp only [go_sem]) <;> rfl) (by (simp only [go_sem]) <;> rfl) (by (simp only [go_sem]) <;> rfl) (by (simp only [go_sem, hcs]) <;> rfl) (by (simp only [go_sem]) <;> rfl) (hp e hm)
    apply Tr.done
    · (simp only [go_sem]) <;> rfl
    · simp
  refine EvC.cond (by (simp only [go_sem]) <;> rfl) (fun hc => ?_) (fun hc => ?_)
  · refine EvC.seq (EvC.rg (by (simp only [go_sem]) <;> rfl) (by simp) ?_)
    refine EvC.ret ⟨.inl rfl, _, (by (simp only [go_sem]) <;> rfl), ?_, rfl⟩
    simp only [go_sem]
    rw [h2, hd, findIdxI, if_pos hc]
  refine EvC.skip ?_
  refine EvC.rg (by (simp only [go_sem]) <;> rfl) (by exact inI64_of (by omega) (by omega)) ?_
  refine ⟨[], i + 1, rfl, (by (simp only [go_sem, hcs]) <;> rfl), ⟨by omega, ?_⟩, by omega⟩
  rw [h2, hd, findIdxI, if_neg (by simp [hc])]; rfl
theorem containsInt_is (nl : Bool) (xs : List Int) (c : Cp) (f : FuncId) (cs : List AV) (hcs : AV.norefs cs = true) (p : Int → Bool) (hp : ∀ e ∈ xs, PureIs prog f (.sc (.int .i64 e) :: cs) (.sc (.bool (p e)))) (hl : xs.length < 1000000) :
    PureIs prog 49 [.sl nl (xs.map intC) c, .fn f cs] (.sc (.bool (xs.any p))) := by
  refine PureIs.of (nv := 2) (hid := [4]) func49 rfl (by kernel_rfl) (by simp [ntmps49]) fun _ => ?_
  rw [ntmps49, results49]
  refine EvC.seq (EvC.rg (by (simp only [go_sem]) <;> rfl) (by simp) ?_)
  apply EvC.seq
  apply EvC.tr
  · apply Tr.run
    · (simp only [go_sem]) <;> rfl
    · simp
    apply Tr.cons
    · exact .call rfl rfl (by (simp only [go_sem]) <;> rfl) (by (simp only [go_sem]) <;> rfl) (by (simp only [go_sem]) <;> rfl) (by (simp only [go_sem, hcs]) <;> rfl) (by (simp only [go_sem]) <;> rfl) (indexInt_is _ _ _ _ _ hcs _ hp hl)
    apply Tr.done
    · (simp only [go_sem]) <;> rfl
    · simp
  refine EvC.ret ⟨.inl rfl, _, (by (simp only [go_sem]) <;> rfl), ?_, rfl⟩
  simp only [go_sem]
  rw [findIdxI_any _ _ _ (Int.le_refl 0)]

theorem wcheck1_is (x n : Int) : PureIs prog 56 [.sc (.int .i64 x), .ia [.sc (.int .i64 n)]] (.sc (.bool (decide (x < 0) || decide (n ≤ x)))) := by
  refine PureIs.of (nv := 2) (hid := [3]) func56 rfl (by kernel_rfl) (by simp [ntmps56]) fun _ => ?_
  rw [ntmps56, results56]
  refine EvC.seq (EvC.rg (by (simp only [go_sem]) <;> rfl) (by simp) ?_)
  apply EvC.seq
  apply EvC.trd
  · (simp only [go_sem]) <;> rfl
  · simp
  refine EvC.ret ⟨.inl rfl, _, (by (simp only [go_sem]) <;> rfl), ?_, rfl⟩
  simp only [go_sem]
  by_cases h : x < 0 <;> simp [h]
def wordErr (n : Int) (w : List Int) : Int := if 16 < n ∨ 256 < w.length then 3 else if n < 1 ∨ w.any (fun c => decide (c < 0) || decide (n ≤ c)) = true then 1 else 0
theorem wordCheck_is (nl : Bool) (w : List Int) (c : Cp) (n : Int) (hl : w.length < 1000000) : PureIs prog 37 [.sl nl (w.map intC) c, .sc (.int .i64 n)] (.sc (.int .i64 (wordErr n w))) := by
  refine PureIs.of (nv := 2) (hid := [3, 4, 11, 18]) func37 rfl (by kernel_rfl) (by simp [ntmps37]) fun _ => ?_
  rw [ntmps37, results37]
  refine EvC.seq (EvC.rg (by (simp only [go_sem]) <;> rfl) (by simp) ?_)
  refine EvC.frzB 0 (by (simp only [go_sem]) <;> rfl) ?_
  refine EvC.seq ?_
  apply EvC.seq
  apply EvC.trd
  · (simp only [go_sem]) <;> rfl
  · simp
  refine EvC.cond (by (simp only [go_sem]) <;> rfl) (fun hc => ?_) (fun hc => ?_)
  · have h : 16 < n ∨ 256 < w.length := by by_cases h1 : 16 < n <;> simp_all; omega
    refine EvC.seq (EvC.rg (by (simp only [go_sem]) <;> rfl) (by simp) ?_)
    refine EvC.ret ⟨.inl rfl, _, (by (simp only [go_sem]) <;> rfl), ?_, rfl⟩
    simp only [go_sem]
    rw [wordErr, if_pos h]
  have hn : ¬ (16 < n ∨ 256 < w.length) := by by_cases h1 : 16 < n <;> simp_all; omega
  refine EvC.skip ?_
  refine EvC.seq ?_
  by_cases h1 : n < 1
  · have h1' : decide (n < 1) = true := by simp [h1]
    apply EvC.seq
    apply EvC.tr
    · apply Tr.run
      · (simp only [go_sem]) <;> rfl
      · simp
      apply Tr.cons
      · exact .skipv (.sc (.bool false)) rfl rfl (by (simp only [go_sem, h1']) <;> rfl) (by (simp only [go_sem]) <;> rfl)
      apply Tr.done
      · (simp only [go_sem, h1']) <;> rfl
      · simp
    refine EvC.cond_true (by (simp only [go_sem]) <;> rfl) ?_
    refine EvC.seq (EvC.rg (by (simp only [go_sem]) <;> rfl) (by simp) ?_)
    refine EvC.ret ⟨.inl rfl, _, (by (simp only [go_sem]) <;> rfl), ?_, rfl⟩
    simp only [go_sem]
    rw [wordErr, if_neg hn, if_pos (.inl h1)]
  have h1' : decide (n < 1) = false := by simp [h1]
  apply EvC.seq
  apply EvC.tr
  · apply Tr.run
    · (simp only [go_sem, h1']) <;> rfl
    · simp
    apply Tr.cons
    · exact .callG rfl rfl (by (simp only [go_sem]) <;> rfl) rfl (by (simp only [go_sem]) <;> rfl) (by (simp only [go_sem]) <;> rfl) (by (simp only [go_sem]) <;> rfl) (by (simp only [go_sem]) <;> rfl) (by (simp only [go_sem]) <;> rfl) (containsInt_is nl w c 56 [.ia [.sc (.int .i64 n)]] rfl (fun c => decide (c < 0) || decide (n ≤ c)) (fun e _ => wcheck1_is e n) hl)
    apply Tr.done
    · (simp only [go_sem, h1']) <;> rfl
    · simp
  refine EvC.cond (by (simp only [go_sem]) <;> rfl) (fun hc => ?_) (fun hc => ?_)
  · refine EvC.seq (EvC.rg (by (simp only [go_sem]) <;> rfl) (by simp) ?_)
    refine EvC.ret ⟨.inl rfl, _, (by (simp only [go_sem]) <;> rfl), ?_, rfl⟩
    simp only [go_sem]
    rw [wordErr, if_neg hn, if_pos (.inr hc)]
  refine EvC.skip ?_
  refine EvC.seq (EvC.rg (by (simp only [go_sem]) <;> rfl) (by simp) ?_)
  refine EvC.ret ⟨.inl rfl, _, (by (simp only [go_sem]) <;> rfl), ?_, rfl⟩
  simp only [go_sem]
  rw [wordErr, if_neg hn, if_neg (by simp only [not_or]; exact ⟨h1, by simpa using hc⟩)]

theorem state1_is (x : Int) (m : Mach) : PureIs prog 50 [.sc (.int .i64 x), .ia m.cells] (.sc (.bool (decide (x < 0) || decide ((m.rows.length : Int) ≤ x)))) := by
  refine PureIs.of (nv := 2) (hid := [3]) func50 rfl (by kernel_rfl) (by simp [ntmps50]) fun _ => ?_
  rw [ntmps50, results50]
  refine EvC.seq (EvC.rg (by (simp only [go_sem]) <;> rfl) (by simp) ?_)
  apply EvC.seq
  apply EvC.trd
  · (simp only [go_sem, Mach.cells]) <;> rfl
  · simp
  refine EvC.ret ⟨.inl rfl, _, (by (simp only [go_sem]) <;> rfl), ?_, rfl⟩
  simp only [go_sem]
  by_cases h : x < 0 <;> simp [h]
def stateErr (m : Mach) (l : List Int) : Int := if checkM m ≠ 0 then checkM m else if l.any (fun x => decide (x < 0) || decide ((m.rows.length : Int) ≤ x)) = true then 1 else 0
theorem state_is (m : Mach) (hr : ∀ r ∈ m.rows, r.2.length < 1000000) (nl : Bool) (l : List Int) (c : Cp) (hl : l.length < 1000000) : PureIs prog 30 [.ag m.cells, .sl nl (l.map intC) c] (.sc (.int .i64 (stateErr m l))) := by
  refine PureIs.of (nv := 3) (hid := [4, 5, 9, 13]) func30 rfl (by kernel_rfl) (by simp [ntmps30]) fun _ => ?_
  rw [ntmps30, results30]
  refine EvC.seq (EvC.rg (by (simp only [go_sem, Mach.cells]) <;> rfl) (by simp) ?_)
  refine EvC.frzB 0 (by (simp only [go_sem]) <;> rfl) ?_
  refine EvC.seq ?_
  apply EvC.seq
  apply EvC.tr
  · apply Tr.run
    · (simp only [go_sem, Mach.cells]) <;> rfl
    · simp
    apply Tr.cons
    · exact .call rfl rfl (by (simp only [go_sem]) <;> rfl) (by (simp only [go_sem]) <;> rfl) (by (simp only [go_sem]) <;> rfl) (by (simp only [go_sem]) <;> rfl) (by (simp only [go_sem]) <;> rfl) (check_is m hr)
    apply Tr.done
    · (simp only [go_sem]) <;> rfl
    · simp
  refine EvC.seq (EvC.rg (by (simp only [go_sem]) <;> rfl) (by simp) ?_)
  refine EvC.cond (by (simp only [go_sem]) <;> rfl) (fun hc => ?_) (fun hc => ?_)
  · refine EvC.seq (EvC.rg (by (simp only [go_sem]) <;> rfl) (by simp) ?_)
    refine EvC.ret ⟨.inl rfl, _, (by (simp only [go_sem]) <;> rfl), ?_, rfl⟩
    simp only [go_sem]
    rw [stateErr, if_pos (by simpa using hc)]
  have hck : ¬ checkM m ≠ 0 := by simpa using hc
  refine EvC.skip ?_
  refine EvC.seq ?_
  apply EvC.seq
  apply EvC.tr
  · apply Tr.run
    · (simp only [go_sem]) <;> rfl
    · simp
    apply Tr.cons
    · exact .call rfl rfl (by (simp only [go_sem]) <;> rfl) (by (simp only [go_sem]) <;> rfl) (by (simp only [go_sem]) <;> rfl) (by (simp only [go_sem]) <;> rfl) (by (simp only [go_sem]) <;> rfl) (containsInt_is nl l c 50 [.ia m.cells] rfl (fun x => decide (x < 0) || decide ((m.rows.length : Int) ≤ x)) (fun e _ => state1_is e m) hl)
    apply Tr.done
    · (simp only [go_sem]) <;> rfl
    · simp
  refine EvC.cond (by (simp only [go_sem]) <;> rfl) (fun hc => ?_) (fun hc => ?_)
  · refine EvC.seq (EvC.rg (by (simp only [go_sem]) <;> rfl) (by simp) ?_)
    refine EvC.ret ⟨.inl rfl, _, (by (simp only [go_sem]) <;> rfl), ?_, rfl⟩
    simp only [go_sem]
    rw [stateErr, if_neg hck, if_pos hc]
  refine EvC.skip ?_
  refine EvC.seq (EvC.rg (by (simp only [go_sem]) <;> rfl) (by simp) ?_)
  refine EvC.ret ⟨.inl rfl, _, (by (simp only [go_sem]) <;> rfl), ?_, rfl⟩
  simp only [go_sem]
  rw [stateErr, if_neg hck, if_neg (by simp [hc])]
theorem mstate_is (m : Mach) (hr : ∀ r ∈ m.rows, r.2.length < 1000000) (s : Int) : PureIs prog 57 [.ag m.cells, .sc (.int .i64 s)] (.sc (.int .i64 (stateErr m [s]))) := by
  refine PureIs.of (nv := 3) (hid := [4, 5, 9, 19]) func57 rfl (by kernel_rfl) (by simp [ntmps57]) fun _ => ?_
  rw [ntmps57, results57]
  refine EvC.seq (EvC.rg (by (simp only [go_sem, Mach.cells]) <;> rfl) (by simp) ?_)
  refine EvC.frzB 0 (by (simp only [go_sem]) <;> rfl) ?_
  refine EvC.seq ?_
  apply EvC.seq
  apply EvC.tr
  · apply Tr.run
    · (simp only [go_sem, Mach.cells]) <;> rfl
    · simp
    apply Tr.cons
    · exact .call rfl rfl (by (simp only [go_sem]) <;> rfl) (by (simp only [go_sem]) <;> rfl) (by (simp only [go_sem]) <;> rfl) (by (simp only [go_sem]) <;> rfl) (by (simp only [go_sem]) <;> rfl) (check_is m hr)
    apply Tr.done
    · (simp only [go_sem]) <;> rfl
    · simp
  refine EvC.seq (EvC.rg (by (simp only [go_sem]) <;> rfl) (by simp) ?_)
  refine EvC.cond (by (simp only [go_sem]) <;> rfl) (fun hc => ?_) (fun hc => ?_)
  · refine EvC.seq (EvC.rg (by (simp only [go_sem]) <;> rfl) (by simp) ?_)
    refine EvC.ret ⟨.inl rfl, _, (by (simp only [go_sem]) <;> rfl), ?_, rfl⟩
    simp only [go_sem]
    rw [stateErr, if_pos (by simpa using hc)]
  have hck : ¬ checkM m ≠ 0 := by simpa using hc
  refine EvC.skip ?_
  refine EvC.seq ?_
  apply EvC.seq
  apply EvC.trd
  · (simp only [go_sem, Mach.cells]) <;> rfl
  · simp
  refine EvC.cond (by (simp only [go_sem]) <;> rfl) (fun hc => ?_) (fun hc => ?_)
  · have h : s < 0 ∨ (m.rows.length : Int) ≤ s := by by_cases h1 : s < 0 <;> simp_all
    refine EvC.seq (EvC.rg (by (simp only [go_sem]) <;> rfl) (by simp) ?_)
    refine EvC.ret ⟨.inl rfl, _, (by (simp only [go_sem]) <;> rfl), ?_, rfl⟩
    simp only [go_sem]
    rw [stateErr, if_neg hck, if_pos (by simpa using h)]
  have h : ¬ (s < 0 ∨ (m.rows.length : Int) ≤ s) := by by_cases h1 : s < 0 <;> simp_all
  refine EvC.skip ?_
  refine EvC.seq (EvC.rg (by (simp only [go_sem]) <;> rfl) (by simp) ?_)
  refine EvC.ret ⟨.inl rfl, _, (by (simp only [go_sem]) <;> rfl), ?_, rfl⟩
  simp only [go_sem]
  rw [stateErr, if_neg hck, if_neg (by simpa using h)]
end Go.Avl
namespace Go.Avl
open Go Go.Proofs.Try
set_option maxRecDepth 10000
set_option linter.unusedSimpArgs false

def fdiff : List Int → List Int → Int
  | x :: xs, y :: ys => if x < y then -1 else if y < x then 1 else fdiff xs ys
  | _, _ => 0
def cmpW (a b : List Int) : Int := if a.length < b.length then -1 else if b.length < a.length then 1 else fdiff a b
theorem fdiff_zero : ∀ {a b : List Int}, a.length = b.length → (fdiff a b = 0 ↔ a = b)
  | [], [], _ => by simp [fdiff]
  | x :: xs, y :: ys, h => by
    have := fdiff_zero (a := xs) (b := ys) (by simpa using h)
    unfold fdiff
    split
    · rename_i h1
      constructor
      · intro h; cases h
      · intro h; cases h; omega
    · split
      · constructor
        · intro h; cases h
        · intro h; cases h; omega
      · rw [this]
        have : x = y := by omega
        simp [this]
theorem cmpW_zero {a b : List Int} : cmpW a b = 0 ↔ a = b := by
  unfold cmpW
  split
  · rename_i h
    constructor
    · intro h; cases h
    · rintro rfl; omega
  · split
    · constructor
      · intro h; cases h
      · rintro rfl; omega
    · exact fdiff_zero (by omega)
theorem compare_is (na : Bool) (a : List Int) (ca : Cp) (nb : Bool) (b : List Int) (cb : Cp) (hl : a.length < 1000000) : PureIs prog 55 [.sl na (a.map intC) ca, .sl nb (b.map intC) cb] (.sc (.int .i64 (cmpW a b))) := by
  refine PureIs.of (nv := 2) (hid := [4, 5, 10, 15, 19, 30, 39]) func55 rfl (by kernel_rfl) (by simp [ntmps55]) fun _ => ?_
  rw [ntmps55, results55]
  refine EvC.seq (EvC.rg (by (simp only [go_sem]) <;> rfl) (by simp) ?_)
  refine EvC.seq ?_
  refine EvC.seq (EvC.rg (by (simp only [go_sem]) <;> rfl) (by simp) ?_)
  refine EvC.cond (by (simp only [go_sem]) <;> rfl) (fun hc => ?_) (fun hc => ?_)
  · have hc : a.length < b.length := by have : (a.length : Int) < b.length := by simpa using hc
                                        omega
    refine EvC.seq (EvC.rg (by (simp only [go_sem]) <;> rfl) (by simp) ?_)
    refine EvC.ret ⟨.inl rfl, _, (by (simp only [go_sem]) <;> rfl), ?_, rfl⟩
    simp only [go_sem]
    rw [cmpW, if_pos hc]
  have h1 : ¬ a.length < b.length := by have : ¬ (a.length : Int) < b.length := by simpa using hc
                                        omega
  clear hc
  refine EvC.skip ?_
  refine EvC.seq ?_
  refine EvC.seq (EvC.rg (by (simp only [go_sem]) <;> rfl) (by simp) ?_)
  refine EvC.cond (by (simp only [go_sem]) <;> rfl) (fun hc => ?_) (fun hc => ?_)
  · have hc : b.length < a.length := by have : (b.length : Int) < a.length := by simpa using hc
                                        omega
    refine EvC.seq (EvC.rg (by (simp only [go_sem]) <;> rfl) (by simp) ?_)
    refine EvC.ret ⟨.inl rfl, _, (by (simp only [go_sem]) <;> rfl), ?_, rfl⟩
    simp only [go_sem]
    rw [cmpW, if_neg h1, if_pos hc]
  have h2 : ¬ b.length < a.length := by have : ¬ (b.length : Int) < a.length := by simpa using hc
                                        omega
  clear hc
  have hw : cmpW a b = fdiff a b := by rw [cmpW, if_neg h1, if_neg h2]
  refine EvC.skip ?_
  refine EvC.seq ?_
  refine EvC.seq (EvC.rg (by (simp only [go_sem]) <;> rfl) (by simp) ?_)
  refine EvC.block ?_  -- 0
  refine EvC.loopS (σ := Nat) (fun i => ⟨[(0, .sl na (a.map intC) ca), (1, .sl nb (b.map intC) cb), (5, .sc (.int .i64 i))], [], [], 0⟩) (fun i => a.length - i) (fun i => i ≤ a.length ∧ fdiff a b = fdiff (a.drop i) (b.drop i)) [0, 1, 5] 0 ?_ ?_
  · refine ⟨[], 0, rfl, (by (simp only [go_sem]) <;> rfl), Nat.zero_le _, by simp⟩
  rintro i ⟨hi, h3⟩
  refine EvC.seq ?_
  refine EvC.seq (EvC.rg (by (simp only [go_sem]) <;> rfl) (by simp) ?_)
  refine EvC.cond (by (simp only [go_sem]) <;> rfl) (fun hc => ?_) (fun hc => ?_)
  rotate_left
  · refine EvC.exit ?_  -- 0
    have hi : ¬ i < a.length := by simpa using hc
    refine EvC.seq (EvC.rg (by (simp only [go_sem]) <;> rfl) (by simp) ?_)
    refine EvC.ret ⟨.inl rfl, _, (by (simp only [go_sem]) <;> rfl), ?_, rfl⟩
    simp only [go_sem]
    rw [hw, h3, List.drop_of_length_le (by omega)]; rfl
  have hi : i < a.length := by simpa using hc
  have hi2 : i < b.length := by omega
  have ha : a[i]? = some a[i] := List.getElem?_eq_getElem hi
  have hb : b[i]? = some b[i] := List.getElem?_eq_getElem hi2
  have hda : a.drop i = a[i] :: a.drop (i + 1) := List.drop_eq_getElem_cons hi
  have hdb : b.drop i = b[i] :: b.drop (i + 1) := List.drop_eq_getElem_cons hi2
  generalize a[i] = x at ha hda
  generalize b[i] = y at hb hdb
  refine EvC.skip ?_
  refine EvC.seq ?_
  refine EvC.block ?_  -- 1
  refine EvC.seq ?_
  apply EvC.seq
  apply EvC.drd mixed
  · (simp only [go_sem, ha, hb, intC]) <;> rfl
  · simp
  · kernel_rfl
  refine EvC.cond (by (simp only [go_sem]) <;> rfl) (fun hc => ?_) (fun hc => ?_)
  · have hc : x < y := by simpa using hc
    refine EvC.seq (EvC.rg (by (simp only [go_sem]) <;> rfl) (by simp) ?_)
    refine EvC.ret ⟨.inl rfl, _, (by (simp only [go_sem]) <;> rfl), ?_, rfl⟩
    simp only [go_sem]
    rw [hw, h3, hda, hdb, fdiff, if_pos hc]
  have hc1 : ¬ x < y := by simpa using hc
  refine EvC.skip ?_
  apply EvC.seq
  apply EvC.drd mixed
  · (simp only [go_sem, ha, hb, intC]) <;> rfl
  · simp
  · kernel_rfl
  refine EvC.cond (by (simp only [go_sem]) <;> rfl) (fun hc => ?_) (fun hc => ?_)
  · have hc : y < x := by simpa using hc
    refine EvC.seq (EvC.rg (by (simp only [go_sem]) <;> rfl) (by simp) ?_)
    refine EvC.ret ⟨.inl rfl, _, (by (simp only [go_sem]) <;> rfl), ?_, rfl⟩
    simp only [go_sem]
    rw [hw, h3, hda, hdb, fdiff, if_neg hc1, if_pos hc]
  have hc2 : ¬ y < x := by simpa using hc
  refine EvC.skip ?_
  refine EvC.rg (by (simp only [go_sem]) <;> rfl) (by exact inI64_of (by omega) (by omega)) ?_
  refine ⟨[], i + 1, rfl, (by (simp only [go_sem]) <;> rfl), ⟨by omega, ?_⟩, by omega⟩
  rw [h3, hda, hdb, fdiff, if_neg hc1, if_neg hc2]
theorem same_is (na : Bool) (a : List Int) (ca : Cp) (nb : Bool) (b : List Int) (cb : Cp) (hl : a.length < 1000000) : PureIs prog 36 [.sl na (a.map intC) ca, .sl nb (b.map intC) cb] (.sc (.bool (decide (a = b)))) := by
  refine PureIs.of (nv := 2) (hid := [4]) func36 rfl (by kernel_rfl) (by simp [ntmps36]) fun _ => ?_
  rw [ntmps36, results36]
  refine EvC.seq (EvC.rg (by (simp only [go_sem]) <;> rfl) (by simp) ?_)
  apply EvC.seq
  apply EvC.tr
  · apply Tr.run
    · (simp only [go_sem]) <;> rfl
    · simp
    apply Tr.cons
    · exact .call rfl rfl (by (simp only [go_sem]) <;> rfl) (by (simp only [go_sem]) <;> rfl) (by (simp only [go_sem]) <;> rfl) (by (simp only [go_sem]) <;> rfl) (by (simp only [go_sem]) <;> rfl) (compare_is na a ca nb b cb hl)
    apply Tr.done
    · (simp only [go_sem]) <;> rfl
    · simp
  refine EvC.ret ⟨.inl rfl, _, (by (simp only [go_sem]) <;> rfl), ?_, rfl⟩
  simp only [go_sem]
  simp [cmpW_zero]
theorem list_is (na : Bool) (a : List Int) (nb : Bool) (b : List Int) (cb : Cp) (e f : Int) (hl : a.length < 1000000) :
    PureIs prog 14 [.sl na (a.map intC) .full, .sc (.int .i64 e), .sl nb (b.map intC) cb, .sc (.int .i64 f)] (.sc (.bool (decide (e = f) && decide (a = b)))) := by
  refine PureIs.of (nv := 4) (hid := [8]) func14 rfl (by kernel_rfl) (by simp [ntmps14]) fun _ => ?_
  rw [ntmps14, results14]
  refine EvC.seq (EvC.rg (by (simp only [go_sem]) <;> rfl) (by simp) ?_)
  by_cases h1 : e = f
  · apply EvC.seq
    apply EvC.tr
    · apply Tr.run
      · (simp only [go_sem, h1]) <;> rfl
      · simp
      apply Tr.cons
      · exact .callG rfl rfl (by (simp only [go_sem]) <;> rfl) rfl (by (simp only [go_sem]) <;> rfl) (by (simp only [go_sem]) <;> rfl) (by (simp only [go_sem]) <;> rfl) (by (simp only [go_sem]) <;> rfl) (by (simp only [go_sem]) <;> rfl) (same_is na a .full nb b cb hl)
      apply Tr.done
      · (simp only [go_sem, h1, intC_len]) <;> rfl
      · simp
    refine EvC.ret ⟨.inl rfl, _, (by (simp only [go_sem]) <;> rfl), ?_, rfl⟩
    simp only [go_sem]
    simp [h1]
  · apply EvC.seq
    apply EvC.tr
    · apply Tr.run
      · (simp only [go_sem, h1]) <;> rfl
      · simp
      apply Tr.cons
      · exact .skipv (.sc (.bool false)) rfl rfl (by (simp only [go_sem, h1]) <;> rfl) (by (simp only [go_sem]) <;> rfl)
      apply Tr.done
      · (simp only [go_sem, h1]) <;> rfl
      · simp
    refine EvC.ret ⟨.inl rfl, _, (by (simp only [go_sem]) <;> rfl), ?_, rfl⟩
    simp only [go_sem]
    simp [h1]
theorem equal_is (na : Bool) (a : List Int) (ca : Cp) (nb : Bool) (b : List Int) (cb : Cp) (hl : a.length < 1000000) : PureIs prog 39 [.sl na (a.map intC) ca, .sl nb (b.map intC) cb] (.sc (.bool (decide (a = b)))) := by
  refine PureIs.of (nv := 2) (hid := [4, 5, 10, 12, 13, 14, 24]) func39 rfl (by kernel_rfl) (by simp [ntmps39]) fun _ => ?_
  rw [ntmps39, results39]
  refine EvC.seq (EvC.rg (by (simp only [go_sem]) <;> rfl) (by simp) ?_)
  refine EvC.seq ?_
  refine EvC.seq (EvC.rg (by (simp only [go_sem]) <;> rfl) (by simp) ?_)
  refine EvC.cond (by (simp only [go_sem]) <;> rfl) (fun hc => ?_) (fun hc => ?_)
  · have hc : a.length ≠ b.length := by have : (a.length : Int) ≠ b.length := by simpa using hc
                                        omega
    refine EvC.seq (EvC.rg (by (simp only [go_sem]) <;> rfl) (by simp) ?_)
    refine EvC.ret ⟨.inl rfl, _, (by (simp only [go_sem]) <;> rfl), ?_, rfl⟩
    simp only [go_sem]
    simp; intro h; exact hc (by rw [h])
  have h1 : a.length = b.length := by have : (a.length : Int) = b.length := by simpa using hc
                                      omega
  clear hc
  refine EvC.skip ?_
  refine EvC.seq ?_
  refine EvC.seq (EvC.rg (by (simp only [go_sem]) <;> rfl) (by simp) ?_)
  refine EvC.block ?_  -- 0
  refine EvC.loopS (σ := Nat) (fun i => ⟨[(0, .sl na (a.map intC) ca), (1, .sl nb (b.map intC) cb), (12, .sc (.int .i64 a.length)), (13, .sc (.int .i64 i))], [], [], 0⟩) (fun i => a.length - i) (fun i => i ≤ a.length ∧ (a = b ↔ a.drop i = b.drop i)) [0, 1, 12, 13] 0 ?_ ?_
  · refine ⟨[], 0, rfl, (by (simp only [go_sem]) <;> rfl), Nat.zero_le _, by simp⟩
  rintro i ⟨hi, h3⟩
  refine EvC.seq (EvC.rg (by (simp only [go_sem]) <;> rfl) (by simp) ?_)
  refine EvC.seq ?_
  refine EvC.cond (by (simp only [go_sem]) <;> rfl) (fun hc => ?_) (fun hc => ?_)
  rotate_left
  · refine EvC.exit ?_  -- 0
    have hi : ¬ i < a.length := by simpa using hc
    refine EvC.seq (EvC.rg (by (simp only [go_sem]) <;> rfl) (by simp) ?_)
    refine EvC.ret ⟨.inl rfl, _, (by (simp only [go_sem]) <;> rfl), ?_, rfl⟩
    simp only [go_sem]
    rw [List.drop_of_length_le (by omega), List.drop_of_length_le (by omega)] at h3
    simp [h3]
  have hi : i < a.length := by simpa using hc
  have hi2 : i < b.length := by omega
  have ha : a[i]? = some a[i] := List.getElem?_eq_getElem hi
  have hb : b[i]? = some b[i] := List.getElem?_eq_getElem hi2
  have hda : a.drop i = a[i] :: a.drop (i + 1) := List.drop_eq_getElem_cons hi
  have hdb : b.drop i = b[i] :: b.drop (i + 1) := List.drop_eq_getElem_cons hi2
  generalize a[i] = x at ha hda
  generalize b[i] = y at hb hdb
  rw [hda, hdb] at h3
  refine EvC.skip ?_
  refine EvC.seq ?_
  refine EvC.block ?_  -- 1
  refine EvC.seq (EvC.rg (by (simp only [go_sem]) <;> rfl) (by simp) ?_)
  apply EvC.seq
  apply EvC.drd mixed
  · (simp only [go_sem, ha, hb, intC]) <;> rfl
  · simp
  · kernel_rfl
  refine EvC.cond (by (simp only [go_sem]) <;> rfl) (fun hc => ?_) (fun hc => ?_)
  · have hc : ¬ x = y := by simpa using hc
    refine EvC.seq (EvC.rg (by (simp only [go_sem]) <;> rfl) (by simp) ?_)
    refine EvC.ret ⟨.inl rfl, _, (by (simp only [go_sem]) <;> rfl), ?_, rfl⟩
    simp only [go_sem]
    have : ¬ a = b := by rw [h3]; simp [hc]
    simp [this]
  have hc1 : x = y := by simpa using hc
  subst hc1
  refine EvC.skip ?_
  refine EvC.rg (by (simp only [go_sem]) <;> rfl) (by exact inI64_of (by omega) (by omega)) ?_
  refine ⟨[], i + 1, rfl, (by (simp only [go_sem]) <;> rfl), ⟨by omega, ?_⟩, by omega⟩
  rw [h3]; simp
end Go.Avl
namespace Go.Avl
open Go Go.Proofs.Try
set_option maxRecDepth 10000
set_option linter.unusedSimpArgs false

def u8C (x : Int) : List AV := [.sc (.int .u8 x)]
@[go_sem] theorem norefs_u8 (l : List Int) : (l.map u8C).all AV.norefs = true := by simp [List.all_eq_true, u8C, AV.norefs, AV.noref]
/-- The symbols of a word's plain data. -/
def wOf (l : List Int) (n : Int) : List Int := (l.take 12).map (· % n)
theorem wOf_snoc {l : List Int} {i : Nat} {x n : Int} (h : l[i]? = some x) (hi : i < 12) : wOf (l.take (i + 1)) n = wOf (l.take i) n ++ [x % n] := by
  unfold wOf
  obtain ⟨h1, rfl⟩ := List.getElem?_eq_some_iff.1 h
  rw [List.take_take, List.take_take, Nat.min_eq_right (by omega), Nat.min_eq_right (by omega), List.take_add_one, List.getElem?_eq_getElem h1, List.map_append]
  rfl
theorem isEmpty_len {α : Type} (l : List α) : l.isEmpty = (l.length == 0) := by cases l <;> rfl
theorem wOf_is (nl : Bool) (l : List Int) (c : Cp) (n : Int) (hn : 1 ≤ n) (hl : ∀ x ∈ l, 0 ≤ x ∧ x < 256) : PureIs prog 16 [.ag [.sl nl (l.map u8C) c], .sc (.int .i64 n)] (.sl (wOf l n).isEmpty ((wOf l n).map intC) .unk) := by
  refine PureIs.of (nv := 3) (hid := [4, 5, 6, 15]) func16 rfl (by kernel_rfl) (by simp [ntmps16]) fun _ => ?_
  rw [ntmps16, results16]
  refine EvC.seq (EvC.rg (by (simp only [go_sem]) <;> rfl) (by simp) ?_)
  refine EvC.frzB 0 (by (simp only [go_sem]) <;> rfl) ?_
  refine EvC.seq (EvC.rg (by (simp only [go_sem]) <;> rfl) (by simp) ?_)
  refine EvC.seq ?_
  refine EvC.seq (EvC.rg (by (simp only [go_sem]) <;> rfl) (by simp) ?_)
  refine EvC.block ?_  -- 0
  refine EvC.loopS (σ := Nat) (fun i => ⟨[(1, .sc (.int .i64 n)), (2, .ia [.sl nl (l.map u8C) c]), (5, .tl 0 i (i == 0)), (6, .sc (.int .i64 i))], [], [(0, .arr 1 ((wOf (l.take i) n).map intC) true)], 1⟩) (fun i => l.length - i) (fun i => i ≤ l.length ∧ i ≤ 12) [1, 2, 5, 6] 1 ?_ ?_
  · refine ⟨[(2, 0)], 0, rfl, (by simp only [List.take_zero, wOf]; (simp only [go_sem]) <;> rfl), Nat.zero_le _, Nat.zero_le _⟩
  rintro i ⟨h1, h2⟩
  have hlw : (wOf (l.take i) n).length = i := by simp [wOf]; omega
  have hlen : ((wOf (l.take i) n).map intC).length = i := by simp [hlw]
  refine EvC.seq ?_
  apply EvC.seq
  apply EvC.trd
  · (simp only [go_sem]) <;> rfl
  · simp
  refine EvC.cond (by (simp only [go_sem]) <;> rfl) (fun hc => ?_) (fun hc => ?_)
  rotate_left
  · refine EvC.exit ?_  -- 0
    have hi : i = l.length ∨ i = 12 := by
      by_cases h : (i : Int) < l.length
      · simp [h] at hc; omega
      · omega
    have hw : wOf (l.take i) n = wOf l n := by
      unfold wOf
      rcases hi with rfl | rfl
      · rw [List.take_length]
      · rw [List.take_take]; rfl
    have he : (wOf l n).isEmpty = (i == 0) := by
      rw [← hw, isEmpty_len, hlw]
    refine EvC.frz 0 (by (simp only [go_sem, hlen]) <;> rfl) ?_
    refine EvC.seq (EvC.rg (by (simp only [go_sem]) <;> rfl) (by simp) ?_)
    refine EvC.ret ⟨.inl rfl, _, (by (simp only [go_sem]) <;> rfl), ?_, rfl⟩
    simp only [go_sem]
    rw [hw, he]
  have hi : i < l.length ∧ i < 12 := by
    by_cases h : (i : Int) < l.length
    · simp [h] at hc; omega
    · simp [h] at hc
  have he : l[i]? = some l[i] := List.getElem?_eq_getElem hi.1
  have hx := hl _ (List.getElem_mem hi.1)
  generalize l[i] = x at he hx
  refine EvC.skip ?_
  refine EvC.seq ?_
  refine EvC.block ?_  -- 1
  have hI : inI64 x = true := inI64_of (by omega) (by omega)
  refine EvC.rg (by (simp only [go_sem, he, u8C]) <;> rfl) (by simp [room_eq, AV.norefs, AV.noref, hI, hlw, hx.1]; omega) ?_
  refine EvC.rg (by (simp only [go_sem]) <;> rfl) (by exact inI64_of (by omega) (by omega)) ?_
  refine ⟨[(0, 0)], i + 1, rfl, ?_, ⟨by omega, by omega⟩, by omega⟩
  have h0 : (i + 1 == 0) = false := by simp
  (simp only [go_sem, h0, hlw, wOf_snoc he hi.2, intC, List.length_append, List.length_map]) <;> rfl

theorem join_is (na : Bool) (a : List Int) (ca : Cp) (nb : Bool) (b : List Int) (cb : Cp) (ha : a.length < 1000000) (hb : b.length < 1000000) :
    PureIs prog 17 [.sl na (a.map intC) ca, .sl nb (b.map intC) cb] (.sl (a ++ b).isEmpty ((a ++ b).map intC) .unk) := by
  refine PureIs.of (nv := 2) (hid := [4, 5, 6, 7, 11, 24]) func17 rfl (by kernel_rfl) (by simp [ntmps17]) fun _ => ?_
  rw [ntmps17, results17]
  refine EvC.seq (EvC.rg (by (simp only [go_sem]) <;> rfl) (by simp) ?_)
  refine EvC.seq (EvC.rg (by (simp only [go_sem]) <;> rfl) (by simp) ?_)
  refine EvC.seq ?_
  refine EvC.seq (EvC.rg (by (simp only [go_sem]) <;> rfl) (by simp) ?_)
  refine EvC.block ?_  -- 0
  refine EvC.loopS (σ := Nat) (fun i => ⟨[(0, .sl na (a.map intC) ca), (1, .sl nb (b.map intC) cb), (5, .tl 0 i (i == 0)), (6, .sc (.int .i64 i))], [], [(0, .arr 1 ((a.take i).map intC) true)], 1⟩) (fun i => a.length - i) (fun i => i ≤ a.length) [0, 1, 5, 6] 1 ?_ ?_
  · refine ⟨[(1, 0)], 0, rfl, (by simp only [List.take_zero]; (simp only [go_sem]) <;> rfl), Nat.zero_le _⟩
  intro i h1
  have hlen : ((a.take i).map intC).length = i := by simp; omega
  refine EvC.seq ?_
  refine EvC.seq (EvC.rg (by (simp only [go_sem]) <;> rfl) (by simp) ?_)
  refine EvC.cond (by (simp only [go_sem]) <;> rfl) (fun hc => ?_) (fun hc => ?_)
  rotate_left
  · refine EvC.exit ?_  -- 0
    obtain rfl : i = a.length := by have : ¬ i < a.length := by simpa using hc
                                    omega
    rw [List.take_length] at hlen
    simp only [List.take_length]
    refine EvC.seq ?_
    refine EvC.seq (EvC.rg (by (simp only [go_sem]) <;> rfl) (by simp) ?_)
    refine EvC.block ?_  -- 2
    refine EvC.loopS (σ := Nat) (fun i => ⟨[(1, .sl nb (b.map intC) cb), (5, .tl 0 (a.length + i) (a.isEmpty && (i == 0))), (7, .sc (.int .i64 i))], [], [(0, .arr 1 ((a ++ b.take i).map intC) true)], 1⟩) (fun i => b.length - i) (fun i => i ≤ b.length) [1, 5, 7] 1 ?_ ?_
    · have h0 : (a.length == 0) = a.isEmpty := by cases a <;> rfl
      refine ⟨[(0, 0)], 0, rfl, (by simp only [List.take_zero, List.append_nil]; (simp only [go_sem, h0]) <;> rfl), Nat.zero_le _⟩
    intro i h1
    have hlen : ((a ++ b.take i).map intC).length = a.length + i := by simp; omega
    refine EvC.seq ?_
    refine EvC.seq (EvC.rg (by (simp only [go_sem]) <;> rfl) (by simp) ?_)
    refine EvC.cond (by (simp only [go_sem]) <;> rfl) (fun hc => ?_) (fun hc => ?_)
    rotate_left
    · refine EvC.exit ?_  -- 2
      obtain rfl : i = b.length := by have : ¬ i < b.length := by simpa using hc
                                      omega
      rw [List.take_length] at hlen
      simp only [List.take_length]
      refine EvC.frz 0 (by (simp only [go_sem, hlen]) <;> rfl) ?_
      refine EvC.seq (EvC.rg (by (simp only [go_sem]) <;> rfl) (by simp) ?_)
      refine EvC.ret ⟨.inl rfl, _, (by (simp only [go_sem]) <;> rfl), ?_, rfl⟩
      simp only [go_sem]
      congr 1
      cases a <;> cases b <;> simp
    have hi : i < b.length := by simpa using hc
    have he : b[i]? = some b[i] := List.getElem?_eq_getElem hi
    generalize b[i] = x at he
    refine EvC.skip ?_
    refine EvC.seq ?_
    refine EvC.block ?_  -- 3
    have htk : b.take (i + 1) = b.take i ++ [x] := by rw [List.take_add_one, he]; rfl
    refine EvC.rg (by (simp only [go_sem, he, intC]) <;> rfl) (by simp [room_eq, AV.norefs, AV.noref]; omega) ?_
    refine EvC.rg (by (simp only [go_sem]) <;> rfl) (by exact inI64_of (by omega) (by omega)) ?_
    refine ⟨[(0, 0)], i + 1, rfl, ?_, by omega, by omega⟩
    have h0 : (i + 1 == 0) = false := by simp
    have htl : (b.take i).length = i := by simp; omega
    (simp only [go_sem, h0, htk, intC, List.length_append, List.append_assoc, List.length_map, htl, Nat.add_assoc]) <;> rfl
  have hi : i < a.length := by simpa using hc
  have he : a[i]? = some a[i] := List.getElem?_eq_getElem hi
  generalize a[i] = x at he
  refine EvC.skip ?_
  refine EvC.seq ?_
  refine EvC.block ?_  -- 1
  have htk : a.take (i + 1) = a.take i ++ [x] := by rw [List.take_add_one, he]; rfl
  refine EvC.rg (by (simp only [go_sem, he, intC]) <;> rfl) (by simp [room_eq, AV.norefs, AV.noref, hlen]; omega) ?_
  refine EvC.rg (by (simp only [go_sem]) <;> rfl) (by exact inI64_of (by omega) (by omega)) ?_
  refine ⟨[(0, 0)], i + 1, rfl, ?_, by omega, by omega⟩
  have h0 : (i + 1 == 0) = false := by simp
  have htl : (a.take i).length = i := by simp; omega
  (simp only [go_sem, h0, htk, intC, List.length_append, List.length_map, htl]) <;> rfl

theorem edge_is (a b : Int) : PureIs prog 29 [.sc (.int .i64 a), .sc (.int .i64 b)] (.ag [.sc (.int .i64 a), .sc (.int .i64 b)]) := by
  refine PureIs.of (nv := 2) (hid := [4]) func29 rfl (by kernel_rfl) (by simp [ntmps29]) fun _ => ?_
  rw [ntmps29, results29]
  refine EvC.seq (EvC.rg (by (simp only [go_sem]) <;> rfl) (by simp) ?_)
  refine EvC.seq (EvC.rg (by (simp only [go_sem]) <;> rfl) (by simp) ?_)
  refine EvC.ret ⟨.inl rfl, _, (by (simp only [go_sem]) <;> rfl), ?_, rfl⟩
  simp only [go_sem]
theorem check28_is (nl : Bool) (w : List Int) (c : Cp) (n : Int) (hl : w.length < 1000000) : PureIs prog 28 [.sl nl (w.map intC) c, .sc (.int .i64 n)] (.sc (.int .i64 (wordErr n w))) := by
  refine PureIs.of (nv := 2) (hid := [4, 5, 12, 14, 18, 33]) func28 rfl (by kernel_rfl) (by simp [ntmps28]) fun _ => ?_
  rw [ntmps28, results28]
  refine EvC.seq (EvC.rg (by (simp only [go_sem]) <;> rfl) (by simp) ?_)
  refine EvC.seq ?_
  apply EvC.seq
  apply EvC.trd
  · (simp only [go_sem]) <;> rfl
  · simp
  refine EvC.cond (by (simp only [go_sem]) <;> rfl) (fun hc => ?_) (fun hc => ?_)
  · have h : 16 < n ∨ 256 < w.length := by by_cases h1 : 16 < n <;> simp_all; omega
    refine EvC.seq (EvC.rg (by (simp only [go_sem]) <;> rfl) (by simp) ?_)
    refine EvC.ret ⟨.inl rfl, _, (by (simp only [go_sem]) <;> rfl), ?_, rfl⟩
    simp only [go_sem]
    rw [wordErr, if_pos h]
  have hn : ¬ (16 < n ∨ 256 < w.length) := by by_cases h1 : 16 < n <;> simp_all; omega
  refine EvC.skip ?_
  refine EvC.seq ?_
  refine EvC.seq (EvC.rg (by (simp only [go_sem]) <;> rfl) (by simp) ?_)
  refine EvC.cond (by (simp only [go_sem]) <;> rfl) (fun hc => ?_) (fun hc => ?_)
  · refine EvC.seq (EvC.rg (by (simp only [go_sem]) <;> rfl) (by simp) ?_)
    refine EvC.ret ⟨.inl rfl, _, (by (simp only [go_sem]) <;> rfl), ?_, rfl⟩
    simp only [go_sem]
    rw [wordErr, if_neg hn, if_pos (.inl (by simpa using hc))]
  have h1 : ¬ n < 1 := by simpa using hc
  clear hc
  have hw : wordErr n w = if w.any (fun c => decide (c < 0) || decide (n ≤ c)) = true then 1 else 0 := by
    rw [wordErr, if_neg hn]; simp [h1]
  refine EvC.skip ?_
  refine EvC.seq ?_
  refine EvC.seq (EvC.rg (by (simp only [go_sem]) <;> rfl) (by simp) ?_)
  refine EvC.block ?_  -- 0
  refine EvC.loopS (σ := Nat) (fun i => ⟨[(0, .sl nl (w.map intC) c), (1, .sc (.int .i64 n)), (5, .sc (.int .i64 i))], [], [], 0⟩) (fun i => w.length - i) (fun i => i ≤ w.length ∧ w.any (fun c => decide (c < 0) || decide (n ≤ c)) = (w.drop i).any (fun c => decide (c < 0) || decide (n ≤ c))) [0, 1, 5] 0 ?_ ?_
  · refine ⟨[], 0, rfl, (by (simp only [go_sem]) <;> rfl), Nat.zero_le _, by simp⟩
  rintro i ⟨h2, h3⟩
  refine EvC.seq ?_
  refine EvC.seq (EvC.rg (by (simp only [go_sem]) <;> rfl) (by simp) ?_)
  refine EvC.cond (by (simp only [go_sem]) <;> rfl) (fun hc => ?_) (fun hc => ?_)
  rotate_left
  · refine EvC.exit ?_  -- 0
    have hi : ¬ i < w.length := by simpa using hc
    refine EvC.seq (EvC.rg (by (simp only [go_sem]) <;> rfl) (by simp) ?_)
    refine EvC.ret ⟨.inl rfl, _, (by (simp only [go_sem]) <;> rfl), ?_, rfl⟩
    simp only [go_sem]
    rw [hw, h3, List.drop_of_length_le (by omega)]; rfl
  have hi : i < w.length := by simpa using hc
  have he : w[i]? = some w[i] := List.getElem?_eq_getElem hi
  have hd : w.drop i = w[i] :: w.drop (i + 1) := List.drop_eq_getElem_cons hi
  generalize w[i] = x at he hd
  rw [hd, List.any_cons] at h3
  refine EvC.skip ?_
  refine EvC.seq ?_
  refine EvC.block ?_  -- 1
  apply EvC.seq
  apply EvC.trd
  · (simp only [go_sem, he, intC]) <;> rfl
  · simp
  refine EvC.cond (by (simp only [go_sem]) <;> rfl) (fun hc => ?_) (fun hc => ?_)
  · have hb : (decide (x < 0) || decide (n ≤ x)) = true := by by_cases h : x < 0 <;> simp_all
    refine EvC.seq (EvC.rg (by (simp only [go_sem]) <;> rfl) (by simp) ?_)
    refine EvC.ret ⟨.inl rfl, _, (by (simp only [go_sem]) <;> rfl), ?_, rfl⟩
    simp only [go_sem]
    rw [hw, h3, hb]; rfl
  have hb : (decide (x < 0) || decide (n ≤ x)) = false := by by_cases h : x < 0 <;> simp_all
  refine EvC.skip ?_
  refine EvC.rg (by (simp only [go_sem]) <;> rfl) (by exact inI64_of (by omega) (by omega)) ?_
  refine ⟨[], i + 1, rfl, (by (simp only [go_sem]) <;> rfl), ⟨by omega, by rw [h3, hb]; rfl⟩, by omega⟩
end Go.Avl
namespace Go.Avl
open Go Go.Proofs.Try
set_option maxRecDepth 10000
set_option linter.unusedSimpArgs false

theorem check27_is (m : Mach) (hr : ∀ r ∈ m.rows, r.2.length < 1000000) : PureIs prog 27 [.ag m.cells] (.sc (.int .i64 (checkM m))) := by
  refine PureIs.of (nv := 6) (hid := [19, 33, 38, 49, 53, 71, 94]) func27 rfl (by kernel_rfl) (by simp [ntmps27]) fun _ => ?_
  rw [ntmps27, results27]
  refine EvC.seq (EvC.rg (by (simp only [go_sem, Mach.cells]) <;> rfl) (by simp) ?_)
  refine EvC.frzB 0 (by (simp only [go_sem]) <;> rfl) ?_
  refine EvC.seq ?_
  apply EvC.seq
  apply EvC.trd
  · (simp only [go_sem]) <;> rfl
  · simp
  refine EvC.cond (by (simp only [go_sem]) <;> rfl) (fun hc => ?_) (fun hc => ?_)
  · have h : 16 < m.ins ∨ 16 < m.outs ∨ 64 < (m.rows.length : Int) := by
      by_cases h1 : 16 < m.ins <;> by_cases h2 : 16 < m.outs <;> simp_all
    refine EvC.seq (EvC.rg (by (simp only [go_sem]) <;> rfl) (by simp) ?_)
    refine EvC.ret ⟨.inl rfl, _, (by (simp only [go_sem]) <;> rfl), ?_, rfl⟩
    simp only [go_sem]
    rw [checkM, if_pos h]
  have hn : ¬ (16 < m.ins ∨ 16 < m.outs ∨ 64 < (m.rows.length : Int)) := by
    by_cases h1 : 16 < m.ins <;> by_cases h2 : 16 < m.outs <;> simp_all
  clear hc
  refine EvC.skip ?_
  refine EvC.seq ?_
  apply EvC.seq
  apply EvC.trd
  · (simp only [go_sem]) <;> rfl
  · simp
  refine EvC.cond (by (simp only [go_sem]) <;> rfl) (fun hc => ?_) (fun hc => ?_)
  · have h : m.ins < 1 ∨ m.outs < 1 ∨ (m.rows.length : Int) < 1 := by
      by_cases h1 : m.ins < 1 <;> by_cases h2 : m.outs < 1 <;> simp_all
    refine EvC.seq (EvC.rg (by (simp only [go_sem]) <;> rfl) (by simp) ?_)
    refine EvC.ret ⟨.inl rfl, _, (by (simp only [go_sem]) <;> rfl), ?_, rfl⟩
    simp only [go_sem]
    rw [checkM, if_neg hn, if_pos h]
  have hn2 : ¬ (m.ins < 1 ∨ m.outs < 1 ∨ (m.rows.length : Int) < 1) := by
    by_cases h1 : m.ins < 1 <;> by_cases h2 : m.outs < 1 <;> simp_all
    have : m.rows.length ≠ 0 := by simpa using hc
    omega
  clear hc
  have hw : checkM m = if m.rows.all (rowOk m) = true then 0 else 1 := by rw [checkM, if_neg hn, if_neg hn2]
  have hlen : (m.rows.length : Int) ≤ 64 := by omega
  refine EvC.skip ?_
  refine EvC.seq ?_
  refine EvC.seq (EvC.rg (by (simp only [go_sem]) <;> rfl) (by simp) ?_)
  refine EvC.block ?_  -- 0
  refine EvC.loopS (σ := Nat) (fun i => ⟨[(1, .ia m.cells), (3, .sc (.int .i64 i))], [], [], 0⟩) (fun i => m.rows.length - i) (fun i => i ≤ m.rows.length ∧ m.rows.all (rowOk m) = (m.rows.drop i).all (rowOk m)) [1, 3] 0 ?_ ?_
  · refine ⟨[], 0, rfl, (by (simp only [go_sem, Mach.cells]) <;> rfl), Nat.zero_le _, by simp⟩
  rintro i ⟨h1, h2⟩
  refine EvC.seq ?_
  refine EvC.seq (EvC.rg (by (simp only [go_sem, Mach.cells]) <;> rfl) (by simp) ?_)
  refine EvC.cond (by (simp only [go_sem]) <;> rfl) (fun hc => ?_) (fun hc => ?_)
  rotate_left
  · refine EvC.exit ?_  -- 0
    have hi : ¬ i < m.rows.length := by simpa using hc
    refine EvC.seq (EvC.rg (by (simp only [go_sem]) <;> rfl) (by simp) ?_)
    refine EvC.ret ⟨.inl rfl, _, (by (simp only [go_sem]) <;> rfl), ?_, rfl⟩
    simp only [go_sem]
    rw [hw, h2, List.drop_of_length_le (by omega)]; rfl
  have hi : i < m.rows.length := by simpa using hc
  have he : m.rows[i]? = some m.rows[i] := List.getElem?_eq_getElem hi
  have hd : m.rows.drop i = m.rows[i] :: m.rows.drop (i + 1) := List.drop_eq_getElem_cons hi
  generalize m.rows[i] = r at he hd
  rw [hd, List.all_cons] at h2
  refine EvC.skip ?_
  refine EvC.seq ?_
  refine EvC.block ?_  -- 1
  refine EvC.seq ?_
  apply EvC.seq
  apply EvC.drd mixed
  · (simp only [go_sem, Mach.cells, he, rowC]) <;> rfl
  · simp
  · kernel_rfl
  refine EvC.cond (by (simp only [go_sem]) <;> rfl) (fun hc => ?_) (fun hc => ?_)
  · have hl : ¬ (r.2.length : Int) = m.ins := by simpa using hc
    refine EvC.seq (EvC.rg (by (simp only [go_sem]) <;> rfl) (by simp) ?_)
    refine EvC.ret ⟨.inl rfl, _, (by (simp only [go_sem]) <;> rfl), ?_, rfl⟩
    simp only [go_sem]
    have : rowOk m r = false := by simp [rowOk, hl]
    rw [hw, h2, this]; rfl
  have hl : (r.2.length : Int) = m.ins := by simpa using hc
  have hro : rowOk m r = r.2.all fun e => fitsR m.rows.length m.outs e.1 e.2 := by simp [rowOk, hl, List.any_eq_not_all_not]
  refine EvC.skip ?_
  refine EvC.seq (EvC.rg (by (simp only [go_sem]) <;> rfl) (by simp) ?_)
  refine EvC.block ?_  -- 2
  refine EvC.loopS (σ := Nat) (fun k => ⟨[(1, .ia m.cells), (3, .sc (.int .i64 i)), (4, .sc (.int .i64 k))], [], [], 0⟩) (fun k => r.2.length - k) (fun k => k ≤ r.2.length ∧ rowOk m r = (r.2.drop k).all fun e => fitsR m.rows.length m.outs e.1 e.2) [1, 3, 4] 0 ?_ ?_
  · refine ⟨[], 0, rfl, (by (simp only [go_sem, Mach.cells]) <;> rfl), Nat.zero_le _, by simp [hro]⟩
  rintro k ⟨k1, k2⟩
  refine EvC.seq ?_
  refine EvC.seq (EvC.rg (by (simp only [go_sem, Mach.cells]) <;> rfl) (by simp) ?_)
  refine EvC.cond (by (simp only [go_sem]) <;> rfl) (fun hc => ?_) (fun hc => ?_)
  rotate_left
  · refine EvC.exit ?_  -- 2
    have hk : ¬ k < r.2.length := by
      have : ¬ (k : Int) < m.ins := by simpa using hc
      omega
    rw [List.drop_of_length_le (by omega)] at k2
    refine EvC.rg (by (simp only [go_sem]) <;> rfl) (by exact inI64_of (by omega) (by omega)) ?_
    exact ⟨[], i + 1, rfl, (by (simp only [go_sem, Mach.cells]) <;> rfl), ⟨by omega, by rw [h2, k2]; rfl⟩, by omega⟩
  have hk : k < r.2.length := by
    have : (k : Int) < m.ins := by simpa using hc
    omega
  have hke : r.2[k]? = some r.2[k] := List.getElem?_eq_getElem hk
  have hkd : r.2.drop k = r.2[k] :: r.2.drop (k + 1) := List.drop_eq_getElem_cons hk
  generalize r.2[k] = e at hke hkd
  rw [hkd, List.all_cons] at k2
  refine EvC.skip ?_
  refine EvC.seq ?_
  refine EvC.block ?_  -- 3
  refine EvC.seq (EvC.rg (by (simp only [go_sem, Mach.cells, he, rowC, hke, edgeC]) <;> rfl) (by simp) ?_)
  refine EvC.seq ?_
  apply EvC.seq
  apply EvC.trd
  · (simp only [go_sem]) <;> rfl
  · simp
  refine EvC.cond (by (simp only [go_sem]) <;> rfl) (fun hc => ?_) (fun hc => ?_)
  · refine EvC.exit ?_  -- 3
    have hu : e.1 = -1 ∧ e.2 = -1 := by by_cases h : e.1 = -1 <;> simp_all
    have hf : fitsR m.rows.length m.outs e.1 e.2 = true := by simp [fitsR, hu.1, hu.2]
    refine EvC.rg (by (simp only [go_sem]) <;> rfl) (by exact inI64_of (by omega) (by omega)) ?_
    exact ⟨[], k + 1, rfl, (by (simp only [go_sem, Mach.cells]) <;> rfl), ⟨by omega, by rw [k2, hf]; rfl⟩, by omega⟩
  have hu : ¬ (e.1 = -1 ∧ e.2 = -1) := by by_cases h : e.1 = -1 <;> simp_all
  clear hc
  refine EvC.skip ?_
  apply EvC.seq
  apply EvC.trd
  · (simp only [go_sem, Mach.cells]) <;> rfl
  · simp
  have hfe : fitsR m.rows.length m.outs e.1 e.2 = (decide (0 ≤ e.1) && decide (e.1 < m.rows.length) && decide (0 ≤ e.2) && decide (e.2 < m.outs)) := by
    unfold fitsR
    by_cases h : e.1 = -1
    · have : ¬ e.2 = -1 := fun h2 => hu ⟨h, h2⟩
      simp [this]
    · simp [h]
  refine EvC.cond (by (simp only [go_sem]) <;> rfl) (fun hc => ?_) (fun hc => ?_)
  · have hf : fitsR m.rows.length m.outs e.1 e.2 = false := by
      rw [hfe]
      by_cases h1 : e.1 < 0 <;> by_cases h2 : (m.rows.length : Int) ≤ e.1 <;> by_cases h3 : e.2 < 0 <;> by_cases h4 : m.outs ≤ e.2 <;> simp_all <;> omega
    refine EvC.seq (EvC.rg (by (simp only [go_sem]) <;> rfl) (by simp) ?_)
    refine EvC.ret ⟨.inl rfl, _, (by (simp only [go_sem]) <;> rfl), ?_, rfl⟩
    simp only [go_sem]
    rw [hw, h2, k2, hf]; rfl
  have hf : fitsR m.rows.length m.outs e.1 e.2 = true := by
    rw [hfe]
    by_cases h1 : e.1 < 0 <;> by_cases h2 : (m.rows.length : Int) ≤ e.1 <;> by_cases h3 : e.2 < 0 <;> by_cases h4 : m.outs ≤ e.2 <;> simp_all <;> omega
  refine EvC.skip ?_
  refine EvC.rg (by (simp only [go_sem]) <;> rfl) (by exact inI64_of (by omega) (by omega)) ?_
  exact ⟨[], k + 1, rfl, (by (simp only [go_sem, Mach.cells]) <;> rfl), ⟨by omega, by rw [k2, hf]; rfl⟩, by omega⟩
end Go.Avl
namespace Go.Avl
open Go Go.Proofs.Try
set_option maxRecDepth 10000
set_option linter.unusedSimpArgs false

/-- The next word: the last symbol is counted on; true: all were the greatest. -/
def incrW (k : Int) : List Int → List Int × Bool
  | [] => ([], true)
  | x :: xs => if (incrW k xs).2 = true then (if x + 1 < k then ((x + 1) :: (incrW k xs).1, false) else (0 :: (incrW k xs).1, true)) else (x :: (incrW k xs).1, false)
def nextW (k : Int) (w : List Int) : List Int := if (incrW k w).2 = true then (incrW k w).1 ++ [0] else (incrW k w).1
theorem incrW_app {k : Int} : ∀ {a b : List Int}, (incrW k b).2 = false → incrW k (a ++ b) = (a ++ (incrW k b).1, false)
  | [], b, h => by simp [← h]
  | x :: a, b, h => by
    have := incrW_app (a := a) h
    simp only [List.cons_append, incrW, this]
    rfl
theorem set_mid {α : Type} (a b : List α) (x y : α) : (a ++ x :: b).set a.length y = a ++ y :: b := by simp
theorem next_is (nl : Bool) (w : List Int) (c : Cp) (k : Int) (hl : w.length < 1000000) (hw : ∀ x ∈ w, 0 ≤ x ∧ x < 1000000) : PureIs prog 34 [.sl nl (w.map intC) c, .sc (.int .i64 k)] (.sl false ((nextW k w).map intC) .unk) := by
  refine PureIs.of (nv := 2) (hid := [4, 5, 6, 14, 23]) func34 rfl (by kernel_rfl) (by simp [ntmps34]) fun _ => ?_
  rw [ntmps34, results34]
  refine EvC.seq (EvC.rg (by (simp only [go_sem]) <;> rfl) (by simp) ?_)
  refine EvC.seq (EvC.rg (by (simp only [go_sem]) <;> rfl) (by simp [room_eq, intC]; omega) ?_)
  refine EvC.seq ?_
  refine EvC.seq (EvC.rg (by (simp only [go_sem]) <;> rfl) (by exact inI64_of (by omega) (by omega)) ?_)
  refine EvC.block ?_  -- 0
  refine EvC.loopS (σ := Nat × List Int) (fun g => ⟨[(1, .sc (.int .i64 k)), (5, .tl 0 w.length false), (6, .sc (.int .i64 ((g.1 : Int) - 1)))], [], [(0, .arr 1 (g.2.map intC) false)], 1⟩) (fun g => g.1)
    (fun g => g.1 ≤ w.length ∧ g.2 = w.take g.1 ++ List.replicate (w.length - g.1) 0 ∧ incrW k (w.drop g.1) = (List.replicate (w.length - g.1) 0, true)) [1, 5, 6] 1 ?_ ?_
  · refine ⟨[(3, 0)], (w.length, w), rfl, (by (simp only [go_sem]) <;> rfl), Nat.le_refl _, by simp, by simp [incrW]⟩
  rintro ⟨j, out⟩ ⟨h1, ho, h2⟩
  simp only at h1 ho h2
  have hlen : out.length = w.length := by rw [ho]; simp; omega
  refine EvC.seq ?_
  refine EvC.seq (EvC.rg (by (simp only [go_sem]) <;> rfl) (by simp) ?_)
  refine EvC.cond (by (simp only [go_sem]) <;> rfl) (fun hc => ?_) (fun hc => ?_)
  rotate_left
  · refine EvC.exit ?_  -- 0
    obtain rfl : j = 0 := by have : ¬ (0 : Int) ≤ (j : Int) - 1 := by simpa using hc
                             omega
    simp only [List.drop_zero, Nat.sub_zero] at h2
    refine EvC.seq (EvC.rg (by (simp only [go_sem]) <;> rfl) (by simp [room_eq, AV.norefs, AV.noref, hlen]; omega) ?_)
    refine EvC.frz 0 (by (simp only [go_sem, hlen, List.length_map]) <;> rfl) ?_
    refine EvC.ret ⟨.inl rfl, _, (by (simp only [go_sem]) <;> rfl), ?_, rfl⟩
    simp only [go_sem]
    rw [nextW, h2, ho]
    simp [intC]
  have hj : 0 < j := by have : (0 : Int) ≤ (j : Int) - 1 := by simpa using hc
                        omega
  clear hc
  obtain ⟨m, rfl⟩ : ∃ m, j = m + 1 := ⟨j - 1, by omega⟩
  generalize hz : (((m + 1 : Nat) : Int) - 1) = z
  have hzm : z.toNat = m := by omega
  have hz0 : 0 ≤ z := by omega
  have he : w[m]? = some w[m] := List.getElem?_eq_getElem (by omega)
  have hx := hw _ (List.getElem_mem (show m < w.length by omega))
  have htk : w.take (m + 1) = w.take m ++ [w[m]] := by rw [List.take_add_one, he]; rfl
  have hdr : w.drop m = w[m] :: w.drop (m + 1) := List.drop_eq_getElem_cons (by omega)
  generalize w[m] = x at he hx htk hdr
  have hget : out[m]? = some x := by
    rw [ho, List.getElem?_append_left (by simp; omega), List.getElem?_take, if_pos (by omega), he]
  have hset' : ∀ y : Int, out.set m y = w.take m ++ y :: List.replicate (w.length - (m + 1)) 0 := fun y => by
    rw [ho, htk, List.append_assoc]
    have := set_mid (w.take m) (List.replicate (w.length - (m + 1)) 0) x y
    rw [List.length_take, Nat.min_eq_left (by omega)] at this
    exact this
  have hset : ∀ y : Int, (out.map intC).set m [.sc (.int .i64 y)] = (out.set m y).map intC := fun y => by
    rw [show [AV.sc (.int .i64 y)] = intC y from rfl, ← List.map_set]
  have hI : inI64 (x + 1) = true := inI64_of (by omega) (by omega)
  refine EvC.skip ?_
  refine EvC.seq ?_
  refine EvC.block ?_  -- 1
  refine EvC.seq ?_
  refine EvC.seq (EvC.rg (by (simp only [go_sem, hzm, hget, intC]) <;> rfl) (by simp [hz0, hlen, hI]; omega) ?_)
  refine EvC.cond (by (simp only [go_sem]) <;> rfl) (fun hc => ?_) (fun hc => ?_)
  · have hc : x + 1 < k := by simpa using hc
    refine EvC.seq (EvC.rg (by (simp only [go_sem, hzm, hget, intC, hset]) <;> rfl) (by simp [hz0, hlen, hI]; omega) ?_)
    have hl2 : (out.set m (x + 1)).length = w.length := by simp; omega
    refine EvC.frz 0 (by (simp only [go_sem, hl2, List.length_map]) <;> rfl) ?_
    refine EvC.seq (EvC.rg (by (simp only [go_sem]) <;> rfl) (by simp) ?_)
    refine EvC.ret ⟨.inl rfl, _, (by (simp only [go_sem]) <;> rfl), ?_, rfl⟩
    simp only [go_sem]
    have hi : incrW k (w.drop m) = ((x + 1) :: List.replicate (w.length - (m + 1)) 0, false) := by
      rw [hdr, incrW, h2]; simp [hc]
    have := incrW_app (a := w.take m) (b := w.drop m) (k := k) (by rw [hi])
    rw [List.take_append_drop, hi] at this
    rw [nextW, this, hset']; rfl
  have hc : ¬ x + 1 < k := by simpa using hc
  refine EvC.skip ?_
  refine EvC.rg (by (simp only [go_sem, hzm, hget, intC, hset]) <;> rfl) (by simp [hz0, hlen]; omega) ?_
  refine EvC.rg (by (simp only [go_sem]) <;> rfl) (by exact inI64_of (by omega) (by omega)) ?_
  have hr : w.length - m = (w.length - (m + 1)) + 1 := by omega
  have hz1 : z - 1 = (m : Int) - 1 := by omega
  refine ⟨[(0, 0)], (m, out.set m 0), rfl, (by (simp only [go_sem, hz1]) <;> rfl), ⟨by simp only; omega, ?_, ?_⟩, by simp only; omega⟩
  · simp only; rw [hset', hr, List.replicate_succ]
  · simp only; rw [hdr, incrW, h2, hr, List.replicate_succ]; simp [hc]

theorem splits_is {m : Mach} (hv : Valid m) (s t : Int) (hs : s < m.rows.length) (ht : t < m.rows.length) (nl : Bool) (w : List Int) (c : Cp) (hw : ∀ a ∈ w, 0 ≤ a ∧ a < m.ins) (hl : w.length < 1000000) :
    PureIs prog 19 [.ag m.cells, .sl nl (w.map intC) c, .sc (.int .i64 s), .sc (.int .i64 t)] (.sc (.int .i64 (if runR m s w = runR m t w then 0 else 1))) := by
  have hlen : ∀ s, (runR m s w).length = w.length := fun s => by
    induction w generalizing s with
    | nil => rfl
    | cons a w ih => simp only [runR, List.length_cons]; rw [ih (fun a h => hw a (List.mem_cons_of_mem _ h)) (by simp at hl; omega)]
  refine PureIs.of (nv := 5) (hid := [8, 17]) func19 rfl (by kernel_rfl) (by simp [ntmps19]) fun _ => ?_
  rw [ntmps19, results19]
  refine EvC.seq (EvC.rg (by (simp only [go_sem, Mach.cells]) <;> rfl) (by simp) ?_)
  refine EvC.frzB 0 (by (simp only [go_sem]) <;> rfl) ?_
  refine EvC.seq ?_
  apply EvC.seq
  apply EvC.drw mixed
  · apply Tr.run
    · (simp only [go_sem, Mach.cells]) <;> rfl
    · simp
    apply Tr.cons
    · exact .call rfl rfl (by (simp only [go_sem]) <;> rfl) (by (simp only [go_sem]) <;> rfl) (by (simp only [go_sem]) <;> rfl) (by (simp only [go_sem]) <;> rfl) (by (simp only [go_sem]) <;> rfl) (run04_is hv s hs nl w c hw hl)
    apply Tr.run
    · (simp only [go_sem, Mach.cells]) <;> rfl
    · simp
    apply Tr.cons
    · exact .call rfl rfl (by (simp only [go_sem]) <;> rfl) (by (simp only [go_sem]) <;> rfl) (by (simp only [go_sem]) <;> rfl) (by (simp only [go_sem]) <;> rfl) (by (simp only [go_sem]) <;> rfl) (run04_is hv t ht nl w c hw hl)
    apply Tr.run
    · (simp only [go_sem, Mach.cells]) <;> rfl
    · simp
    apply Tr.cons
    · exact .call rfl rfl (by (simp only [go_sem]) <;> rfl) (by (simp only [go_sem]) <;> rfl) (by (simp only [go_sem]) <;> rfl) (by (simp only [go_sem]) <;> rfl) (by (simp only [go_sem]) <;> rfl) (same_is _ (runR m s w) .unk _ (runR m t w) .unk (by rw [hlen]; exact hl))
    apply Tr.done
    · (simp only [go_sem]) <;> rfl
    · simp
  · kernel_rfl
  refine EvC.cond (by (simp only [go_sem]) <;> rfl) (fun hc => ?_) (fun hc => ?_)
  · have hc : runR m s w = runR m t w := by simpa using hc
    refine EvC.seq (EvC.rg (by (simp only [go_sem]) <;> rfl) (by simp) ?_)
    refine EvC.ret ⟨.inl rfl, _, (by (simp only [go_sem]) <;> rfl), ?_, rfl⟩
    simp only [go_sem]
    rw [if_pos hc]
  have hc : ¬ runR m s w = runR m t w := by simpa using hc
  refine EvC.skip ?_
  refine EvC.seq (EvC.rg (by (simp only [go_sem]) <;> rfl) (by simp) ?_)
  refine EvC.ret ⟨.inl rfl, _, (by (simp only [go_sem]) <;> rfl), ?_, rfl⟩
  simp only [go_sem]
  rw [if_neg hc]

def afterR (m : Mach) : Int → List Int → Int
  | s, [] => s
  | s, a :: w => afterR m (stepR m s a).1 w
theorem run58_is {m : Mach} (hv : Valid m) (s : Int) (hs : s < m.rows.length) (hs0 : -1 ≤ s) (nl : Bool) (w : List Int) (c : Cp) (hw : ∀ a ∈ w, 0 ≤ a ∧ a < m.ins) (hl : w.length < 1000000) :
    PureIs prog 58 [.ag m.cells, .sc (.int .i64 s), .sl nl (w.map intC) c] (.tu [.sl false ((runR m s w).map intC) .unk, .sc (.int .i64 (afterR m s w))]) := by
  refine PureIs.of (nv := 4) (hid := [6, 7, 8, 9, 10, 11, 15, 16, 17, 18, 24]) func58 rfl (by kernel_rfl) (by simp [ntmps58]) fun _ => ?_
  rw [ntmps58, results58]
  refine EvC.seq (EvC.rg (by (simp only [go_sem, Mach.cells]) <;> rfl) (by simp) ?_)
  refine EvC.frzB 0 (by (simp only [go_sem]) <;> rfl) ?_
  refine EvC.seq (EvC.rg (by (simp only [go_sem]) <;> rfl) (by simp [room_eq]; omega) ?_)
  refine EvC.seq ?_
  refine EvC.seq (EvC.rg (by (simp only [go_sem]) <;> rfl) (by simp) ?_)
  refine EvC.block ?_  -- 0
  have hz : ∀ n : Nat, List.replicate n [AV.sc (.int .i64 0)] = (List.replicate n (0 : Int)).map intC := fun n => by simp [intC]
  refine EvC.loopS (σ := Nat × Int × List Int × List Int) (fun g => ⟨[(1, .sc (.int .i64 g.2.1)), (3, .ia m.cells), (8, .tl 0 w.length false), (15, .sl nl (w.map intC) c), (16, .sc (.int .i64 w.length)), (17, .sc (.int .i64 g.1))], [], [(0, .arr 1 (g.2.2.2.map intC) false)], 1⟩) (fun g => w.length - g.1)
    (fun g => g.1 ≤ w.length ∧ g.2.2.1.length = g.1 ∧ g.2.1 < m.rows.length ∧ -1 ≤ g.2.1 ∧ runR m s w = g.2.2.1 ++ runR m g.2.1 (w.drop g.1) ∧ afterR m s w = afterR m g.2.1 (w.drop g.1) ∧ g.2.2.2 = g.2.2.1 ++ List.replicate (w.length - g.1) 0) [1, 3, 8, 15, 16, 17] 1 ?_ ?_
  · refine ⟨[(5, 0)], (0, s, [], List.replicate w.length 0), rfl, (by (simp only [go_sem, Mach.cells, hz, Int.toNat_natCast]) <;> rfl), Nat.zero_le _, rfl, hs, hs0, rfl, rfl, by simp⟩
  rintro ⟨i, t, os, out⟩ ⟨h1, h2, h3, h4, h5, h6, ho⟩
  simp only at h1 h2 h3 h4 h5 h6 ho
  have hlen : out.length = w.length := by rw [ho]; simp; omega
  refine EvC.seq (EvC.rg (by (simp only [go_sem]) <;> rfl) (by simp) ?_)
  refine EvC.seq ?_
  refine EvC.cond (by (simp only [go_sem]) <;> rfl) (fun hc => ?_) (fun hc => ?_)
  rotate_left
  · refine EvC.exit ?_  -- 0
    obtain rfl : i = w.length := by have : ¬ i < w.length := by simpa using hc
                                    omega
    rw [List.drop_length] at h5 h6
    refine EvC.frz 0 (by (simp only [go_sem, hlen, List.length_map]) <;> rfl) ?_
    refine EvC.seq (EvC.rg (by (simp only [go_sem]) <;> rfl) (by simp) ?_)
    refine EvC.ret ⟨.inl rfl, _, (by (simp only [go_sem]) <;> rfl), ?_, rfl⟩
    simp only [go_sem]
    rw [h5, h6, ho]
    simp [runR, afterR]
  have hi : i < w.length := by simpa using hc
  have he : w[i]? = some w[i] := List.getElem?_eq_getElem hi
  have hd : w.drop i = w[i] :: w.drop (i + 1) := List.drop_eq_getElem_cons hi
  have ha := hw _ (List.getElem_mem hi)
  generalize w[i] = a at he hd ha
  rw [hd, runR] at h5
  rw [hd, afterR] at h6
  refine EvC.skip ?_
  refine EvC.seq ?_
  refine EvC.block ?_  -- 1
  refine EvC.seq (EvC.rg (by (simp only [go_sem, he, intC]) <;> rfl) (by simp) ?_)
  apply EvC.seq
  apply EvC.tr
  · apply Tr.run
    · (simp only [go_sem]) <;> rfl
    · simp
    apply Tr.cons
    · exact .call rfl rfl (by (simp only [go_sem]) <;> rfl) (by (simp only [go_sem]) <;> rfl) (by (simp only [go_sem]) <;> rfl) (by (simp only [go_sem]) <;> rfl) (by (simp only [go_sem]) <;> rfl) (none_is)
    apply Tr.done
    · (simp only [go_sem]) <;> rfl
    · simp
  refine EvC.seq ?_
  refine EvC.seq (EvC.rg (by (simp only [go_sem]) <;> rfl) (by simp) ?_)
  have hr : w.length - i = (w.length - (i + 1)) + 1 := by omega
  have hset' : ∀ y : Int, out.set i y = (os ++ [y]) ++ List.replicate (w.length - (i + 1)) 0 := fun y => by
    rw [ho, hr, List.replicate_succ, ← h2, set_mid]
    simp
  have hset : ∀ y : Int, (out.map intC).set i [.sc (.int .i64 y)] = (out.set i y).map intC := fun y => by
    rw [show [AV.sc (.int .i64 y)] = intC y from rfl, ← List.map_set]
  have hge : out[i]? = some 0 := by
    rw [ho, List.getElem?_append_right (by omega), hr, h2]; simp
  have hlt := stepR_lt hv h3 ha
  have hge1 : -1 ≤ (stepR m t a).1 := by
    by_cases h0 : 0 ≤ t
    · obtain ⟨r, e, _, _, k3, k4⟩ := stepR_get hv h0 h3 ha
      rw [k3]; unfold fitsR at k4; simp at k4; omega
    · rw [stepR, if_pos (by omega)]; simp
  refine EvC.cond (by (simp only [go_sem]) <;> rfl) (fun hc => ?_) (fun hc => ?_)
  · have hc : ¬ t = -1 := by simpa using hc
    obtain ⟨r, e, k1, k2, k3, k4⟩ := stepR_get hv (show 0 ≤ t by omega) h3 ha
    have htl : t.toNat < m.rows.length := by omega
    refine EvC.rg (by (simp only [go_sem, Mach.cells, k1, rowC, k2, edgeC]) <;> rfl) (by simp; omega) ?_
    apply EvC.drd mixed
    · (simp only [go_sem, hset, hge, intC]) <;> rfl
    · simp [hlen]; omega
    · kernel_rfl
    refine EvC.rg (by (simp only [go_sem]) <;> rfl) (by exact inI64_of (by omega) (by omega)) ?_
    rw [k3] at h5 h6 hlt hge1
    refine ⟨[(0, 0)], (i + 1, e.1, os ++ [e.2], out.set i e.2), rfl, (by (simp only [go_sem, Mach.cells]) <;> rfl), ⟨by simp only; omega, by simp [h2], hlt, hge1, ?_, h6, hset' _⟩, by simp only; omega⟩
    simp only [h5, List.append_assoc]; rfl
  have hc : t = -1 := by simpa using hc
  refine EvC.skip ?_
  apply EvC.drd mixed
  · (simp only [go_sem, hset, hge, intC]) <;> rfl
  · simp [hlen]; omega
  · kernel_rfl
  refine EvC.rg (by (simp only [go_sem]) <;> rfl) (by exact inI64_of (by omega) (by omega)) ?_
  have k3 : stepR m t a = (-1, -1) := by rw [stepR, if_pos (by omega)]
  rw [k3] at h5 h6 hlt hge1
  refine ⟨[(0, 0)], (i + 1, -1, os ++ [-1], out.set i (-1)), rfl, (by (simp only [go_sem, Mach.cells]) <;> rfl), ⟨by simp only; omega, by simp [h2], hlt, hge1, ?_, h6, hset' _⟩, by simp only; omega⟩
  simp only [h5, List.append_assoc]; rfl
end Go.Avl
namespace Go.Avl
open Go Go.Proofs.Try
set_option maxRecDepth 10000
set_option linter.unusedSimpArgs false

theorem runR_len (m : Mach) : ∀ (s : Int) (w : List Int), (runR m s w).length = w.length
  | _, [] => rfl
  | s, a :: w => by simp only [runR, List.length_cons]; rw [runR_len m _ w]
theorem wordErr_zero {n : Int} {w : List Int} (h : wordErr n w = 0) : ∀ a ∈ w, 0 ≤ a ∧ a < n := by
  unfold wordErr at h
  split at h
  · cases h
  · split at h
    · cases h
    · rename_i h2
      simp only [not_or, Bool.not_eq_true, List.any_eq_false] at h2
      intro a ha
      have := h2.2 a ha
      simp at this; omega
theorem wordErr_of {n : Int} {w : List Int} (hn : 1 ≤ n ∧ n ≤ 16) (hl : w.length ≤ 256) (h : ∀ a ∈ w, 0 ≤ a ∧ a < n) : wordErr n w = 0 := by
  have h2 : ¬ (n < 1 ∨ w.any (fun c => decide (c < 0) || decide (n ≤ c)) = true) := by
    simp only [not_or, Bool.not_eq_true, List.any_eq_false]
    exact ⟨by omega, fun a ha => by have := h a ha; simp; omega⟩
  rw [wordErr, if_neg (by omega), if_neg h2]
theorem checkM_of {m : Mach} (hv : Valid m) : checkM m = 0 := by
  have h1 := hv.ins
  have h2 := hv.outs
  have h3 := hv.rows
  have h4 : m.rows.all (rowOk m) = true := by
    rw [List.all_eq_true]
    intro r hr
    obtain ⟨k1, k2⟩ := hv.row r hr
    simp only [rowOk, Bool.and_eq_true, decide_eq_true_eq, Bool.not_eq_true', List.any_eq_false]
    exact ⟨k1, fun e he => by simp [k2 e he]⟩
  rw [checkM, if_neg (by omega), if_neg (by omega), if_pos h4]
theorem stateErr_zero {m : Mach} {l : List Int} (h : stateErr m l = 0) : Valid m ∧ ∀ s ∈ l, 0 ≤ s ∧ s < m.rows.length := by
  unfold stateErr at h
  split at h
  · contradiction
  · rename_i h1
    split at h
    · cases h
    · rename_i h2
      simp only [Bool.not_eq_true, List.any_eq_false] at h2
      exact ⟨.of (by simpa using h1), fun s hs => by have := h2 s hs; simp at this; omega⟩
theorem stateErr_of {m : Mach} {l : List Int} (hv : Valid m) (h : ∀ s ∈ l, 0 ≤ s ∧ s < m.rows.length) : stateErr m l = 0 := by
  have h2 : ¬ l.any (fun x => decide (x < 0) || decide ((m.rows.length : Int) ≤ x)) = true := by
    simp only [Bool.not_eq_true, List.any_eq_false]
    exact fun s hs => by have := h s hs; simp; omega
  rw [stateErr, if_neg (by simp [checkM_of hv]), if_neg h2]
theorem Valid.small {m : Mach} (hv : Valid m) : ∀ r ∈ m.rows, r.2.length < 1000000 := fun r hr => by
  have := (hv.row r hr).1
  have := hv.ins
  omega
theorem run38_is {m : Mach} (hv : Valid m) (s : Int) (hs : 0 ≤ s ∧ s < m.rows.length) (nl : Bool) (w : List Int) (c : Cp) (hw : wordErr m.ins w = 0) (hl : w.length < 1000000) :
    PureIs prog 38 [.ag m.cells, .sc (.int .i64 s), .sl nl (w.map intC) c] (.tu [.sl false ((runR m s w).map intC) .unk, .sc (.int .i64 0)]) := by
  refine PureIs.of (nv := 4) (hid := [6, 7, 8, 9, 10, 16, 23]) func38 rfl (by kernel_rfl) (by simp [ntmps38]) fun _ => ?_
  rw [ntmps38, results38]
  have h1 : stateErr m [s] = 0 := stateErr_of hv (by simpa using hs)
  refine EvC.seq (EvC.rg (by (simp only [go_sem, Mach.cells]) <;> rfl) (by simp) ?_)
  refine EvC.frzB 0 (by (simp only [go_sem]) <;> rfl) ?_
  refine EvC.seq ?_
  apply EvC.seq
  apply EvC.tr
  · apply Tr.run
    · (simp only [go_sem, Mach.cells]) <;> rfl
    · simp
    apply Tr.cons
    · exact .call rfl rfl (by (simp only [go_sem]) <;> rfl) (by (simp only [go_sem]) <;> rfl) (by (simp only [go_sem]) <;> rfl) (by (simp only [go_sem]) <;> rfl) (by (simp only [go_sem]) <;> rfl) (mstate_is m hv.small s)
    apply Tr.done
    · (simp only [go_sem, h1]) <;> rfl
    · simp
  refine EvC.seq (EvC.rg (by (simp only [go_sem]) <;> rfl) (by simp) ?_)
  refine EvC.cond_false (by (simp only [go_sem]) <;> rfl) ?_
  refine EvC.skip ?_
  refine EvC.seq ?_
  apply EvC.seq
  apply EvC.tr
  · apply Tr.run
    · (simp only [go_sem, Mach.cells]) <;> rfl
    · simp
    apply Tr.cons
    · exact .call rfl rfl (by (simp only [go_sem]) <;> rfl) (by (simp only [go_sem]) <;> rfl) (by (simp only [go_sem]) <;> rfl) (by (simp only [go_sem]) <;> rfl) (by (simp only [go_sem]) <;> rfl) (wordCheck_is nl w c m.ins hl)
    apply Tr.done
    · (simp only [go_sem, hw]) <;> rfl
    · simp
  refine EvC.seq (EvC.rg (by (simp only [go_sem]) <;> rfl) (by simp) ?_)
  refine EvC.cond_false (by (simp only [go_sem]) <;> rfl) ?_
  refine EvC.skip ?_
  apply EvC.seq
  apply EvC.tr
  · apply Tr.run
    · (simp only [go_sem, Mach.cells]) <;> rfl
    · simp
    apply Tr.cons
    · exact .call rfl rfl (by (simp only [go_sem]) <;> rfl) (by (simp only [go_sem]) <;> rfl) (by (simp only [go_sem]) <;> rfl) (by (simp only [go_sem]) <;> rfl) (by (simp only [go_sem]) <;> rfl) (run58_is hv s hs.2 (by omega) nl w c (wordErr_zero hw) hl)
    apply Tr.done
    · (simp only [go_sem]) <;> rfl
    · simp
  refine EvC.seq (EvC.rg (by (simp only [go_sem]) <;> rfl) (by simp) ?_)
  refine EvC.ret ⟨.inl rfl, _, (by (simp only [go_sem]) <;> rfl), ?_, rfl⟩
  simp only [go_sem]

def sepsA (m : Mach) (w : List Int) (s t : Int) : AV :=
  if stateErr m [s, t] ≠ 0 then .tu [.sc (.bool false), .sc (.int .i64 (stateErr m [s, t]))]
  else if wordErr m.ins w ≠ 0 then .tu [.sc (.bool false), .sc (.int .i64 (wordErr m.ins w))]
  else .tu [.sc (.bool (!decide (runR m s w = runR m t w))), .sc (.int .i64 0)]
theorem sepsA_noref (m : Mach) (w : List Int) (s t : Int) : (sepsA m w s t).noref = true := by unfold sepsA; repeat (first | rfl | split)
theorem separates_is (m : Mach) (hr : ∀ r ∈ m.rows, r.2.length < 1000000) (nl : Bool) (w : List Int) (c : Cp) (hl : w.length < 1000000) (s t : Int) :
    PureIs prog 18 [.ag m.cells, .sl nl (w.map intC) c, .sc (.int .i64 s), .sc (.int .i64 t)] (sepsA m w s t) := by
  refine PureIs.of (nv := 5) (hid := [8, 9, 10, 11, 12, 14, 22, 29]) func18 rfl (by kernel_rfl) (by simp [ntmps18]) fun _ => ?_
  rw [ntmps18, results18]
  refine EvC.seq (EvC.rg (by (simp only [go_sem, Mach.cells]) <;> rfl) (by simp) ?_)
  refine EvC.frzB 0 (by (simp only [go_sem]) <;> rfl) ?_
  refine EvC.seq ?_
  apply EvC.seq
  apply EvC.tr
  · apply Tr.run
    · (simp only [go_sem, Mach.cells]) <;> rfl
    · simp
    apply Tr.cons
    · exact .call rfl rfl (by (simp only [go_sem]) <;> rfl) (by (simp only [go_sem]) <;> rfl) (by (simp only [go_sem]) <;> rfl) (by (simp only [go_sem]) <;> rfl) (by (simp only [go_sem]) <;> rfl) (by simpa [intC, Mach.cells] using state_is m hr false [s, t] .full (by simp))
    apply Tr.done
    · (simp only [go_sem]) <;> rfl
    · simp
  refine EvC.seq (EvC.rg (by (simp only [go_sem]) <;> rfl) (by simp) ?_)
  refine EvC.cond (by (simp only [go_sem]) <;> rfl) (fun hc => ?_) (fun hc => ?_)
  · have hc : stateErr m [s, t] ≠ 0 := by simpa using hc
    refine EvC.seq (EvC.rg (by (simp only [go_sem]) <;> rfl) (by simp) ?_)
    refine EvC.ret ⟨.inl rfl, _, (by (simp only [go_sem]) <;> rfl), ?_, sepsA_noref _ _ _ _⟩
    simp only [go_sem]
    rw [sepsA, if_pos hc]
  have h1 : ¬ stateErr m [s, t] ≠ 0 := by simpa using hc
  clear hc
  obtain ⟨hv, hst⟩ := stateErr_zero (show stateErr m [s, t] = 0 by simpa using h1)
  refine EvC.skip ?_
  refine EvC.seq ?_
  apply EvC.seq
  apply EvC.tr
  · apply Tr.run
    · (simp only [go_sem, Mach.cells]) <;> rfl
    · simp
    apply Tr.cons
    · exact .call rfl rfl (by (simp only [go_sem]) <;> rfl) (by (simp only [go_sem]) <;> rfl) (by (simp only [go_sem]) <;> rfl) (by (simp only [go_sem]) <;> rfl) (by (simp only [go_sem]) <;> rfl) (wordCheck_is nl w c m.ins hl)
    apply Tr.done
    · (simp only [go_sem]) <;> rfl
    · simp
  refine EvC.seq (EvC.rg (by (simp only [go_sem]) <;> rfl) (by simp) ?_)
  refine EvC.cond (by (simp only [go_sem]) <;> rfl) (fun hc => ?_) (fun hc => ?_)
  · have hc : wordErr m.ins w ≠ 0 := by simpa using hc
    refine EvC.seq (EvC.rg (by (simp only [go_sem]) <;> rfl) (by simp) ?_)
    refine EvC.ret ⟨.inl rfl, _, (by (simp only [go_sem]) <;> rfl), ?_, sepsA_noref _ _ _ _⟩
    simp only [go_sem]
    rw [sepsA, if_neg h1, if_pos hc]; try rfl
  have h2 : ¬ wordErr m.ins w ≠ 0 := by simpa using hc
  clear hc
  have h2' : wordErr m.ins w = 0 := by simpa using h2
  refine EvC.skip ?_
  apply EvC.seq
  apply EvC.tr
  · apply Tr.run
    · (simp only [go_sem, Mach.cells]) <;> rfl
    · simp
    apply Tr.cons
    · exact .call rfl rfl (by (simp only [go_sem]) <;> rfl) (by (simp only [go_sem]) <;> rfl) (by (simp only [go_sem]) <;> rfl) (by (simp only [go_sem]) <;> rfl) (by (simp only [go_sem]) <;> rfl) (run38_is hv s (hst s (by simp)) nl w c h2' hl)
    apply Tr.done
    · (simp only [go_sem]) <;> rfl
    · simp
  apply EvC.seq
  apply EvC.tr
  · apply Tr.run
    · (simp only [go_sem, Mach.cells]) <;> rfl
    · simp
    apply Tr.cons
    · exact .call rfl rfl (by (simp only [go_sem]) <;> rfl) (by (simp only [go_sem]) <;> rfl) (by (simp only [go_sem]) <;> rfl) (by (simp only [go_sem]) <;> rfl) (by (simp only [go_sem]) <;> rfl) (run38_is hv t (hst t (by simp)) nl w c h2' hl)
    apply Tr.done
    · (simp only [go_sem]) <;> rfl
    · simp
  apply EvC.seq
  apply EvC.tr
  · apply Tr.run
    · (simp only [go_sem]) <;> rfl
    · simp
    apply Tr.cons
    · exact .call rfl rfl (by (simp only [go_sem]) <;> rfl) (by (simp only [go_sem]) <;> rfl) (by (simp only [go_sem]) <;> rfl) (by (simp only [go_sem]) <;> rfl) (by (simp only [go_sem]) <;> rfl) (equal_is false (runR m s w) .unk false (runR m t w) .unk (by rw [runR_len]; exact hl))
    apply Tr.done
    · (simp only [go_sem]) <;> rfl
    · simp
  refine EvC.ret ⟨.inl rfl, _, (by (simp only [go_sem]) <;> rfl), ?_, sepsA_noref _ _ _ _⟩
  simp only [go_sem]
  rw [sepsA, if_neg h1, if_neg h2]; try rfl

def inP (s : Nat) : Nat → Nat → List (Nat × Nat)
  | 0, _ => []
  | k + 1, t => (s, t) :: inP s k (t + 1)
def outP (n : Nat) : Nat → Nat → List (Nat × Nat)
  | 0, _ => []
  | k + 1, s => inP s (n - (s + 1)) (s + 1) ++ outP n k (s + 1)
/-- Any two numbers below n, the lesser one first. -/
def pairsN (n : Nat) : List (Nat × Nat) := outP n n 0
theorem mem_inP {s : Nat} {p : Nat × Nat} : ∀ {k t : Nat}, p ∈ inP s k t → p.1 = s ∧ t ≤ p.2 ∧ p.2 < t + k
  | k + 1, t, h => by
    rcases List.mem_cons.1 h with rfl | h
    · simp
    · have := mem_inP h; omega
theorem mem_outP {n : Nat} {p : Nat × Nat} : ∀ {k s : Nat}, s + k ≤ n → p ∈ outP n k s → s ≤ p.1 ∧ p.1 < p.2 ∧ p.2 < n
  | k + 1, s, hn, h => by
    rcases List.mem_append.1 h with h | h
    · have := mem_inP h; omega
    · have := mem_outP (by omega) h; omega
theorem mem_pairsN {n : Nat} {p : Nat × Nat} (h : p ∈ pairsN n) : p.1 < p.2 ∧ p.2 < n := by have := mem_outP (by omega) h; omega
def pairC (p : Nat × Nat) : List AV := [.sc (.int .i64 p.1), .sc (.int .i64 p.2)]
theorem pairs_is (m : Mach) : PureIs prog 42 [.ag m.cells] (.fn 62 [.ia m.cells]) := by
  refine PureIs.of (nv := 3) (hid := []) func42 rfl (by kernel_rfl) (by simp [ntmps42]) fun _ => ?_
  rw [ntmps42, results42]
  refine EvC.seq (EvC.rg (by (simp only [go_sem, Mach.cells]) <;> rfl) (by simp) ?_)
  refine EvC.frzB 0 (by (simp only [go_sem]) <;> rfl) ?_
  refine EvC.seq (EvC.rg (by (simp only [go_sem]) <;> rfl) (by simp) ?_)
  refine EvC.ret ⟨.inl rfl, _, (by (simp only [go_sem]) <;> rfl), ?_, rfl⟩
  simp only [go_sem]
  rfl
theorem pairs1_seq (m : Mach) (hn : m.rows.length < 1000) : SeqIs prog 62 [.ia m.cells] ((pairsN m.rows.length).map pairC) := by
  refine SeqIs.of (nv := 2) (hid := [3, 4, 7, 8, 9, 17, 24]) func62 rfl (by kernel_rfl) (by simp [ntmps62]) (by rw [results62]) fun lp J h0 hJ hy => ?_
  rw [ntmps62]
  refine EvY.seqL hJ (EvC.rg (by (simp only [go_sem, Mach.cells]) <;> rfl) (by simp) ?_)
  refine EvY.block ?_
  refine EvY.loopS hJ (σ := Nat × Nat × List (Nat × Nat)) (fun g => ⟨[(0, .sc (yv lp)), (1, .ia m.cells), (7, .sc (.int .i64 m.rows.length)), (8, .sc (.int .i64 g.2.1))], [], [], 0⟩) (fun g => g.2.2.length) (fun g => g.1)
    (fun g => g.1 + g.2.1 = m.rows.length ∧ pairsN m.rows.length = g.2.2 ++ outP m.rows.length g.1 g.2.1) [0, 1, 7, 8] 0 ?_ ?_
  · exact ⟨[], (m.rows.length, 0, []), rfl, (by (simp only [go_sem, Mach.cells]) <;> rfl), ⟨rfl, rfl⟩, rfl⟩
  rintro ⟨k, s, pre⟩ ⟨h1, h2⟩
  simp only at h1 h2
  refine EvY.seqL hJ (EvC.rg (by (simp only [go_sem]) <;> rfl) (by simp) ?_)
  refine EvY.seq ?_
  refine EvY.cond (by (simp only [go_sem]) <;> rfl) (fun hc => ?_) (fun hc => ?_)
  rotate_left
  · refine EvY.exit ⟨.inr rfl, .inl ?_⟩
    have hc : ¬ s < m.rows.length := by simpa using hc
    obtain rfl : k = 0 := by omega
    rw [h2]; simp [outP]
  have hc : s < m.rows.length := by simpa using hc
  obtain ⟨k, rfl⟩ : ∃ j, k = j + 1 := ⟨k - 1, by omega⟩
  rw [outP] at h2
  refine EvY.skip ?_
  refine EvY.seq ?_
  refine EvY.block ?_
  refine EvY.seqL hJ (EvC.rg (by (simp only [go_sem]) <;> rfl) (by simp) ?_)
  refine EvY.seqL hJ (EvC.rg (by (simp only [go_sem]) <;> rfl) (by exact inI64_of (by omega) (by omega)) ?_)
  refine EvY.block ?_
  refine EvY.loopS hJ (σ := Nat × Nat × List (Nat × Nat)) (fun g => ⟨[(0, .sc (yv lp)), (1, .ia m.cells), (3, .sc (.int .i64 s)), (4, .sc (.int .i64 g.2.1)), (7, .sc (.int .i64 m.rows.length)), (8, .sc (.int .i64 s))], [], [], 0⟩) (fun g => g.2.2.length) (fun g => g.1)
    (fun g => g.1 + g.2.1 = m.rows.length ∧ pairsN m.rows.length = g.2.2 ++ (inP s g.1 g.2.1 ++ outP m.rows.length k (s + 1))) [0, 1, 3, 4, 7, 8] 0 ?_ ?_
  · exact ⟨[], (m.rows.length - (s + 1), s + 1, pre), rfl, (by (simp only [go_sem, Mach.cells]) <;> rfl), ⟨by simp only; omega, h2⟩, rfl⟩
  clear h2
  rintro ⟨j, t, pre⟩ ⟨h3, h2⟩
  simp only at h3 h2
  refine EvY.seq ?_
  refine EvY.seqL hJ (EvC.rg (by (simp only [go_sem, Mach.cells]) <;> rfl) (by simp) ?_)
  refine EvY.cond (by (simp only [go_sem]) <;> rfl) (fun hc => ?_) (fun hc => ?_)
  rotate_left
  · refine EvY.exit ?_
    have hc : ¬ t < m.rows.length := by simpa using hc
    obtain rfl : j = 0 := by omega
    refine EvY.lift hJ (EvC.rg (by (simp only [go_sem]) <;> rfl) (by exact inI64_of (by omega) (by omega)) ?_)
    exact ⟨[], (k, s + 1, pre), rfl, (by (simp only [go_sem, Mach.cells]) <;> rfl), ⟨by simp only; omega, by simpa [inP] using h2⟩, rfl, by simp only; omega⟩
  have hc : t < m.rows.length := by simpa using hc
  obtain ⟨j, rfl⟩ : ∃ i, j = i + 1 := ⟨j - 1, by omega⟩
  rw [inP] at h2
  refine EvY.skip ?_
  refine EvY.seq ?_
  refine EvY.block ?_
  refine EvY.seq (EvY.region ?_)  -- R6
  have hlt : pre.length < ((pairsN m.rows.length).map pairC).length := by rw [h2]; simp
  have hget : ((pairsN m.rows.length).map pairC)[pre.length] = pairC (s, t) := by
    simp only [h2]; simp
  refine XRY.run hJ (by (simp only [go_sem]) <;> rfl) (by simp) ?_
  refine XRY.yield hlt hy rfl rfl (by (simp only [go_sem]) <;> rfl) (by (simp only [go_sem]) <;> rfl) (by rw [hget]; (simp only [go_sem, pairC]) <;> rfl) (by rw [hget]; simp only [go_sem, pairC]) fun b => ?_
  refine XRY.done hJ (by (simp only [go_sem]) <;> rfl) rfl ?_
  refine EvY.cond (by (simp only [go_sem]) <;> rfl) (fun hb => ?_) (fun hb => ?_)
  · have hb : b = false := by simpa using hb
    subst hb
    exact EvY.ret ⟨.inl rfl, .inr rfl⟩
  have hb : b = true := by simpa using hb
  subst hb
  refine EvY.skip ?_
  refine EvY.lift hJ (EvC.rg (by (simp only [go_sem]) <;> rfl) (by exact inI64_of (by omega) (by omega)) ?_)
  exact ⟨[], (j, t + 1, pre ++ [(s, t)]), rfl, (by (simp only [go_sem, Mach.cells]) <;> rfl), ⟨by simp only; omega, by rw [h2]; simp⟩, by simp, by simp⟩
end Go.Avl
