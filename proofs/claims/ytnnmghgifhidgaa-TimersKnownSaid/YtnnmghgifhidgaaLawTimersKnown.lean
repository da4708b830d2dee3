/-
  Scopes that nobody jumps in, and labels.
  A slice of length 0 at the front of an object that nobody else keeps: an empty object with room.
  Calls that lend objects, whatever they hold, in regions that are drawn, too.
  An empty object, to be grown by rows that are still written.
  Many objects at once: those with the numbers below n (n at most 1000000; the others have greater ones). Renaming, freezing.
  Another test of a drawn region's order: by the slots that its operations name, where the numbers of objects are not known.
  Tables whose rows are slices of their own, still written: the rows are the objects below n.
  Functions that work on objects that are there: what comes of them from given arguments and memory.
  The replies of a run lie in new cells.
  TimersKnown: what the functions return at its arguments.
  TimersKnown returns true.
  TimersKnown returns true at every input, and each argument reads behind the call as it read before.
  Conditions: those of the given row alone (no others).
-/
import Derived.Scope
import Derived.Test.YtnnmghgifhidgaaPart7
set_option linter.unusedSimpArgs false
set_option linter.unusedVariables false
set_option linter.unnecessarySimpa false
set_option linter.deprecated false
namespace Go.Avl
open Go

section
variable {F : Fence} {n : Nat} {P : Program} {a : Act} {w : World} {c : Code}
theorem stepR_scope {b : Frame} {k : List Item} {cs : List Frame} : step P (lone (b.atR a (.code (.scope c) :: k)) cs w) = .next (lone (b.atR a (.code c :: .inScope c :: k)) cs w) :=
  step_lone_go (by simp [stepG, stepG.exec, Frame.atR])
theorem stepR_inScope {b : Frame} {k : List Item} {cs : List Frame} : step P (lone (b.atR a (.inScope c :: k)) cs w) = .next (lone (b.atR a k) cs w) :=
  step_lone_go (by simp [stepG, stepG.exec, Frame.atR])
theorem wpIn_scope {Q : Exit → Act → World → Prop} (h : c.wpIn F n P (Exit.noGoto Q) a w) : (Code.scope c).wpIn F n P Q a w := by
  intro b k cs hro hb hr
  have h0 : (lone (b.atR a (.code (.scope c) :: k)) cs w).fenced P F := fenced_calm hb hr rfl
  obtain ⟨e, a₁, w₁, hq, harr⟩ := h b (.inScope c :: k) cs hro hb hr
  cases e with
  | normal => exact ⟨.normal, a₁, w₁, hq, .head h0 stepR_scope (StepsIn.trans harr (.one (fenced_calm hb hr rfl) stepR_inScope))⟩
  | exit id =>
    have hx : exitTo id (.inScope c :: k) = exitTo id k := by simp [exitTo]
    exact ⟨.exit id, a₁, w₁, hq, fun k' hk => .head h0 stepR_scope (harr.1 k' (by rw [hx]; exact hk)),
      fun hr' hk => let ⟨k₁, h1, h2⟩ := harr.2 hr' (by rw [hx]; exact hk); ⟨k₁, h1, .head h0 stepR_scope h2⟩⟩
  | goto l => exact hq.elim
  | ret => exact ⟨_, a₁, w₁, hq, .of_steps (.one h0 stepR_scope) harr⟩
  | panic ch => exact ⟨_, a₁, w₁, hq, .of_steps (.one h0 stepR_scope) harr⟩
  | outgrown => exact ⟨_, a₁, w₁, hq, .of_steps (.one h0 stepR_scope) harr⟩
end

section
variable {P : Program} {fr : Fr} {ro : Option Nat} {ds : DS} {st st' : St} {Q Q' : Exit → St → Prop} {x y c : Code}
def noGotoE (Q : Exit → St → Prop) : Exit → St → Prop
  | .goto _, _ => False
  | e, st => Q e st
theorem EvC.scope (h : EvC P fr ro ds c st (noGotoE Q)) : EvC P fr ro ds (.scope c) st Q :=
  fun _ _ _ _ _ _ _ _ S s => wpIn_scope (wpIn_mono (h _ _ _ _ _ _ _ _ S s) fun e _ _ ⟨G', F', st', h1, h2, h3⟩ => by
    cases e <;> first | exact h3.elim | exact ⟨G', F', st', h1, h2, h3⟩)
theorem EvC.label {l : Nat} (h : Q .normal st) : EvC P fr ro ds (.label l) st Q :=
  fun _ _ _ _ G F _ _ S s => wpIn_label ⟨G, F, st, s, S, h⟩
end
end Go.Avl
namespace Go.Avl
open Go

/-- The object's slice of length 0 in slot k: a new object. -/
def St.shrink (fr : Fr) (k : Nat) (st : St) : Option St :=
  match st.get fr k with
  | .tv i n 0 0 .rest => match mlook st.mem i with
    | some (.arr esz es false) => if n = es.length then some ((⟨st.vars, st.tmps, (st.nx, .arr esz [] false) :: mdel st.mem i, st.nx + 1⟩ : St).put fr (some k) (.tl st.nx 0 false)) else none
    | _ => none
  | _ => none

section
variable {P : Program} {fr : Fr} {ro : Option Nat} {ds : DS} {st st' : St} {Q Q' : Exit → St → Prop} {G G' : Nat → Option Value} {F F' : Nat → Nat → Prop} {a : Act} {w w' : World} {x y c : Code} {M : Mem}
  {ops : Array Oper} {l rest : List Oper}

theorem mlook_mdel' : ∀ (M : Mem) (i j : Nat), mlook (mdel M i) j = if j = i then none else mlook M j
  | [], i, j => by simp [mdel, mlook]
  | (k, o) :: M, i, j => by
    have ih := mlook_mdel' M i j
    simp only [mdel]
    by_cases h : i = k
    · subst h
      rw [if_pos rfl, ih]
      by_cases hj : j = i
      · subst hj; simp
      · simp [mlook, hj]
    · rw [if_neg h]
      simp only [mlook]
      by_cases hj : j = k
      · subst hj
        rw [if_pos rfl, if_neg (fun e => h e.symm), if_pos rfl]
      · rw [if_neg hj, if_neg hj]; exact ih

theorem SimA.shrink {k : Nat} (s : SimA P fr ds G F st a w) (h : st.shrink fr k = some st') : ∃ G', SimA P fr ds G' F st' a w ∧ Step (· < fr.base) G F st.mem w G' F st'.mem w := by
  unfold St.shrink at h
  split at h
  · rename_i i n hk
    split at h
    · rename_i esz es ho
      split at h
      · rename_i hn
        cases h
        have hv := s.sim.slots k
        rw [hk] at hv
        obtain ⟨hG0, hh⟩ := hv.inv_tv
        obtain ⟨_, b, c, hG, hc0, c', hval, _, hcp⟩ := (hh _ _ _ ho).2 hn
        have hcc : c' = c := by
          rcases hcp with h | h | ⟨_, h⟩
          · cases h
          · cases h
          · omega
        subst hcc
        rw [Nat.zero_mul] at hval
        have hob := (s.sim.mem.obj i _ ho)
        have hne : i ≠ st.nx := Nat.ne_of_lt hob.1
        obtain ⟨G1, hG1⟩ : ∃ G1, G1 = upG G st.nx (.slice (some ⟨b, 0, none⟩) 0 c') := ⟨_, rfl⟩
        obtain ⟨M1, hM1⟩ : ∃ M1 : Mem, M1 = (st.nx, .arr esz [] false) :: mdel st.mem i := ⟨_, rfl⟩
        have hlk : ∀ j, mlook M1 j = if j = st.nx then some (.arr esz [] false) else if j = i then none else mlook st.mem j := fun j => by
          rw [hM1]; simp only [mlook]
          by_cases hj : j = st.nx
          · rw [if_pos hj, if_pos hj]
          · rw [if_neg hj, if_neg hj, mlook_mdel']
        have hgo : ∀ j, j ≠ st.nx → G1 j = G j := fun j hj => by rw [hG1, upG_other G _ hj]
        have hgs : G1 st.nx = some (.slice (some ⟨b, 0, none⟩) 0 c') := by rw [hG1, upG_self]
        have hbk : blkOf (.slice (some ⟨b, 0, none⟩) n c') = some b := by simp [blkOf, hc0]
        have hbk0 : blkOf (.slice (some ⟨b, 0, none⟩) 0 c') = some b := by simp [blkOf, hc0]
        have S : Step All G F st.mem w G1 F M1 w :=
          { kept := .refl
            size := Nat.le_refl _
            out := fun _ _ _ => rfl
            F1 := fun _ _ h => h
            F2 := fun _ _ _ => rfl
            F3 := fun _ _ h => .inl h
            own := fun b' ⟨id, o, v, h1, h2, h3⟩ => by
              rw [hlk] at h1
              by_cases hj : id = st.nx
              · subst hj
                rw [hgs] at h2; cases h2
                rw [hbk0] at h3; cases h3
                exact .inr ⟨i, _, _, ho, hG, hbk⟩
              · rw [if_neg hj] at h1
                rw [hgo id hj] at h2
                split at h1
                · cases h1
                · exact .inr ⟨id, o, v, h1, h2, h3⟩
            some' := fun id _ hid => by
              by_cases hj : id = st.nx
              · subst hj; rw [hgs]; simp
              · rw [hgo id hj]; exact hid
            same := fun id v _ hid _ => by
              have hj : id ≠ st.nx := fun e => by rw [e, s.fresh _ (Nat.le_refl _)] at hid; cases hid
              rw [hgo id hj]; exact hid
            keep := fun id o' _ hid h1 => by
              have hj : id ≠ st.nx := fun e => hid (by rw [e]; exact s.fresh _ (Nat.le_refl _))
              rw [hlk, if_neg hj] at h1
              obtain ⟨v, hv⟩ := Option.ne_none_iff_exists'.1 hid
              split at h1
              · cases h1
              · exact ⟨o', v, v, h1, hv, (hgo id hj).trans hv, objKeep.refl v o'⟩ }
        have hm' : SimM P G1 F M1 (st.nx + 1) w := by
          refine simM_gen s.sim.mem S (fun id o' h1 => ?_) (fun id id' v v' b' h1 h2 h3 h4 h5 h6 => ?_) s.sim.mem.inF
          · rw [hlk] at h1
            by_cases hj : id = st.nx
            · subst hj
              rw [if_pos rfl] at h1; cases h1
              refine ⟨Nat.lt_succ_self _, .inl ?_⟩
              rcases hob.2 with ⟨_, base, h1, _⟩ | ⟨b2, c2, cc, e, k1, k2, k3, k4, k5, k6, k7, k8, k9⟩
              · rw [hG] at h1; cases h1; exact absurd rfl hc0
              · rw [hG] at k1; cases k1
                refine .inr ⟨b, c', cc, e, hgs, hc0, k3, Nat.zero_le _, k5, fun i h => absurd h (Nat.not_lt_zero _), fun i j h => absurd h (Nat.not_lt_zero _), fun o h => ?_, fun h => by cases h⟩
                have := (k8 o h).1
                cases this
            · rw [if_neg hj] at h1
              split at h1
              · cases h1
              · exact ⟨Nat.lt_succ_of_lt (s.sim.mem.obj id o' h1).1, .inr ⟨h1, hgo id hj, fun b v _ _ => ⟨rfl, fun _ h => h⟩⟩⟩
          · have back : ∀ {id : Nat} {v : Value}, mlook M1 id ≠ none → G1 id = some v → blkOf v = some b' → (id = st.nx ∧ b' = b) ∨ (id ≠ st.nx ∧ id ≠ i ∧ mlook st.mem id ≠ none ∧ G id = some v) := fun {id v} q1 q2 q3 => by
              by_cases hj : id = st.nx
              · subst hj
                rw [hgs] at q2; cases q2
                rw [hbk0] at q3; cases q3
                exact .inl ⟨rfl, rfl⟩
              · rw [hlk, if_neg hj] at q1
                rw [hgo id hj] at q2
                by_cases hi : id = i
                · rw [if_pos hi] at q1; exact absurd rfl q1
                · rw [if_neg hi] at q1; exact .inr ⟨hj, hi, q1, q2⟩
            have hio : mlook st.mem i ≠ none := by rw [ho]; simp
            rcases back h1 h3 h5 with ⟨e1, e2⟩ | ⟨q1, q2, q3, q4⟩ <;> rcases back h2 h4 h6 with ⟨e3, e4⟩ | ⟨p1, p2, p3, p4⟩
            · rw [e1, e3]
            · subst e2
              exact absurd (s.sim.mem.inj id' i _ _ _ p3 hio p4 hG h6 hbk) p2
            · subst e4
              exact absurd (s.sim.mem.inj id i _ _ _ q3 hio q4 hG h5 hbk) q2
            · exact s.sim.mem.inj id id' _ _ _ q3 p3 q4 p4 h5 h6
        refine ⟨G1, ⟨⟨by rw [St.put_mem, St.put_nx, ← hM1]; exact hm', fun j => ?_, s.sim.size⟩, fun j hj => ?_, s.defers⟩, by rw [St.put_mem, ← hM1]; exact S.mono fun _ _ => trivial⟩
        · rw [St.put_mem, St.get_put, ← hM1]
          split
          · rename_i hj; subst hj
            rw [hval]
            exact .tl st.nx 0 false _ (by rw [hgs]; simp) fun esz' es' fz ho' => by
              rw [hlk, if_pos rfl] at ho'; cases ho'
              exact ⟨Nat.le_refl _, fun _ => ⟨hgs, rfl⟩⟩
          · exact (s.sim.slots j).step S fun _ _ => trivial
        · rw [St.put_nx] at hj
          have hj : st.nx + 1 ≤ j := hj
          rw [hgo j (by omega)]; exact s.fresh j (by omega)
      · cases h
    · cases h
  · cases h
theorem EvC.shrink (k : Nat) {st' : St} (h : st.shrink fr k = some st') (hc : EvC P fr ro ds c st' Q) : EvC P fr ro ds c st Q :=
  EvC.conv (fun _ F _ _ s => let ⟨G', s', S'⟩ := s.shrink h; ⟨G', F, s', S'⟩) hc
theorem XR.shrink (k : Nat) {st' : St} (h : st.shrink fr k = some st') (hc : XR P fr ro ds ops l st' Q) : XR P fr ro ds ops l st Q :=
  fun _ _ _ _ _ _ _ _ S s => let ⟨_, s', S'⟩ := s.shrink h; hc _ _ _ _ _ _ _ _ (S.trans S') s'
theorem XR.gcTo (st2 : St) (L : List Nat) (K : List (Nat × Nat)) (hk : gcOk fr.base st2.nx K = true) (he : st.gc L K st2.nx = st2) (h : XR P fr ro ds ops l st2 Q) : XR P fr ro ds ops l st Q :=
  fun _ _ _ _ _ _ _ _ S s => by
    have s1 := s.gc (L := L) hk
    rw [he] at s1
    obtain ⟨s', S'⟩ := s1
    exact h _ _ _ _ _ _ _ _ (S.trans S') s'
end
attribute [go_sem] St.shrink mdel resAllR resOneR bodyArgs cutHead cutTail
end Go.Avl
namespace Go.Avl
open Go

def lendC (f : AV → AV) (cs : List AV) : List AV := if AV.norefs cs = true then cs else cs.map f
def lendR (f : AV → AV) (es : List (List AV)) : List (List AV) := if es.all AV.norefs = true then es else es.map (·.map f)
/-- A value as a plain reading, what it reaches through objects by their contents. -/
def lendA (M : Mem) : Nat → AV → AV
  | 0, v => v
  | d + 1, .tl i n b => match mlook M i with
    | some (.arr _ es _) => .sl b (lendR (lendA M d) es) .unk
    | _ => .tl i n b
  | d + 1, .tv i n off len cap => match mlook M i with
    | some (.arr _ es _) => .sl false (tvEs (lendR (lendA M d) es) n off len) (tvCap len cap)
    | _ => .tv i n off len cap
  | d + 1, .rf i off => match mlook M i with
    | some (.cells cs) => .ia ((lendC (lendA M d) cs).drop off)
    | _ => .rf i off
  | d + 1, .fn f cs => .fn f (lendC (lendA M d) cs)
  | d + 1, .ag cs => .ag (lendC (lendA M d) cs)
  | _ + 1, v => v
/-- Whether that is all that it reaches. -/
def lendK (M : Mem) : Nat → AV → Bool
  | 0, v => v.noref
  | d + 1, .tl i n _ => match mlook M i with
    | some (.arr _ es _) => decide (n = es.length) && (es.all AV.norefs || es.all fun c => c.all (lendK M d))
    | _ => false
  | d + 1, .tv i n _ _ _ => match mlook M i with
    | some (.arr _ es _) => decide (n = es.length) && (es.all AV.norefs || es.all fun c => c.all (lendK M d))
    | _ => false
  | d + 1, .rf i _ => match mlook M i with
    | some (.cells cs) => AV.norefs cs || cs.all (lendK M d)
    | _ => false
  | d + 1, .fn _ cs => AV.norefs cs || cs.all (lendK M d)
  | d + 1, .ag cs => AV.norefs cs || cs.all (lendK M d)
  | _ + 1, v => v.noref
def lendIs (f : AV → List Nat) : List AV → List Nat
  | [] => []
  | c :: cs => f c ++ lendIs f cs
def lendIss (f : AV → List Nat) : List (List AV) → List Nat
  | [] => []
  | c :: cs => lendIs f c ++ lendIss f cs
/-- The objects that are read for that. -/
def lendI (M : Mem) : Nat → AV → List Nat
  | 0, _ => []
  | d + 1, .tl i _ _ => i :: match mlook M i with
    | some (.arr _ es _) => if es.all AV.norefs = true then [] else lendIss (lendI M d) es
    | _ => []
  | d + 1, .tv i _ _ _ _ => i :: match mlook M i with
    | some (.arr _ es _) => if es.all AV.norefs = true then [] else lendIss (lendI M d) es
    | _ => []
  | d + 1, .rf i _ => i :: match mlook M i with
    | some (.cells cs) => if AV.norefs cs = true then [] else lendIs (lendI M d) cs
    | _ => []
  | d + 1, .fn _ cs => if AV.norefs cs = true then [] else lendIs (lendI M d) cs
  | d + 1, .ag cs => if AV.norefs cs = true then [] else lendIs (lendI M d) cs
  | _ + 1, _ => []

section
variable {P : Program} {fr : Fr} {ro : Option Nat} {ds : DS} {st st' : St} {Q Q' : Exit → St → Prop} {G G' : Nat → Option Value} {F F' : Nat → Nat → Prop} {a : Act} {w w' : World} {x y c : Code}
  {M M' : Mem} {ops : Array Oper} {l rest : List Oper} {o : Oper} {id N : Nat} {rd : List Nat}

theorem lendIs_mem {f : AV → List Nat} {i : Nat} {v : AV} : ∀ {cs : List AV}, v ∈ cs → i ∈ f v → i ∈ lendIs f cs
  | c :: cs, h, hi => by
    simp only [lendIs, List.mem_append]
    rcases List.mem_cons.1 h with rfl | h
    · exact .inl hi
    · exact .inr (lendIs_mem h hi)
theorem lendIss_mem {f : AV → List Nat} {i : Nat} {v : List AV} : ∀ {cs : List (List AV)}, v ∈ cs → i ∈ lendIs f v → i ∈ lendIss f cs
  | c :: cs, h, hi => by
    simp only [lendIss, List.mem_append]
    rcases List.mem_cons.1 h with rfl | h
    · exact .inl hi
    · exact .inr (lendIss_mem h hi)

theorem lend_congr : ∀ (d : Nat) (v : AV), (∀ i ∈ lendI M d v, mlook M' i = mlook M i) → lendA M' d v = lendA M d v ∧ lendK M' d v = lendK M d v
  | 0, v, _ => ⟨rfl, rfl⟩
  | d + 1, v, h => by
    have cells : ∀ cs : List AV, (∀ i ∈ (if AV.norefs cs = true then [] else lendIs (lendI M d) cs), mlook M' i = mlook M i) → lendC (lendA M' d) cs = lendC (lendA M d) cs ∧ (AV.norefs cs || cs.all (lendK M' d)) = (AV.norefs cs || cs.all (lendK M d)) := fun cs hc => by
      unfold lendC
      by_cases hn : AV.norefs cs = true
      · rw [if_pos hn, if_pos hn, hn]; exact ⟨rfl, rfl⟩
      · rw [if_neg hn] at hc
        rw [if_neg hn, if_neg hn]
        have ih : ∀ c ∈ cs, lendA M' d c = lendA M d c ∧ lendK M' d c = lendK M d c := fun c hc' => lend_congr d c fun i hi => hc i (lendIs_mem hc' hi)
        refine ⟨List.map_congr_left fun c hc => (ih c hc).1, ?_⟩
        congr 1
        rw [Bool.eq_iff_iff, List.all_eq_true, List.all_eq_true]
        exact ⟨fun h c hc => by rw [← (ih c hc).2]; exact h c hc, fun h c hc => by rw [(ih c hc).2]; exact h c hc⟩
    have rows : ∀ es : List (List AV), (∀ i ∈ (if es.all AV.norefs = true then [] else lendIss (lendI M d) es), mlook M' i = mlook M i) → lendR (lendA M' d) es = lendR (lendA M d) es ∧ (es.all AV.norefs || es.all fun c => c.all (lendK M' d)) = (es.all AV.norefs || es.all fun c => c.all (lendK M d)) := fun es hc => by
      unfold lendR
      by_cases hn : es.all AV.norefs = true
      · rw [if_pos hn, if_pos hn, hn]; exact ⟨rfl, rfl⟩
      · rw [if_neg hn] at hc
        rw [if_neg hn, if_neg hn]
        have ih : ∀ r ∈ es, ∀ c ∈ r, lendA M' d c = lendA M d c ∧ lendK M' d c = lendK M d c := fun r hr c hc' => lend_congr d c fun i hi => hc i (lendIss_mem hr (lendIs_mem hc' hi))
        refine ⟨List.map_congr_left fun r hr => List.map_congr_left fun c hc => (ih r hr c hc).1, ?_⟩
        congr 1
        rw [Bool.eq_iff_iff, List.all_eq_true, List.all_eq_true]
        simp only [List.all_eq_true]
        exact ⟨fun h r hr c hc => by rw [← (ih r hr c hc).2]; exact h r hr c hc, fun h r hr c hc => by rw [(ih r hr c hc).2]; exact h r hr c hc⟩
    cases v with
    | tl i n b =>
      simp only [lendI, List.mem_cons, forall_eq_or_imp] at h
      obtain ⟨h1, h2⟩ := h
      simp only [lendA, lendK, h1]
      cases hM : mlook M i with
      | none => exact ⟨rfl, rfl⟩
      | some ob =>
        rw [hM] at h2
        cases ob with
        | arr esz es fz => obtain ⟨e1, e2⟩ := rows es h2; simp only; rw [e1, e2]; exact ⟨rfl, rfl⟩
        | _ => exact ⟨rfl, rfl⟩
    | tv i n off len cap =>
      simp only [lendI, List.mem_cons, forall_eq_or_imp] at h
      obtain ⟨h1, h2⟩ := h
      simp only [lendA, lendK, h1]
      cases hM : mlook M i with
      | none => exact ⟨rfl, rfl⟩
      | some ob =>
        rw [hM] at h2
        cases ob with
        | arr esz es fz => obtain ⟨e1, e2⟩ := rows es h2; simp only; rw [e1, e2]; exact ⟨rfl, rfl⟩
        | _ => exact ⟨rfl, rfl⟩
    | rf i off =>
      simp only [lendI, List.mem_cons, forall_eq_or_imp] at h
      obtain ⟨h1, h2⟩ := h
      simp only [lendA, lendK, h1]
      cases hM : mlook M i with
      | none => exact ⟨rfl, rfl⟩
      | some ob =>
        rw [hM] at h2
        cases ob with
        | cells cs => obtain ⟨e1, e2⟩ := cells cs h2; simp only; rw [e1, e2]; exact ⟨rfl, rfl⟩
        | _ => exact ⟨rfl, rfl⟩
    | fn f cs => obtain ⟨e1, e2⟩ := cells cs h; simp only [lendA, lendK]; rw [e1, e2]; exact ⟨rfl, rfl⟩
    | ag cs => obtain ⟨e1, e2⟩ := cells cs h; simp only [lendA, lendK]; rw [e1, e2]; exact ⟨rfl, rfl⟩
    | _ => exact ⟨rfl, rfl⟩

theorem lendR_len (f : AV → AV) (es : List (List AV)) : (lendR f es).length = es.length := by unfold lendR; split <;> simp
theorem lendC_len (f : AV → AV) (cs : List AV) : (lendC f cs).length = cs.length := by unfold lendC; split <;> simp

theorem RV.lendA {nx : Nat} (hm : SimM P G F M nx w) : ∀ (d : Nat) {v : Value} {y : AV}, RV G F M w v y → lendK M d y = true → Imm (Avl.lend G F M) w v (Avl.lendA M d y)
  | 0, v, y, h, hk => (h.imm_of hk).lend
  | d + 1, v, y, h, hk => by
    have cells : ∀ (vs : List Value) (cs : List AV), vs.length = cs.length → (∀ i (h1 : i < vs.length) (h2 : i < cs.length), RV G F M w vs[i] cs[i]) → (AV.norefs cs || cs.all (lendK M d)) = true →
        vs.length = (lendC (Avl.lendA M d) cs).length ∧ ∀ i (h1 : i < vs.length) (h2 : i < (lendC (Avl.lendA M d) cs).length), Imm (Avl.lend G F M) w vs[i] (lendC (Avl.lendA M d) cs)[i] := fun vs cs hl hr hc => by
      refine ⟨by rw [lendC_len]; exact hl, fun i h1 h2 => ?_⟩
      have h2' : i < cs.length := by rw [lendC_len] at h2; exact h2
      by_cases hn : AV.norefs cs = true
      · simp only [lendC, if_pos hn]
        exact ((hr i h1 h2').imm_of (norefs_get _ hn i h2')).lend
      · simp only [lendC, if_neg hn, List.getElem_map]
        have hn' : AV.norefs cs = false := by simpa using hn
        rw [hn', Bool.false_or, List.all_eq_true] at hc
        exact RV.lendA hm d (hr i h1 h2') (hc _ (List.getElem_mem h2'))
    have rows : ∀ (es : List (List AV)), (es.all AV.norefs || es.all fun c => c.all (lendK M d)) = true → ∀ i (hi : i < es.length), ∃ hi' : i < (lendR (Avl.lendA M d) es).length, (lendR (Avl.lendA M d) es)[i].length = es[i].length ∧
        ∀ j (hj : j < es[i].length) (hj' : j < (lendR (Avl.lendA M d) es)[i].length) (v : Value), RV G F M w v es[i][j] → Imm (Avl.lend G F M) w v (lendR (Avl.lendA M d) es)[i][j] := fun es hc i hi => by
      refine ⟨by rw [lendR_len]; exact hi, ?_⟩
      by_cases hn : es.all AV.norefs = true
      · simp only [lendR, if_pos hn]
        exact ⟨trivial, fun j hj _ v hr => (hr.imm_of (all_norefs hn i j hi hj)).lend⟩
      · simp only [lendR, if_neg hn, List.getElem_map, List.length_map]
        have hn' : es.all AV.norefs = false := by simpa using hn
        rw [hn', Bool.false_or, List.all_eq_true] at hc
        have hci := hc _ (List.getElem_mem hi)
        rw [List.all_eq_true] at hci
        exact ⟨trivial, fun j hj _ v hr => RV.lendA hm d hr (hci _ (List.getElem_mem hj))⟩
    cases y with
    | tl i n b =>
      simp only [lendK] at hk
      cases hM : mlook M i with
      | none => rw [hM] at hk; cases hk
      | some ob =>
        rw [hM] at hk
        cases ob with
        | arr esz es fz =>
          simp only [Bool.and_eq_true, decide_eq_true_eq] at hk
          obtain ⟨hnl, hc⟩ := hk
          simp only [Avl.lendA, hM]
          have hrows := rows es hc
          obtain ⟨_, hh⟩ := h.inv_tl
          obtain ⟨hG, hb⟩ := (hh _ _ _ hM).2 hnl
          rcases (hm.obj i _ hM).2 with ⟨h0, base, h1, hsp⟩ | ⟨b', c, cc, e, h1, h2, h3, h4, h5, h6, h7, h8, h9⟩
          · rw [hG] at h1; cases h1
            subst h0
            have : lendR (Avl.lendA M d) [] = [] := rfl
            rw [this]
            cases base with
            | none => simp [isNilSlice] at hb; subst hb; exact .nil _ (.inl rfl)
            | some a => simp [isNilSlice] at hb; subst hb; exact .sz a .unk (.inl rfl)
          · have hG1 := hG
            rw [hG] at h1; cases h1
            simp [isNilSlice] at hb; subst hb
            have hown : Owned G M b' := ⟨i, _, _, hM, hG1, by simp [blkOf, h2]⟩
            have hlen := lendR_len (Avl.lendA M d) es
            have := Imm.sl (F := Avl.lend G F M) (w := w) b' 0 c esz (lendR (Avl.lendA M d) es) .unk (fun i j => (cc[i * esz + j]?).getD undef) (by rw [hlen]; exact h4) (.inl rfl)
              (fun k hk => by rw [hlen] at hk; obtain ⟨_, q1, _⟩ := hrows k hk; rw [q1]; exact h6 k hk)
              (fun k j hk hj => by
                rw [hlen] at hk
                refine ⟨.inr hown, ?_⟩
                rw [cell?_block h3, Nat.zero_add]
                obtain ⟨v, hv, h1c, _⟩ := h7 k j hk (by rw [h6 k hk]; exact hj)
                rw [hv]; exact ⟨rfl, h1c⟩)
              (fun k j hk hj => by
                have hk' := hk
                rw [hlen] at hk'
                obtain ⟨_, q1, q2⟩ := hrows k hk'
                obtain ⟨v, hv, _, hr⟩ := h7 k j hk' (by rw [← q1]; exact hj)
                rw [hv]; exact q2 j (by rw [← q1]; exact hj) hj v hr)
            rw [hlen] at this
            exact this
        | _ => cases hk
    | tv i n off len cap =>
      simp only [lendK] at hk
      cases hM : mlook M i with
      | none => rw [hM] at hk; cases hk
      | some ob =>
        rw [hM] at hk
        cases ob with
        | arr esz es fz =>
          simp only [Bool.and_eq_true, decide_eq_true_eq] at hk
          obtain ⟨hnl, hc⟩ := hk
          simp only [Avl.lendA, hM]
          have hrows := rows es hc
          obtain ⟨_, hh⟩ := h.inv_tv
          obtain ⟨hol, b', c, hG, hc0, c', rfl, hlc, hcp⟩ := (hh _ _ _ hM).2 hnl
          rcases (hm.obj i _ hM).2 with ⟨h0, base, h1, hsp⟩ | ⟨b2, c2, cc, e, h1, h2, h3, h4, h5, h6, h7, h8, h9⟩
          · rw [hG] at h1; cases h1; exact absurd rfl hc0
          · have hown : Owned G M b' := ⟨i, _, _, hM, hG, by simp [blkOf, hc0]⟩
            rw [hG] at h1; cases h1
            have hnl' : es.length = (lendR (Avl.lendA M d) es).length := (lendR_len _ _).symm
            have hlen := tvEs_len hol hnl'
            have hget := tvEs_get hol hnl'
            have := Imm.sl (F := Avl.lend G F M) (w := w) b' (off * esz) c' esz (tvEs (lendR (Avl.lendA M d) es) es.length off len) (tvCap len cap) (fun i j => (cc[(off + i) * esz + j]?).getD undef) (by rw [hlen]; exact hlc)
              (by
                rcases hcp with rfl | rfl | ⟨rfl, _⟩
                · exact .inl rfl
                · simp only [tvCap]
                  by_cases e : c' = len
                  · rw [if_pos e, hlen]; exact .inr (.inr (.inl ⟨rfl, e⟩))
                  · rw [if_neg e]; exact .inl rfl
                · exact .inl rfl)
              (fun k hk => by
                rw [hget k hk]
                rw [hlen] at hk
                obtain ⟨_, q1, _⟩ := hrows (off + k) (by omega)
                rw [q1]; exact h6 _ _)
              (fun k j hk hj => by
                rw [hlen] at hk
                have hk2 : off + k < es.length := by omega
                rw [show off * esz + k * esz + j = (off + k) * esz + j by rw [Nat.add_mul]]
                refine ⟨.inr hown, ?_⟩
                rw [cell?_block h3]
                obtain ⟨v, hv, h1c, _⟩ := h7 (off + k) j hk2 (by rw [h6 _ hk2]; exact hj)
                rw [hv]; exact ⟨rfl, h1c⟩)
              (fun k j hk hj => by
                have hk' := hk
                rw [hlen] at hk'
                have hk2 : off + k < es.length := by omega
                simp only [hget k hk] at hj ⊢
                obtain ⟨_, q1, q2⟩ := hrows (off + k) hk2
                obtain ⟨v, hv, _, hr⟩ := h7 (off + k) j hk2 (by rw [← q1]; exact hj)
                rw [hv]; exact q2 j (by rw [← q1]; exact hj) hj v hr)
            rw [hlen] at this
            exact this
        | _ => cases hk
    | rf i off =>
      simp only [lendK] at hk
      cases hM : mlook M i with
      | none => rw [hM] at hk; cases hk
      | some ob =>
        rw [hM] at hk
        cases ob with
        | cells cs =>
          simp only [Avl.lendA, hM]
          obtain ⟨b, hG, rfl⟩ := h.inv_rf
          obtain ⟨b', cc, e, h1, h2, h3, h4, h5⟩ := (hm.obj i _ hM).2
          have hown : Owned G M b' := ⟨i, _, _, hM, h1, rfl⟩
          rw [hG] at h1; cases h1
          obtain ⟨q1, q2⟩ := cells cc.toList cs (by simpa using h3) (fun i h1 h2 => by simpa using h4 i (by simpa using h1) h2) hk
          refine .ia b off _ (fun j => (cc[off + j]?).getD undef) (fun j hj => ?_) (fun j hj => ?_)
          · simp only [List.length_drop, ← q1, Array.length_toList] at hj
            refine ⟨.inr hown, ?_⟩
            rw [cell?_block h2, Array.getElem?_eq_getElem (by omega)]; rfl
          · have hj' := hj
            simp only [List.length_drop, ← q1, Array.length_toList] at hj'
            have := q2 (off + j) (by simp; omega) (by rw [← q1]; simp; omega)
            simp only [List.getElem_drop]
            rw [Array.getElem?_eq_getElem (by omega)]
            simpa using this
        | _ => cases hk
    | fn f cs =>
      obtain ⟨vs, rfl, hl, hcs⟩ := h.inv_fn
      obtain ⟨q1, q2⟩ := cells vs cs hl hcs hk
      exact .fn f vs _ q1 q2
    | ag cs =>
      obtain ⟨vs, rfl, hl, hcs⟩ := h.inv_ag
      obtain ⟨q1, q2⟩ := cells vs cs hl hcs hk
      exact .ag vs _ q1 q2
    | _ => exact (h.imm_of hk).lend

/-- A contract whose result is a plain cell. -/
theorem PureIs.frSc {f : FuncId} {args : List AV} {v : Value} (h : PureIs P f args (.sc v)) : PureFr P f args (.sc v) :=
  ⟨h.1, fun F w vals hF hi => (h.2 F w vals hF hi).mono fun _ w' ⟨u, F', he, hv, g⟩ => by
    have hu : u = v := by cases hv; rfl
    subst hu
    exact ⟨u, fun b o => F' b o ∧ w.heap.size ≤ b, he, .sc _, fun b o h => ⟨h.2, g.inF b o h.1⟩,
      ⟨g.size, g.old, fun b o h => .inl h, fun b o h => h.elim .inl fun h => .inr h.2, fun b o h => h.elim (fun h => Nat.lt_of_lt_of_le (hF b o h) g.size) fun h => g.inF b o h.1, g.kept⟩⟩⟩

def argsD (fr : Fr) (st : St) (d : Nat) (args : Array Operand) : List AV := args.toList.map fun x => lendA st.mem d (od fr st true x)
def argsK (fr : Fr) (st : St) (d : Nat) (args : Array Operand) : Bool := args.toList.all fun x => lendK st.mem d (od fr st true x)
def argsI (fr : Fr) (st : St) (d : Nat) : List Operand → List Nat
  | [] => []
  | x :: xs => odds (lendI st.mem d (od fr st true x)) ++ argsI fr st d xs
def rdL (fr : Fr) (st : St) (d : Nat) (gs : List Nat) (o : Oper) (args : Array Operand) : List Nat := gs ++ (opSlots o.op.operands.toList ++ argsI fr st d args.toList)
theorem argsI_mem {d : Nat} {x : Operand} {i : Nat} : ∀ {xs : List Operand}, x ∈ xs → i ∈ lendI st.mem d (od fr st true x) → 2 * i + 1 ∈ argsI fr st d xs
  | y :: xs, h, hi => by
    simp only [argsI, List.mem_append]
    rcases List.mem_cons.1 h with rfl | h
    · exact .inl (odds_mem hi)
    · exact .inr (argsI_mem h hi)

theorem SimD.callD {f : FuncId} {callee : Operand} {args : Array Operand} {tys : Array TypeId} {xs : List AV} {r : AV} {d : Nat} {K : Act → World → Prop} {Q1 : Exit → Act → World → Prop}
    (s : SimD P fr ds G F st N a w) (hop : o.op = .call ⟨.value callee, args, tys⟩) (hd : dok fr o.dst = true) (hcal : od fr st true callee = .fn f [])
    (hxs : argsD fr st d args = xs) (hk : argsK fr st d args = true) (hc : PureFr P f xs r)
    (h : ∀ G' F' a' w', SimD P fr ds G' F' (run1 fr o.dst ⟨r, none⟩ st) N a' w' → Step All G F st.mem w G' F' (run1 fr o.dst ⟨r, none⟩ st).mem w' → (∀ j, j ≠ id → G j = none → G' j = none) → K a' w') : o.wpIn (fc ro) 0 P a w K Q1 := by
  refine ⟨fun _ _ => trivial, ?_⟩
  rw [Oper.semAt_eq _ _ _ (by rw [hop]; intro c h; cases h)]
  have hv := (s.eval callee).unopt
  have hv : RV G F st.mem w (a.eval callee) (.fn f []) := by unfold od at hcal; rwa [hcal] at hv
  obtain ⟨vs, hev, hl, _⟩ := hv.inv_fn
  have hvs : vs = [] := by cases vs with
    | nil => rfl
    | cons a l => simp at hl
  subst hvs
  have hrun : (execOp a.eval o).run P w = .ok (.enter f ((args.toList.map a.eval).toArray)) w := by
    obtain ⟨dst, op, ty, pos, after, guard⟩ := o
    simp only at hop
    subst hop
    simp only [execOp, resolve, hev, Deferred.ofValue, Sem.run_bind, Sem.run_pure, Result.andThen_ok, invoke]
    rw [hc.1]
    congr 2
    apply Array.ext'
    simp
  rw [hrun]
  have hi : Imms (Avl.lend G F st.mem) w (args.toList.map a.eval) xs := by
    subst hxs
    refine ⟨by simp [argsD], fun i h1 h2 => ?_⟩
    simp only [argsD, List.getElem_map] at h2 ⊢
    unfold argsK at hk
    rw [List.all_eq_true] at hk
    exact RV.lendA s.mem d (s.eval _).unopt (hk _ (List.getElem_mem _))
  have hin : ∀ b o, Avl.lend G F st.mem b o → b < w.heap.size := fun b o h => h.elim (s.mem.inF b o) fun h => s.mem.lt h
  refine ⟨fun h => by simp [fc, Fence.wide] at h, callsIn_fc ((hc.2 _ w _ hin hi).mono ?_)⟩
  rintro e w' ⟨v, Fr, rfl, hv, hFr, g⟩
  have g' := s.mem.frGrown g hFr
  obtain ⟨hm', S'⟩ := simM_grown s.mem g'
  obtain ⟨s1, S1⟩ := s.put (d := o.dst) (r := ⟨r, none⟩) (u := v) hm' (fun _ => rfl) S' hd (.imm (hv.mono (fun _ _ h => .inr h) fun _ _ _ => rfl))
  exact h G _ _ w' s1 S1 (fun _ _ h => h)

/-- A call that lends objects, to the depth d. -/
theorem OpIs.callD {f : FuncId} {callee : Operand} {args : Array Operand} {tys : Array TypeId} {xs : List AV} {v : AV} (d : Nat) (hg : o.guard = none) (hop : o.op = .call ⟨.value callee, args, tys⟩) (hd : dok fr o.dst = true)
    (hcal : od fr st true callee = .fn f []) (hxs : argsD fr st d args = xs) (hk : argsK fr st d args = true) (hrd : rdL fr st d [] o args = rd) (hc : PureFr P f xs v) : OpIs P fr ro ds ops id st ⟨o, ⟨v, none⟩, rd⟩ := by
  intro st' G F a w N K Q1 s hN hG hl h
  simp only [Region.wanted, hg, if_true]
  have hslot : ∀ x ∈ o.op.operands.toList, opnd fr st' x = opnd fr st x := fun x hx => by
    cases x with
    | tmp t => exact look_slot (hl _ (by simp only; rw [← hrd]; unfold rdL; exact List.mem_append_right _ (List.mem_append_left _ (opSlots_mem hx))))
    | _ => rfl
  rw [hop] at hslot
  have hodc : od fr st' true callee = od fr st true callee := by unfold od; rw [hslot callee (by simp [Op.operands, Call.operands])]
  have hoda : ∀ x ∈ args.toList, od fr st' true x = od fr st true x := fun x hx => by
    unfold od; rw [hslot x (by simp only [Op.operands, Call.operands]; simp; exact .inr (by simpa using hx))]
  have hcg : ∀ x ∈ args.toList, lendA st'.mem d (od fr st' true x) = lendA st.mem d (od fr st true x) ∧ lendK st'.mem d (od fr st' true x) = lendK st.mem d (od fr st true x) := fun x hx => by
    rw [hoda x hx]
    exact lend_congr d _ fun i hi => look_obj (hl _ (by simp only; rw [← hrd]; unfold rdL; exact List.mem_append_right _ (List.mem_append_right _ (argsI_mem hx hi))))
  refine s.callD (d := d) hop hd (by rw [hodc]; exact hcal) ?_ ?_ hc h
  · rw [← hxs]; unfold argsD; exact List.map_congr_left fun x hx => (hcg x hx).1
  · rw [← hk]; unfold argsK
    rw [Bool.eq_iff_iff, List.all_eq_true, List.all_eq_true]
    exact ⟨fun h x hx => by rw [← (hcg x hx).2]; exact h x hx, fun h x hx => by rw [(hcg x hx).2]; exact h x hx⟩
end
attribute [go_sem] lendC lendR lendA lendK lendIs lendIss lendI argsD argsK argsI rdL
end Go.Avl
namespace Go.Avl
open Go

def St.thaw (i : Nat) (st : St) : Option St :=
  match mlook st.mem i with
  | some (.arr esz [] _) => some ⟨st.vars, st.tmps, mset st.mem i (.arr esz [] false), st.nx⟩
  | _ => none

/-- Row k of object j, with what it points at read by its contents where that is frozen. -/
def St.snapE (j k : Nat) (st : St) : Option St :=
  match mlook st.mem j with
  | some (.arr esz es false) => match es[k]? with
    | some c => some ⟨st.vars, st.tmps, mset st.mem j (.arr esz (es.set k (c.map (AV.deep (snap st.mem)))) false), st.nx⟩
    | none => none
  | _ => none

section
variable {P : Program} {fr : Fr} {ro : Option Nat} {ds : DS} {st st' : St} {Q Q' : Exit → St → Prop} {G G' : Nat → Option Value} {F F' : Nat → Nat → Prop} {a : Act} {w w' : World} {x y c : Code} {M : Mem}

theorem simM_thaw {nx i esz : Nat} {fz : Bool} (hm : SimM P G F M nx w) (ho : mlook M i = some (.arr esz [] fz)) :
    SimM P G F (mset M i (.arr esz [] false)) nx w ∧ Step All G F M w G F (mset M i (.arr esz [] false)) w := by
  have hold := (hm.obj i _ ho).2
  have S : Step All G F M w G F (mset M i (.arr esz [] false)) w :=
    { kept := .refl
      size := Nat.le_refl _
      out := fun _ _ _ => rfl
      F1 := fun _ _ h => h
      F2 := fun _ _ _ => rfl
      F3 := fun b o h => .inl h
      own := fun b ⟨id, o, v, h3, h4, h5⟩ => by
        rw [mlook_mset] at h3
        by_cases hi : id = i
        · subst hi; exact .inr ⟨id, _, v, ho, h4, h5⟩
        · rw [if_neg hi] at h3; exact .inr ⟨id, o, v, h3, h4, h5⟩
      some' := fun _ _ h => h
      same := fun _ _ _ h _ => h
      keep := fun id o' _ hG h3 => by
        obtain ⟨v, hv⟩ := Option.ne_none_iff_exists'.1 hG
        rw [mlook_mset] at h3
        by_cases hi : id = i
        · subst hi
          rw [if_pos rfl] at h3; cases h3
          exact ⟨_, v, v, ho, hv, hv, ⟨rfl, .inl ⟨rfl, rfl⟩⟩⟩
        · rw [if_neg hi] at h3
          exact ⟨o', v, v, h3, hv, hv, objKeep.refl v o'⟩ }
  have hinj : ∀ id id' v v' b, mlook (mset M i (.arr esz [] false)) id ≠ none → mlook (mset M i (.arr esz [] false)) id' ≠ none → G id = some v → G id' = some v' → blkOf v = some b → blkOf v' = some b → id = id' := by
    intro id id' v v' b h1 h2
    refine hm.inj id id' v v' b ?_ ?_
    · rw [mlook_mset] at h1; by_cases hi : id = i
      · subst hi; rw [ho]; simp
      · rwa [if_neg hi] at h1
    · rw [mlook_mset] at h2; by_cases hi : id' = i
      · subst hi; rw [ho]; simp
      · rwa [if_neg hi] at h2
  refine ⟨simM_gen hm S (fun id o' h => ?_) hinj hm.inF, S⟩
  rw [mlook_mset] at h
  by_cases hi : id = i
  · subst hi; rw [if_pos rfl] at h; cases h
    refine ⟨(hm.obj id _ ho).1, .inl ?_⟩
    rcases hold with h | ⟨b, c, cc, e, h1, h2, h3, h4, h5, h6, h7, h8, h9⟩
    · exact .inl h
    · exact .inr ⟨b, c, cc, e, h1, h2, h3, h4, h5, h6, fun k j hk => absurd hk (Nat.not_lt_zero _), fun o h => absurd (h8 o h).2 (by simp), fun h => (by cases h)⟩
  · rw [if_neg hi] at h
    exact ⟨(hm.obj id _ h).1, .inr ⟨h, rfl, fun b v hG hb => ⟨rfl, fun _ h => h⟩⟩⟩
theorem SimA.thaw {i : Nat} (s : SimA P fr ds G F st a w) (h : st.thaw i = some st') : SimA P fr ds G F st' a w ∧ Step (· < fr.base) G F st.mem w G F st'.mem w := by
  unfold St.thaw at h
  split at h
  · rename_i esz fz ho
    cases h
    obtain ⟨hm', S'⟩ := simM_thaw s.sim.mem ho
    exact ⟨⟨⟨hm', fun k => (s.sim.slots k).step S' (fun _ _ => trivial), s.sim.size⟩, s.fresh, s.defers⟩, S'.mono fun _ _ => trivial⟩
  · cases h
theorem EvC.thaw (i : Nat) (h : st.thaw i = some st') (hc : EvC P fr ro ds c st' Q) : EvC P fr ro ds c st Q :=
  EvC.conv (fun _ _ _ _ s => let ⟨s', S'⟩ := s.thaw h; ⟨_, _, s', S'⟩) hc
theorem simM_snapE {nx j esz k : Nat} {es : List (List AV)} {c0 : List AV} (hm : SimM P G F M nx w) (ho : mlook M j = some (.arr esz es false)) (hk : es[k]? = some c0) :
    SimM P G F (mset M j (.arr esz (es.set k (c0.map (AV.deep (snap M)))) false)) nx w ∧ Step All G F M w G F (mset M j (.arr esz (es.set k (c0.map (AV.deep (snap M)))) false)) w := by
  obtain ⟨es', hes⟩ : ∃ es', es' = es.set k (c0.map (AV.deep (snap M))) := ⟨_, rfl⟩
  rw [← hes]
  have hle : es'.length = es.length := by rw [hes, List.length_set]
  have hold := (hm.obj j _ ho).2
  have S : Step All G F M w G F (mset M j (.arr esz es' false)) w :=
    { kept := .refl
      size := Nat.le_refl _
      out := fun _ _ _ => rfl
      F1 := fun _ _ h => h
      F2 := fun _ _ _ => rfl
      F3 := fun b o h => .inl h
      own := fun b ⟨id, o, v, h3, h4, h5⟩ => by
        rw [mlook_mset] at h3
        by_cases hi : id = j
        · subst hi; exact .inr ⟨id, _, v, ho, h4, h5⟩
        · rw [if_neg hi] at h3; exact .inr ⟨id, o, v, h3, h4, h5⟩
      some' := fun _ _ h => h
      same := fun _ _ _ h _ => h
      keep := fun id o' _ hG h3 => by
        obtain ⟨v, hv⟩ := Option.ne_none_iff_exists'.1 hG
        rw [mlook_mset] at h3
        by_cases hi : id = j
        · subst hi
          rw [if_pos rfl] at h3; cases h3
          exact ⟨_, v, v, ho, hv, hv, ⟨rfl, .inl ⟨hle, rfl⟩⟩⟩
        · rw [if_neg hi] at h3
          exact ⟨o', v, v, h3, hv, hv, objKeep.refl v o'⟩ }
  have hinj : ∀ id id' v v' b, mlook (mset M j (.arr esz es' false)) id ≠ none → mlook (mset M j (.arr esz es' false)) id' ≠ none → G id = some v → G id' = some v' → blkOf v = some b → blkOf v' = some b → id = id' := by
    intro id id' v v' b h1 h2
    refine hm.inj id id' v v' b ?_ ?_
    · rw [mlook_mset] at h1; by_cases hi : id = j
      · subst hi; rw [ho]; simp
      · rwa [if_neg hi] at h1
    · rw [mlook_mset] at h2; by_cases hi : id' = j
      · subst hi; rw [ho]; simp
      · rwa [if_neg hi] at h2
  refine ⟨simM_gen hm S (fun id o' h => ?_) hinj hm.inF, S⟩
  rw [mlook_mset] at h
  by_cases hi : id = j
  · subst hi; rw [if_pos rfl] at h; cases h
    refine ⟨(hm.obj id _ ho).1, .inl ?_⟩
    have hkl : k < es.length := (List.getElem?_eq_some_iff.1 hk).1
    have hke : es[k] = c0 := by rw [List.getElem?_eq_getElem hkl] at hk; exact Option.some.inj hk
    rcases hold with ⟨h0, _⟩ | ⟨b, c, cc, e, h1, h2, h3, h4, h5, h6, h7, h8, h9⟩
    · rw [h0] at hkl; exact absurd hkl (Nat.not_lt_zero _)
    · refine .inr ⟨b, c, cc, e, by rw [hle]; exact h1, h2, h3, by rw [hle]; exact h4, h5, fun i hi' => ?_, fun i l hi' hl' => ?_, fun o h => absurd (h8 o h).1 (by simp), fun h => (by cases h)⟩
      · have hi2 : i < es.length := by rw [← hle]; exact hi'
        simp only [hes, List.getElem_set]
        split
        · rename_i e1; subst e1; rw [List.length_map, ← hke]; exact h6 _ hi2
        · exact h6 _ hi2
      · have hi2 : i < es.length := by rw [← hle]; exact hi'
        by_cases e1 : k = i
        · subst e1
          have e2 : es'[k] = es[k].map (AV.deep (snap M)) := by simp [hes, hke]
          have hl2 : l < es[k].length := by rw [e2, List.length_map] at hl'; exact hl'
          obtain ⟨v, k1, k2, k3⟩ := h7 k l hi2 hl2
          refine ⟨v, k1, k2, ?_⟩
          have e3 : es'[k][l] = AV.deep (snap M) es[k][l] := by simp [e2]
          rw [e3]
          exact (k3.deep fun v y h => h.snap hm).step S fun _ _ => trivial
        · have e2 : es'[i] = es[i] := by simp [hes, e1]
          have hl2 : l < es[i].length := by rw [e2] at hl'; exact hl'
          obtain ⟨v, k1, k2, k3⟩ := h7 i l hi2 hl2
          have e3 : es'[i][l] = es[i][l] := by simp [e2]
          exact ⟨v, k1, k2, by rw [e3]; exact k3.step S fun _ _ => trivial⟩
  · rw [if_neg hi] at h
    exact ⟨(hm.obj id _ h).1, .inr ⟨h, rfl, fun b v hG hb => ⟨rfl, fun _ h => h⟩⟩⟩
theorem SimA.snapE {j k : Nat} (s : SimA P fr ds G F st a w) (h : st.snapE j k = some st') : SimA P fr ds G F st' a w ∧ Step (· < fr.base) G F st.mem w G F st'.mem w := by
  unfold St.snapE at h
  split at h
  · rename_i esz es ho
    split at h
    · rename_i c0 hk
      cases h
      obtain ⟨hm', S'⟩ := simM_snapE s.sim.mem ho hk
      exact ⟨⟨⟨hm', fun k => (s.sim.slots k).step S' (fun _ _ => trivial), s.sim.size⟩, s.fresh, s.defers⟩, S'.mono fun _ _ => trivial⟩
    · cases h
  · cases h
theorem EvC.snapE (j k : Nat) (h : st.snapE j k = some st') (hc : EvC P fr ro ds c st' Q) : EvC P fr ro ds c st Q :=
  EvC.conv (fun _ _ _ _ s => let ⟨s', S'⟩ := s.snapE h; ⟨_, _, s', S'⟩) hc
end
attribute [go_sem] St.snapE
attribute [go_sem] St.thaw
end Go.Avl
namespace Go.Avl
open Go

def msegA : Nat → List RObj → Mem
  | _, [] => []
  | b, o :: r => (b, o) :: msegA (b + 1) r
def mseg (l : List RObj) : Mem := msegA 0 l
theorem mlook_msegA : ∀ (l : List RObj) (b i : Nat), mlook (msegA b l) i = if b ≤ i then l[i - b]? else none
  | [], b, i => by simp [msegA, mlook]
  | o :: r, b, i => by
    simp only [msegA, mlook]
    by_cases h : i = b
    · subst h; simp
    · rw [if_neg h, mlook_msegA r (b + 1) i]
      by_cases h2 : b ≤ i
      · rw [if_pos (by omega), if_pos h2, show i - b = (i - (b + 1)) + 1 by omega]; rfl
      · rw [if_neg (by omega), if_neg h2]
theorem mlook_mseg (l : List RObj) (i : Nat) : mlook (mseg l) i = l[i]? := by rw [mseg, mlook_msegA, if_pos (Nat.zero_le _), Nat.sub_zero]
theorem mset_msegA : ∀ (l : List RObj) (b i : Nat) (o : RObj), b ≤ i → i < b + l.length → mset (msegA b l) i o = msegA b (l.set (i - b) o)
  | [], b, i, o, h1, h2 => by simp at h2; omega
  | x :: r, b, i, o, h1, h2 => by
    simp only [msegA, mset]
    by_cases h : i = b
    · subst h; simp [msegA]
    · rw [if_neg h, mset_msegA r (b + 1) i o (by omega) (by simp at h2; omega), show i - b = (i - (b + 1)) + 1 by omega]; rfl
theorem mset_mseg {l : List RObj} {i : Nat} (o : RObj) (h : i < l.length) : mset (mseg l) i o = mseg (l.set i o) := by
  rw [mseg, mset_msegA l 0 i o (Nat.zero_le _) (by omega)]; rfl
theorem msegA_append : ∀ (l r : List RObj) (b : Nat), msegA b (l ++ r) = msegA b l ++ msegA (b + l.length) r
  | [], r, b => by simp [msegA]
  | x :: l, r, b => by simp only [List.cons_append, msegA, msegA_append l r (b + 1), List.length_cons]; rw [show b + 1 + l.length = b + (l.length + 1) by omega]
theorem mseg_snoc (l : List RObj) (o : RObj) {n : Nat} (h : l.length = n) : mseg l ++ [(n, o)] = mseg (l ++ [o]) := by
  subst h; rw [mseg, mseg, msegA_append]; simp [msegA]

/-- A number below n is none of the great ones. -/
theorem lo_ne {s : Nat} (h : s < 1000000) (k : Nat) (hk : 1000000 ≤ k) : (s = k) = False := eq_false (by omega)
theorem lo_ne' {s : Nat} (h : s < 1000000) (k : Nat) (hk : 1000000 ≤ k) : (k = s) = False := eq_false (by omega)

def idK (n : Nat) : List (Nat × Nat) := (List.range n).map fun i => (i, i)
def segK (A : List (Nat × Nat)) (n : Nat) (B : List (Nat × Nat)) : List (Nat × Nat) := A ++ (idK n ++ B)

theorem rlook_append (A B : List (Nat × Nat)) (k : Nat) : rlook (A ++ B) k = (rlook A k).or (rlook B k) := by
  induction A with
  | nil => simp [rlook]
  | cons p A ih =>
    obtain ⟨i, j⟩ := p
    simp only [List.cons_append, rlook]
    split
    · rfl
    · exact ih
theorem blook_append (A B : List (Nat × Nat)) (k : Nat) : blook (A ++ B) k = (blook A k).or (blook B k) := by
  induction A with
  | nil => simp [blook]
  | cons p A ih =>
    obtain ⟨i, j⟩ := p
    simp only [List.cons_append, blook]
    split
    · rfl
    · exact ih
theorem idK_succ (n : Nat) : idK (n + 1) = idK n ++ [(n, n)] := by simp [idK, List.range_succ]
theorem rlook_idK (n k : Nat) : rlook (idK n) k = if k < n then some k else none := by
  induction n with
  | zero => simp [idK, rlook]
  | succ n ih =>
    rw [idK_succ, rlook_append, ih]
    by_cases h : k < n
    · rw [if_pos h, if_pos (by omega)]; rfl
    · rw [if_neg h]
      by_cases h2 : k = n
      · subst h2; simp [rlook]
      · rw [if_neg (by omega)]; simp [rlook, h2]
theorem blook_idK (n k : Nat) : blook (idK n) k = if k < n then some k else none := by
  induction n with
  | zero => simp [idK, blook]
  | succ n ih =>
    rw [idK_succ, blook_append, ih]
    by_cases h : k < n
    · rw [if_pos h, if_pos (by omega)]; rfl
    · rw [if_neg h]
      by_cases h2 : k = n
      · subst h2; simp [blook]
      · rw [if_neg (by omega)]; simp [blook, h2]
theorem rlook_segK_hi {n : Nat} (hn : n ≤ 1000000) (A B : List (Nat × Nat)) (k : Nat) (hk : 1000000 ≤ k) : rlook (segK A n B) k = rlook (A ++ B) k := by
  rw [segK, rlook_append, rlook_append, rlook_append, rlook_idK, if_neg (by omega)]; simp
theorem rlook_hi : ∀ {A : List (Nat × Nat)} {s : Nat}, s < 1000000 → (A.all fun p => decide (1000000 ≤ p.1)) = true → rlook A s = none
  | [], _, _, _ => rfl
  | (i, j) :: A, s, hs, h => by
    simp only [List.all_cons, Bool.and_eq_true, decide_eq_true_eq] at h
    simp only [rlook]
    rw [if_neg (by omega)]
    exact rlook_hi hs h.2
theorem blook_hi : ∀ {A : List (Nat × Nat)} {s : Nat}, s < 1000000 → (A.all fun p => decide (1000000 ≤ p.2)) = true → blook A s = none
  | [], _, _, _ => rfl
  | (i, j) :: A, s, hs, h => by
    simp only [List.all_cons, Bool.and_eq_true, decide_eq_true_eq] at h
    simp only [blook]
    rw [if_neg (by omega)]
    exact blook_hi hs h.2
theorem rlook_segK_lo {n s : Nat} (hs : s < n) (hn : n ≤ 1000000) {A B : List (Nat × Nat)} (hA : (A.all fun p => decide (1000000 ≤ p.1)) = true) : rlook (segK A n B) s = some s := by
  rw [segK, rlook_append, rlook_append, rlook_idK, if_pos hs, rlook_hi (by omega) hA]; rfl

theorem renMem_append (M : Mem) (K : List (Nat × Nat)) : ∀ (A B : List (Nat × Nat)), renMem M K (A ++ B) = renMem M K A ++ renMem M K B
  | [], B => rfl
  | (i, j) :: A, B => by
    simp only [List.cons_append, renMem, renMem_append M K A B]
    split <;> simp
theorem renMem_segK (M : Mem) (A B : List (Nat × Nat)) (n : Nat) : renMem M (segK A n B) (segK A n B) = renMem M (segK A n B) A ++ (renMem M (segK A n B) (idK n) ++ renMem M (segK A n B) B) := by
  conv => lhs; arg 3; rw [segK]
  rw [renMem_append, renMem_append]
theorem renMem_congr {M M' : Mem} (K : List (Nat × Nat)) : ∀ {K' : List (Nat × Nat)}, (∀ p ∈ K', mlook M p.1 = mlook M' p.1) → renMem M K K' = renMem M' K K'
  | [], _ => rfl
  | (i, j) :: K', h => by
    simp only [renMem]
    rw [h (i, j) List.mem_cons_self, renMem_congr K fun p hp => h p (List.mem_cons_of_mem _ hp)]
theorem mset_mset_same (M : Mem) (i : Nat) (o o' : RObj) : mset (mset M i o) i o' = mset M i o' := by
  induction M with
  | nil => simp [mset]
  | cons p M ih =>
    obtain ⟨k, u⟩ := p
    simp only [mset]
    split
    · rename_i h; subst h; simp [mset]
    · rename_i h; simp only [mset, if_neg h, ih]
theorem mset_comm {i j : Nat} {o o' : RObj} : ∀ {M : Mem}, (mlook M j).isSome = true → j ≠ i → mset (mset M i o) j o' = mset (mset M j o') i o
  | [], h, _ => by simp [mlook] at h
  | (k, u) :: M, h, hne => by
    by_cases h1 : i = k
    · subst h1; simp only [mset, if_true, if_neg hne]
    · by_cases h2 : j = k
      · subst h2; simp only [mset, if_neg h1, if_true]
      · simp only [mset, if_neg h1, if_neg h2]
        simp only [mlook, if_neg h2] at h
        rw [mset_comm h hne]
theorem mset_seg_hi {l : List RObj} {s k : Nat} (hs : s < l.length) (hn : l.length ≤ 1000000) (hk : 1000000 ≤ k) (o o' : RObj) : mset (mset (mseg l) k o) s o' = mset (mseg (l.set s o')) k o := by
  rw [mset_comm (by rw [mlook_mseg, List.getElem?_eq_getElem hs]; rfl) (by omega), mset_mseg _ hs]
theorem mem_idK {n : Nat} {p : Nat × Nat} (h : p ∈ idK n) : p.1 < n ∧ p.2 = p.1 := by
  obtain ⟨i, h1, rfl⟩ := List.mem_map.1 h
  exact ⟨List.mem_range.1 h1, rfl⟩
theorem renMem_idK_cons {n : Nat} (hn : n ≤ 1000000) (k : Nat) (hk : 1000000 ≤ k) (o : RObj) (M : Mem) (K : List (Nat × Nat)) : renMem ((k, o) :: M) K (idK n) = renMem M K (idK n) :=
  renMem_congr K fun p hp => by have := (mem_idK hp).1; simp only [mlook]; rw [if_neg (by omega)]
theorem renMem_idK_mset {n : Nat} (hn : n ≤ 1000000) (k : Nat) (hk : 1000000 ≤ k) (o : RObj) (M : Mem) (K : List (Nat × Nat)) : renMem (mset M k o) K (idK n) = renMem M K (idK n) :=
  renMem_congr K fun p hp => by have := (mem_idK hp).1; rw [mlook_mset, if_neg (by omega)]
theorem renMem_idK (K : List (Nat × Nat)) (l : List RObj) : ∀ n, n ≤ l.length → renMem (mseg l) K (idK n) = mseg ((l.take n).map (RObj.ren K))
  | 0, _ => rfl
  | n + 1, h => by
    rw [idK_succ, renMem_append, renMem_idK K l n (by omega), List.take_add_one, List.getElem?_eq_getElem (by omega), List.map_append, Option.toList_some, List.map_singleton]
    rw [← mseg_snoc _ _ (n := n) (by simp; omega)]
    congr 1
    simp only [renMem, mlook_mseg]
    rw [List.getElem?_eq_getElem (by omega)]
theorem renMem_seg {n : Nat} {l : List RObj} (K : List (Nat × Nat)) (h : l.length = n) : renMem (mseg l) K (idK n) = mseg (l.map (RObj.ren K)) := by
  subst h; rw [renMem_idK K l _ (Nat.le_refl _), List.take_length]

theorem gcOk_append {base nx : Nat} : ∀ {A B : List (Nat × Nat)}, gcOk base nx A = true → gcOk base nx B = true → (∀ p ∈ A, blook B p.2 = none ∧ rlook B p.1 = none) → gcOk base nx (A ++ B) = true
  | [], B, _, h, _ => h
  | (i, j) :: A, B, h1, h2, h3 => by
    simp only [gcOk, Bool.and_eq_true, beq_iff_eq] at h1
    have h4 := h3 (i, j) List.mem_cons_self
    simp only [List.cons_append, gcOk, Bool.and_eq_true, beq_iff_eq]
    refine ⟨⟨⟨h1.1.1.1, ?_⟩, ?_⟩, gcOk_append h1.2 h2 fun p hp => h3 p (List.mem_cons_of_mem _ hp)⟩
    · rw [blook_append, h1.1.1.2, h4.1]; rfl
    · rw [rlook_append, h1.1.2, h4.2]; rfl
theorem gcOk_idK {base nx : Nat} (hb : base ≤ nx) : ∀ {n : Nat}, n ≤ nx → gcOk base nx (idK n) = true
  | 0, _ => by simp [idK, gcOk, hb]
  | n + 1, h => by
    rw [idK_succ]
    refine gcOk_append (gcOk_idK hb (by omega)) ?_ fun p hp => ?_
    · simp [gcOk, blook, rlook, hb]; omega
    · have := mem_idK hp
      simp only [blook, rlook]
      rw [if_neg (by omega), if_neg (by omega)]; exact ⟨rfl, rfl⟩
/-- A renaming of the great numbers, beside the small ones. -/
theorem segK_ok {base nx n : Nat} {A : List (Nat × Nat)} (hA : gcOk base nx A = true) (h1 : (A.all fun p => decide (1000000 ≤ p.1)) = true) (h2 : (A.all fun p => decide (1000000 ≤ p.2)) = true) (hn : n ≤ 1000000) (hx : 1000000 ≤ nx) : gcOk base nx (segK A n []) = true := by
  have hb := gcOk_base hA
  rw [segK, List.append_nil]
  refine gcOk_append hA (gcOk_idK hb (by omega)) fun p hp => ?_
  rw [List.all_eq_true] at h1 h2
  have a1 := of_decide_eq_true (h1 p hp)
  have a2 := of_decide_eq_true (h2 p hp)
  rw [blook_idK, rlook_idK, if_neg (by omega), if_neg (by omega)]; exact ⟨rfl, rfl⟩
/-- .. and one object more among the small ones. -/
theorem segK_ok1 {nx n k : Nat} {A : List (Nat × Nat)} (hA : gcOk 0 nx ((k, nx - 1) :: A) = true) (h1 : (((k, nx - 1) :: A).all fun p => decide (1000000 ≤ p.1)) = true) (h2 : (A.all fun p => decide (1000000 ≤ p.2)) = true) (hn : n < 1000000) (hx : 1000000 ≤ nx) : gcOk 0 nx (segK A n [(k, n)]) = true := by
  simp only [gcOk, Bool.and_eq_true, beq_iff_eq] at hA
  simp only [List.all_cons, Bool.and_eq_true, decide_eq_true_eq] at h1
  have h0 := segK_ok hA.2 h1.2 h2 (Nat.le_of_lt hn) hx
  have e : segK A n [(k, n)] = segK A n [] ++ [(k, n)] := by simp [segK]
  rw [e]
  refine gcOk_append h0 ?_ fun p hp => ?_
  · simp [gcOk, blook, rlook]; omega
  · have hb : p.2 ≠ n ∧ p.1 ≠ k := by
      rw [segK, List.append_nil] at hp
      rcases List.mem_append.1 hp with hp | hp
      · rw [List.all_eq_true] at h2
        have a2 := of_decide_eq_true (h2 p hp)
        refine ⟨by omega, fun hk => ?_⟩
        have := rlook_ne (show (p.1, p.2) ∈ A from hp)
        rw [hk] at this; exact this hA.1.2
      · have := mem_idK hp
        omega
    simp only [blook, rlook]
    rw [if_neg hb.1, if_neg hb.2]; exact ⟨rfl, rfl⟩

/-! ### Freezing them -/
def RObj.fzn : RObj → RObj
  | .arr esz es _ => .arr esz es true
  | o => o
def fzAll : Nat → Mem → Mem
  | 0, M => M
  | n + 1, M => match mlook (fzAll n M) n with
    | some o => mset (fzAll n M) n o.fzn
    | none => fzAll n M
/-- The cells of an object, read by their contents where these are frozen. -/
def St.snapA (j : Nat) (st : St) : Option St :=
  match mlook st.mem j with
  | some (.arr esz es false) => some ⟨st.vars, st.tmps, mset st.mem j (.arr esz (es.map fun c => c.map (AV.deep (snap st.mem))) false), st.nx⟩
  | _ => none

section
variable {P : Program} {fr : Fr} {ro : Option Nat} {ds : DS} {st st' : St} {Q Q' : Exit → St → Prop} {G G' : Nat → Option Value} {F F' : Nat → Nat → Prop} {a : Act} {w w' : World} {x y c : Code} {M : Mem}

theorem mlook_fzAll (M : Mem) (n i : Nat) : mlook (fzAll n M) i = if i < n then (mlook M i).map RObj.fzn else mlook M i := by
  induction n with
  | zero => simp [fzAll]
  | succ n ih =>
    have e : mlook (fzAll n M) n = mlook M n := by
      have : ∀ k, n ≤ k → mlook (fzAll n M) k = mlook M k := by
        clear ih
        intro k hk
        induction n with
        | zero => rfl
        | succ n ih2 =>
          simp only [fzAll]
          split
          · rw [mlook_mset, if_neg (by omega)]; exact ih2 (by omega)
          · exact ih2 (by omega)
      exact this n (Nat.le_refl _)
    simp only [fzAll]
    rw [e]
    split
    · rename_i o ho
      rw [mlook_mset]
      by_cases h : i = n
      · subst h; rw [if_pos rfl, if_pos (by omega), ho]; rfl
      · rw [if_neg h, ih]
        by_cases h2 : i < n
        · rw [if_pos h2, if_pos (by omega)]
        · rw [if_neg h2, if_neg (by omega)]
    · rename_i ho
      rw [ih]
      by_cases h : i = n
      · subst h; rw [if_neg (by omega), if_pos (by omega), ho]; rfl
      · by_cases h2 : i < n
        · rw [if_pos h2, if_pos (by omega)]
        · rw [if_neg h2, if_neg (by omega)]
theorem fzAll_cons {n : Nat} (hn : n ≤ 1000000) (k : Nat) (hk : 1000000 ≤ k) (o : RObj) (M : Mem) : fzAll n ((k, o) :: M) = (k, o) :: fzAll n M := by
  induction n with
  | zero => rfl
  | succ n ih =>
    have hne : ¬ n = k := by omega
    simp only [fzAll, ih (by omega), mlook, if_neg hne]
    split
    · simp only [mset, if_neg hne]
    · rfl
theorem fzAll_seg' (l : List RObj) : ∀ n, n ≤ l.length → fzAll n (mseg l) = mseg ((l.take n).map RObj.fzn ++ l.drop n)
  | 0, _ => by simp [fzAll]
  | n + 1, h => by
    have hd : l.drop n = l[n] :: l.drop (n + 1) := List.drop_eq_getElem_cons (by omega)
    have hl : ((l.take n).map RObj.fzn).length = n := by simp; omega
    simp only [fzAll]
    rw [fzAll_seg' l n (by omega), mlook_mseg, List.getElem?_append_right (by omega), hl, Nat.sub_self, hd]
    simp only [List.getElem?_cons_zero]
    rw [mset_mseg _ (by simp; omega), List.set_append_right _ _ (by omega), hl, Nat.sub_self, List.set_cons_zero, List.take_add_one, List.getElem?_eq_getElem (by omega), Option.toList_some, List.map_append, List.map_singleton, List.append_assoc]
    rfl
theorem fzAll_seg {n : Nat} {l : List RObj} (h : l.length = n) : fzAll n (mseg l) = mseg (l.map RObj.fzn) := by
  subst h; rw [fzAll_seg' l _ (Nat.le_refl _), List.take_length, List.drop_length, List.append_nil]
theorem SimA.fzAll (n : Nat) (s : SimA P fr ds G F st a w) (h : ∀ i, i < n → ∃ esz es fz, mlook st.mem i = some (.arr esz es fz) ∧ es.all AV.norefs = true) :
    ∃ F', SimA P fr ds G F' ⟨st.vars, st.tmps, Avl.fzAll n st.mem, st.nx⟩ a w ∧ Step (· < fr.base) G F st.mem w G F' (Avl.fzAll n st.mem) w := by
  induction n with
  | zero => exact ⟨F, s, .refl⟩
  | succ n ih =>
    obtain ⟨F1, s1, S1⟩ := ih fun i hi => h i (by omega)
    obtain ⟨esz, es, fz, ho, hn⟩ := h n (Nat.lt_succ_self _)
    have hm : mlook (Avl.fzAll n st.mem) n = some (.arr esz es fz) := by rw [mlook_fzAll, if_neg (by omega)]; exact ho
    have he : St.fz n ⟨st.vars, st.tmps, Avl.fzAll n st.mem, st.nx⟩ = some ⟨st.vars, st.tmps, mset (Avl.fzAll n st.mem) n (.arr esz es true), st.nx⟩ := by
      simp only [St.fz, hm, hn]; rfl
    obtain ⟨F2, s2, S2⟩ := s1.fz he
    refine ⟨F2, ?_, ?_⟩
    · simp only [Avl.fzAll, hm]; exact s2
    · simp only [Avl.fzAll, hm]; exact S1.trans S2
theorem EvC.fzAll (n : Nat) (h : ∀ i, i < n → ∃ esz es fz, mlook st.mem i = some (.arr esz es fz) ∧ es.all AV.norefs = true) (hc : EvC P fr ro ds c ⟨st.vars, st.tmps, Avl.fzAll n st.mem, st.nx⟩ Q) : EvC P fr ro ds c st Q :=
  EvC.conv (fun _ _ _ _ s => let ⟨F', s', S'⟩ := s.fzAll n h; ⟨_, F', s', S'⟩) hc

theorem simM_snapA {nx j esz : Nat} {es : List (List AV)} (hm : SimM P G F M nx w) (ho : mlook M j = some (.arr esz es false)) :
    SimM P G F (mset M j (.arr esz (es.map fun c => c.map (AV.deep (snap M))) false)) nx w ∧ Step All G F M w G F (mset M j (.arr esz (es.map fun c => c.map (AV.deep (snap M))) false)) w := by
  obtain ⟨es', hes⟩ : ∃ es', es' = es.map fun c => c.map (AV.deep (snap M)) := ⟨_, rfl⟩
  rw [← hes]
  have hle : es'.length = es.length := by rw [hes, List.length_map]
  have hold := (hm.obj j _ ho).2
  have S : Step All G F M w G F (mset M j (.arr esz es' false)) w :=
    { kept := .refl
      size := Nat.le_refl _
      out := fun _ _ _ => rfl
      F1 := fun _ _ h => h
      F2 := fun _ _ _ => rfl
      F3 := fun b o h => .inl h
      own := fun b ⟨id, o, v, h3, h4, h5⟩ => by
        rw [mlook_mset] at h3
        by_cases hi : id = j
        · subst hi; exact .inr ⟨id, _, v, ho, h4, h5⟩
        · rw [if_neg hi] at h3; exact .inr ⟨id, o, v, h3, h4, h5⟩
      some' := fun _ _ h => h
      same := fun _ _ _ h _ => h
      keep := fun id o' _ hG h3 => by
        obtain ⟨v, hv⟩ := Option.ne_none_iff_exists'.1 hG
        rw [mlook_mset] at h3
        by_cases hi : id = j
        · subst hi
          rw [if_pos rfl] at h3; cases h3
          exact ⟨_, v, v, ho, hv, hv, ⟨rfl, .inl ⟨hle, rfl⟩⟩⟩
        · rw [if_neg hi] at h3
          exact ⟨o', v, v, h3, hv, hv, objKeep.refl v o'⟩ }
  have hinj : ∀ id id' v v' b, mlook (mset M j (.arr esz es' false)) id ≠ none → mlook (mset M j (.arr esz es' false)) id' ≠ none → G id = some v → G id' = some v' → blkOf v = some b → blkOf v' = some b → id = id' := by
    intro id id' v v' b h1 h2
    refine hm.inj id id' v v' b ?_ ?_
    · rw [mlook_mset] at h1; by_cases hi : id = j
      · subst hi; rw [ho]; simp
      · rwa [if_neg hi] at h1
    · rw [mlook_mset] at h2; by_cases hi : id' = j
      · subst hi; rw [ho]; simp
      · rwa [if_neg hi] at h2
  refine ⟨simM_gen hm S (fun id o' h => ?_) hinj hm.inF, S⟩
  rw [mlook_mset] at h
  by_cases hi : id = j
  · subst hi; rw [if_pos rfl] at h; cases h
    refine ⟨(hm.obj id _ ho).1, .inl ?_⟩
    rcases hold with ⟨h0, h0'⟩ | ⟨b, c, cc, e, h1, h2, h3, h4, h5, h6, h7, h8, h9⟩
    · exact .inl ⟨by rw [hes, h0]; rfl, h0'⟩
    · refine .inr ⟨b, c, cc, e, by rw [hle]; exact h1, h2, h3, by rw [hle]; exact h4, h5, fun i hi' => ?_, fun i l hi' hl' => ?_, fun o h => absurd (h8 o h).1 (by simp), fun h => (by cases h)⟩
      · have hi2 : i < es.length := by rw [← hle]; exact hi'
        simp only [hes, List.getElem_map, List.length_map]
        exact h6 _ hi2
      · have hi2 : i < es.length := by rw [← hle]; exact hi'
        have e2 : es'[i] = es[i].map (AV.deep (snap M)) := by simp [hes]
        have hl2 : l < es[i].length := by rw [e2, List.length_map] at hl'; exact hl'
        obtain ⟨v, k1, k2, k3⟩ := h7 i l hi2 hl2
        refine ⟨v, k1, k2, ?_⟩
        have e3 : es'[i][l] = AV.deep (snap M) es[i][l] := by simp [e2]
        rw [e3]
        exact (k3.deep fun v y h => h.snap hm).step S fun _ _ => trivial
  · rw [if_neg hi] at h
    exact ⟨(hm.obj id _ h).1, .inr ⟨h, rfl, fun b v hG hb => ⟨rfl, fun _ h => h⟩⟩⟩
theorem SimA.snapA {j : Nat} (s : SimA P fr ds G F st a w) (h : st.snapA j = some st') : SimA P fr ds G F st' a w ∧ Step (· < fr.base) G F st.mem w G F st'.mem w := by
  unfold St.snapA at h
  split at h
  · rename_i esz es ho
    cases h
    obtain ⟨hm', S'⟩ := simM_snapA s.sim.mem ho
    exact ⟨⟨⟨hm', fun k => (s.sim.slots k).step S' (fun _ _ => trivial), s.sim.size⟩, s.fresh, s.defers⟩, S'.mono fun _ _ => trivial⟩
  · cases h
theorem EvC.snapA (j : Nat) (h : st.snapA j = some st') (hc : EvC P fr ro ds c st' Q) : EvC P fr ro ds c st Q :=
  EvC.conv (fun _ _ _ _ s => let ⟨s', S'⟩ := s.snapA h; ⟨_, _, s', S'⟩) hc
end
attribute [go_sem] St.snapA mlook_mseg renMem_segK
end Go.Avl
namespace Go.Avl
open Go

/-- The slots that an operation reads, its guard's among them. -/
def slotsOf (ops : List It) (o : Oper) : List Nat := opSlots o.op.operands.toList ++ match o.guard with
  | some (j, _) => match ops[j]? with
    | some u => match u.o.dst with
      | some k => [2 * k]
      | none => []
    | none => []
  | none => []
def dstC (o : Oper) : List Nat := match o.dst with
  | some k => [2 * k]
  | none => []
def rdOk (ops : List It) (t : It) : Bool := t.rd.all fun x => (x % 2 == 1 && !memless t.o.op) || (slotsOf ops t.o).contains x
def confT (ops : List It) (i : Nat) (t : It) : Nat → List It → Bool
  | _, [] => true
  | m, u :: l => (i == m || (depsOf t.o).contains m || (depsOf u.o).contains i || (!((slotsOf ops t.o ++ dstC t.o).any fun x => (dstC u.o).contains x) && !((!memless t.o.op || t.r.fx.isSome) && u.r.fx.isSome))) && confT ops i t (m + 1) l
def confS (all : List It) : Nat → List It → Bool
  | _, [] => true
  | i, t :: l => (depsOf t.o).all (fun e => decide (e < i)) && confT all i t 0 all && confS all (i + 1) l

theorem confT_spec {all : List It} {i : Nat} {t : It} : ∀ (l : List It) (m0 : Nat), confT all i t m0 l = true → ∀ m u, l[m]? = some u → i = m0 + m ∨ m0 + m ∈ depsOf t.o ∨ i ∈ depsOf u.o ∨ ((∀ x, x ∈ slotsOf all t.o ∨ x ∈ dstC t.o → x ∉ dstC u.o) ∧ (memless t.o.op = true ∧ t.r.fx = none ∨ u.r.fx = none)) := by
  intro l
  induction l with
  | nil => intro m0 _ m u hm; simp at hm
  | cons u0 l ih =>
    intro m0 h m u hm
    simp only [confT, Bool.and_eq_true] at h
    cases m with
    | zero =>
      have e : u0 = u := by simpa using hm
      subst e
      have h1 := h.1
      simp only [Bool.or_eq_true, beq_iff_eq, List.contains_iff_mem, Bool.and_eq_true, Bool.not_eq_true', List.any_eq_false, List.mem_append] at h1
      rcases h1 with ((h1 | h1) | h1) | h1
      · exact .inl h1
      · exact .inr (.inl h1)
      · exact .inr (.inr (.inl h1))
      · refine .inr (.inr (.inr ⟨fun x hx hm => h1.1 x hx (by simpa using hm), ?_⟩))
        have h2 := h1.2
        cases hu : u0.r.fx with
        | none => exact .inr rfl
        | some p =>
          left
          rw [hu] at h2
          cases ht : t.r.fx with
          | none => rw [ht] at h2; simp at h2; exact ⟨h2, rfl⟩
          | some q => rw [ht] at h2; simp at h2
    | succ m =>
      have := ih (m0 + 1) h.2 m u (by simpa using hm)
      rwa [show m0 + 1 + m = m0 + (m + 1) by omega] at this
theorem confS_spec {all : List It} : ∀ (l : List It) (i0 : Nat), confS all i0 l = true → ∀ i t, l[i]? = some t → (∀ e ∈ depsOf t.o, e < i0 + i) ∧ confT all (i0 + i) t 0 all = true := by
  intro l
  induction l with
  | nil => intro i0 _ i t hi; simp at hi
  | cons t0 l ih =>
    intro i0 h i t hi
    simp only [confS, Bool.and_eq_true] at h
    cases i with
    | zero =>
      have e : t0 = t := by simpa using hi
      subst e
      refine ⟨fun e he => ?_, h.1.2⟩
      have := h.1.1
      rw [List.all_eq_true] at this
      simpa using this e he
    | succ i =>
      have := ih (i0 + 1) h.2 i t (by simpa using hi)
      rwa [show i0 + 1 + i = i0 + (i + 1) by omega] at this
theorem wl_split {d : Option Nat} {r : Rc} {x : Nat} (h : x ∈ wl d r) : (d.isSome = true ∧ x ∈ (match d with | some k => [2 * k] | none => [])) ∨ (x % 2 = 1 ∧ r.fx ≠ none) := by
  unfold wl at h
  rcases List.mem_append.1 h with h | h
  · cases d with
    | none => cases h
    | some k => exact .inl ⟨rfl, h⟩
  · right
    cases hf : r.fx with
    | none => rw [hf] at h; cases h
    | some p => rw [hf] at h; simp at h; exact ⟨by omega, by simp⟩
theorem Conf.ofS {l : List It} (h1 : l.all (rdOk l) = true) (h2 : confS l 0 l = true) : Conf l where
  back := fun i t hi e he => by have := (confS_spec l 0 h2 i t hi).1 e he; omega
  edge := fun i m t u hi hm hne x hx hu => by
    have h3 := (confS_spec l 0 h2 i t hi).2
    rw [Nat.zero_add] at h3
    have h4 := confT_spec l 0 h3 m u hm
    rw [Nat.zero_add] at h4
    rcases h4 with h4 | h4 | h4 | ⟨h4, h5⟩
    · exact absurd h4 hne
    · exact .inl h4
    · exact .inr h4
    · exfalso
      rw [List.all_eq_true] at h1
      have h6 := h1 t (List.mem_of_getElem? hi)
      unfold rdOk at h6
      rw [List.all_eq_true] at h6
      have hd : ∀ {o : Oper} {r : Rc}, x ∈ wl o.dst r → x ∈ dstC o ∨ (x % 2 = 1 ∧ r.fx ≠ none) := fun {o r} h => by
        rcases wl_split h with h | h
        · exact .inl h.2
        · exact .inr h
      have he : ∀ {o : Oper}, x ∈ dstC o → x % 2 = 0 := fun {o} h => by
        unfold dstC at h
        split at h
        · simp at h; omega
        · cases h
      rcases hd hu with hu | ⟨hu1, hu2⟩
      · have hev := he hu
        rcases hx with hx | hx
        · have := h6 x hx
          simp only [Bool.or_eq_true, Bool.and_eq_true, beq_iff_eq, List.contains_iff_mem] at this
          rcases this with h | h
          · omega
          · exact h4 x (.inl h) hu
        · rcases hd hx with hx | ⟨h, _⟩
          · exact h4 x (.inr hx) hu
          · omega
      · rcases h5 with ⟨h5, h5'⟩ | h5
        · rcases hx with hx | hx
          · have := h6 x hx
            simp only [Bool.or_eq_true, Bool.and_eq_true, beq_iff_eq, List.contains_iff_mem, h5, Bool.not_true, Bool.false_eq_true, and_false, false_or] at this
            have hs : ∀ y ∈ slotsOf l t.o, y % 2 = 0 := fun y hy => by
              unfold slotsOf at hy
              rcases List.mem_append.1 hy with hy | hy
              · have hos : ∀ xs : List Operand, ∀ y ∈ opSlots xs, y % 2 = 0 := by
                  intro xs
                  induction xs with
                  | nil => intro y hy; simp [opSlots] at hy
                  | cons z xs ih =>
                    intro y hy
                    cases z with
                    | tmp t =>
                      simp only [opSlots, List.mem_cons] at hy
                      rcases hy with hy | hy
                      · omega
                      · exact ih y hy
                    | const v => exact ih y (by simpa only [opSlots] using hy)
                    | global g => exact ih y (by simpa only [opSlots] using hy)
                    | func f => exact ih y (by simpa only [opSlots] using hy)
                exact hos _ y hy
              · split at hy
                · split at hy
                  · split at hy
                    · simp at hy; omega
                    · cases hy
                  · cases hy
                · cases hy
            have := hs x this
            omega
          · rcases hd hx with hx | ⟨_, h⟩
            · have := he hx; omega
            · exact h h5'
        · exact hu2 h5
theorem confOne_of {i : Nat} {t : It} {all : List It} (hc : Conf all) (hi : all[i]? = some t) : ∀ (l : List It) (m0 : Nat), (∀ m u, l[m]? = some u → all[m0 + m]? = some u) → confOne i t m0 l = true
  | [], _, _ => rfl
  | u :: l, m0, h => by
    simp only [confOne, Bool.and_eq_true]
    refine ⟨?_, confOne_of hc hi l (m0 + 1) fun m u hm => by rw [show m0 + 1 + m = m0 + (m + 1) by omega]; exact h (m + 1) u (by simpa using hm)⟩
    have hu := h 0 u (by simp)
    rw [Nat.add_zero] at hu
    by_cases e : i = m0
    · simp [e]
    by_cases hx : ((t.rd ++ wl t.o.dst t.r).any fun x => (wl u.o.dst u.r).contains x) = true
    · rw [List.any_eq_true] at hx
      obtain ⟨x, h1, h2⟩ := hx
      rcases hc.edge i m0 t u hi hu e x (List.mem_append.1 h1) (by simpa using h2) with h | h
      · simp [h]
      · simp [h]
    · simp only [Bool.not_eq_true] at hx
      rw [hx]; simp
theorem confAll_of' {all : List It} (hc : Conf all) : ∀ (l : List It) (i0 : Nat), (∀ i t, l[i]? = some t → all[i0 + i]? = some t) → confAll all i0 l = true
  | [], _, _ => rfl
  | t :: l, i0, h => by
    have ht := h 0 t (by simp)
    rw [Nat.add_zero] at ht
    simp only [confAll, Bool.and_eq_true]
    refine ⟨⟨?_, confOne_of hc ht all 0 fun m u hm => by rw [Nat.zero_add]; exact hm⟩, confAll_of' hc l (i0 + 1) fun i t hi => by rw [show i0 + 1 + i = i0 + (i + 1) by omega]; exact h (i + 1) t (by simpa using hi)⟩
    rw [List.all_eq_true]
    intro e he
    simpa using hc.back i0 t ht e he
/-- The order of a drawn region, by its slots. -/
theorem confAll_slots {l : List It} (h1 : l.all (rdOk l) = true) (h2 : confS l 0 l = true) : confAll l 0 l = true :=
  confAll_of' (Conf.ofS h1 h2) l 0 fun i t h => by rw [Nat.zero_add]; exact h
theorem odd_code (x : Nat) : ((2 * x + 1) % 2 == 1) = true := by simp
end Go.Avl
namespace Go.Avl
open Go

/-- What has no references stays as it is. -/
theorem deep_fix {σ : AV → AV} (hσ : ∀ v, v.noref = true → σ v = v) : ∀ (d : Nat) (v : AV), SizeOf.sizeOf v ≤ d → v.noref = true → v.deep σ = v
  | 0, v, h, _ => by cases v <;> simp at h
  | d + 1, v, h, hn => by
    have hl : ∀ cs : List AV, SizeOf.sizeOf cs ≤ d → AV.norefs cs = true → AV.deeps σ cs = cs := by
      intro cs
      induction cs with
      | nil => intro _ _; rfl
      | cons c cs ih =>
        intro h1 h2
        simp only [AV.norefs, Bool.and_eq_true] at h2
        simp only [List.cons.sizeOf_spec] at h1
        rw [AV.deeps, deep_fix hσ d c (by omega) h2.1, ih (by omega) h2.2]
    cases v with
    | ag cs => simp only [AV.ag.sizeOf_spec] at h; rw [AV.deep, hl cs (by omega) (by simpa [AV.noref] using hn)]
    | tu cs => simp only [AV.tu.sizeOf_spec] at h; rw [AV.deep, hl cs (by omega) (by simpa [AV.noref] using hn)]
    | ifc t v => simp only [AV.ifc.sizeOf_spec] at h; rw [AV.deep, deep_fix hσ d v (by omega) (by simpa [AV.noref] using hn)]
    | fn f cs => simp only [AV.fn.sizeOf_spec] at h; rw [AV.deep, hl cs (by omega) (by simpa [AV.noref] using hn)]
    | opt b v => simp only [AV.opt.sizeOf_spec] at h; rw [AV.deep, deep_fix hσ d v (by omega) (by simpa [AV.noref] using hn)]
    | _ => exact hσ _ hn
theorem deeps_fix {σ : AV → AV} (hσ : ∀ v, v.noref = true → σ v = v) : ∀ {cs : List AV}, AV.norefs cs = true → AV.deeps σ cs = cs
  | [], _ => rfl
  | c :: cs, h => by
    simp only [AV.norefs, Bool.and_eq_true] at h
    rw [AV.deeps, deep_fix hσ _ c (Nat.le_refl _) h.1, deeps_fix hσ h.2]
theorem snap_fix (M : Mem) (v : AV) (h : v.noref = true) : snap M v = v := by cases v <;> first | rfl | cases h
theorem toIa_fix (i : Nat) (cs : List AV) (v : AV) (h : v.noref = true) : toIa i cs v = v := by cases v <;> first | rfl | cases h
theorem deeps_snap {cs : List AV} (h : AV.norefs cs = true) (M : Mem) : AV.deeps (snap M) cs = cs := deeps_fix (snap_fix M) h
theorem deeps_toIa {cs : List AV} (h : AV.norefs cs = true) (i : Nat) (ds : List AV) : AV.deeps (toIa i ds) cs = cs := deeps_fix (toIa_fix i ds) h

section
variable {α : Type}
def upd1 (f : Nat → α) (t : Nat) (x : α) : Nat → α := fun k => if k = t then x else f k
def upd2 (W : Nat → Nat → α) (s t : Nat) (x : α) : Nat → Nat → α := fun a b => if a = s ∧ b = t then x else W a b
def gcells (C : α → List AV) (f : Nat → α) (m : Nat) : List (List AV) := (List.range m).map fun t => C (f t)
theorem gcells_len (C : α → List AV) (f : Nat → α) (m : Nat) : (gcells C f m).length = m := by simp [gcells]
theorem gcells_get (C : α → List AV) (f : Nat → α) {m t : Nat} (h : t < m) : (gcells C f m)[t]? = some (C (f t)) := by rw [gcells, List.getElem?_map, List.getElem?_range h]; rfl
theorem gcells_norefs {C : α → List AV} (hC : ∀ x, AV.norefs (C x) = true) (f : Nat → α) (m : Nat) : (gcells C f m).all AV.norefs = true := by simp [List.all_eq_true, gcells, hC]
theorem gcells_all {C : α → List AV} {e : Nat} (hC : ∀ x, (C x).length = e) (f : Nat → α) (m : Nat) : ((gcells C f m).all fun y => decide (y.length = e)) = true := by simp [List.all_eq_true, gcells, hC]
theorem gcells_const (C : α → List AV) (x : α) (m : Nat) : List.replicate m (C x) = gcells C (fun _ => x) m :=
  List.ext_getElem (by simp [gcells]) fun i h1 h2 => by simp [gcells]
theorem gcells_congr (C : α → List AV) {f g : Nat → α} {m : Nat} (h : ∀ t, t < m → f t = g t) : gcells C f m = gcells C g m :=
  List.map_congr_left fun t ht => by rw [h t (List.mem_range.1 ht)]
theorem range_set {β : Type} (f : Nat → β) {n s : Nat} (x : β) (h : s < n) : ((List.range n).map f).set s x = (List.range n).map fun i => if i = s then x else f i := by
  refine List.ext_getElem (by simp) fun i h1 h2 => ?_
  simp only [List.getElem_set, List.getElem_map, List.getElem_range]
  by_cases e : s = i
  · subst e; simp
  · rw [if_neg e, if_neg (Ne.symm e)]
theorem gcells_set (C : α → List AV) (f : Nat → α) {m t : Nat} (x : α) (h : t < m) : (gcells C f m).set t (C x) = gcells C (upd1 f t x) m := by
  rw [gcells, range_set _ _ h, gcells]
  refine List.map_congr_left fun k _ => ?_
  by_cases e : k = t
  · subst e; simp [upd1]
  · simp [upd1, e]
theorem gcells_snoc (C : α → List AV) (f : Nat → α) (m : Nat) : gcells C f m ++ [C (f m)] = gcells C f (m + 1) := by simp [gcells, List.range_succ]

/-- The cells of the outer slice: each row a slice of its own. -/
def mcell (m n : Nat) : List (List AV) := (List.range n).map fun s => [.tv s m 0 m (.val m)]
theorem mcell_len (m n : Nat) : (mcell m n).length = n := by simp [mcell]
theorem mcell_get {m n s : Nat} (h : s < n) : (mcell m n)[s]? = some [.tv s m 0 m (.val m)] := by rw [mcell, List.getElem?_map, List.getElem?_range h]; rfl
theorem mcell_succ (m n : Nat) : mcell m n ++ [[.tv n m 0 m (.val m)]] = mcell m (n + 1) := by simp [mcell, List.range_succ]
theorem mcell_ren {m n : Nat} {K : List (Nat × Nat)} (h : ∀ s, s < n → rlook K s = some s) : (mcell m n).map (fun c => c.map (AV.ren K)) = mcell m n := by
  rw [mcell, List.map_map]
  refine List.map_congr_left fun s hs => ?_
  simp only [Function.comp, List.map_cons, List.map_nil, AV.ren, AV.noref, Bool.false_eq_true, if_false, AV.deep, renLeaf, h s (List.mem_range.1 hs)]
theorem mcell_snap {m n e : Nat} {M : Mem} {row : Nat → List (List AV)} (h : ∀ s, s < n → mlook M s = some (.arr e (row s) true)) (hl : ∀ s, s < n → (row s).length = m) : (mcell m n).map (fun c => c.map (AV.deep (snap M))) = (List.range n).map fun s => [.sl false (row s) .full] := by
  rw [mcell, List.map_map]
  refine List.map_congr_left fun s hs => ?_
  have hs := List.mem_range.1 hs
  have e2 : tvEs (row s) m 0 m = row s := by simp [tvEs]
  simp only [Function.comp, List.map_cons, List.map_nil, AV.deep, snap, h s hs, hl s hs, if_true, e2, tvCap]

/-- Some rows made, the others nil. -/
def mpart (m n s : Nat) : List (List AV) := mcell m s ++ List.replicate (n - s) [.sl true [] .zer]
theorem mpart_len {m n s : Nat} (h : s ≤ n) : (mpart m n s).length = n := by simp [mpart, mcell_len]; omega
theorem mpart_zero (m n : Nat) : mpart m n 0 = List.replicate n [.sl true [] .zer] := by simp [mpart, mcell]
theorem mpart_all (m n : Nat) : mpart m n n = mcell m n := by simp [mpart]
theorem mpart_get {m n s : Nat} (h : s < n) : (mpart m n s)[s]? = some [.sl true [] .zer] := by
  rw [mpart, List.getElem?_append_right (by rw [mcell_len]; omega), mcell_len, Nat.sub_self, List.getElem?_replicate, if_pos (by omega)]
theorem mpart_ren {m n s k : Nat} {K : List (Nat × Nat)} (h : s < n) (hk : rlook K k = some s) (hK : ∀ j, j < s → rlook K j = some j) : ((mpart m n s).set s [.tv k m 0 m (.val m)]).map (fun c => c.map (AV.ren K)) = mpart m n (s + 1) := by
  obtain ⟨d, hd⟩ : ∃ d, n - s = d + 1 := ⟨n - s - 1, by omega⟩
  have hd' : n - (s + 1) = d := by omega
  rw [mpart, List.set_append_right _ _ (by rw [mcell_len]; omega), mcell_len, Nat.sub_self, hd, List.replicate_succ, List.set_cons_zero, List.map_append, mcell_ren hK, List.map_cons, mpart, hd', ← mcell_succ, List.append_assoc]
  congr 1
  simp [AV.ren, AV.noref, AV.deep, renLeaf, hk]
theorem mpart_same {m n s : Nat} {K : List (Nat × Nat)} (hK : ∀ j, j < s → rlook K j = some j) : (mpart m n s).map (fun c => c.map (AV.ren K)) = mpart m n s := by
  rw [mpart, List.map_append, mcell_ren hK]
  congr 1
  simp [AV.ren, AV.noref]
theorem mpart_norefs {m n s k : Nat} (h : s < n) : ((mpart m n s).set s [.tv k m 0 m (.val m)]).all AV.norefs = false := by
  rw [List.all_eq_false]
  refine ⟨[.tv k m 0 m (.val m)], ?_, by simp [AV.norefs, AV.noref]⟩
  rw [List.mem_iff_getElem]
  exact ⟨s, by rw [List.length_set, mpart_len (Nat.le_of_lt h)]; exact h, by simp⟩
def grow (e : Nat) (C : α → List AV) (W : Nat → Nat → α) (m s : Nat) : RObj := .arr e (gcells C (W s) m) false
/-- The rows, as objects. -/
def gtab (e : Nat) (C : α → List AV) (W : Nat → Nat → α) (n m : Nat) : Mem := mseg ((List.range n).map (grow e C W m))
theorem gtab_zero (e : Nat) (C : α → List AV) (W : Nat → Nat → α) (m : Nat) : gtab e C W 0 m = [] := rfl
theorem gtab_look (e : Nat) (C : α → List AV) (W : Nat → Nat → α) {n m s : Nat} (h : s < n) : mlook (gtab e C W n m) s = some (.arr e (gcells C (W s) m) false) := by
  rw [gtab, mlook_mseg, List.getElem?_map, List.getElem?_range h]; rfl
theorem gtab_set (e : Nat) (C : α → List AV) (W : Nat → Nat → α) {n m s t : Nat} (x : α) (hs : s < n) (ht : t < m) : mset (gtab e C W n m) s (.arr e ((gcells C (W s) m).set t (C x)) false) = gtab e C (upd2 W s t x) n m := by
  rw [gtab, mset_mseg _ (by simpa using hs), range_set _ _ hs, gcells_set C _ x ht, gtab]
  congr 1
  refine List.map_congr_left fun i _ => ?_
  by_cases e2 : i = s
  · subst e2; rw [if_pos rfl, grow]
    congr 1
    refine gcells_congr C fun k _ => ?_
    simp [upd1, upd2]
  · rw [if_neg e2, grow, grow]
    congr 1
    refine gcells_congr C fun k _ => ?_
    simp [upd2, e2]
theorem gtab_set_hi (e : Nat) (C : α → List AV) (W : Nat → Nat → α) {n m s t k : Nat} (x : α) (hs : s < n) (ht : t < m) (hn : n ≤ 1000000) (hk : 1000000 ≤ k) (o : RObj) : mset (mset (gtab e C W n m) k o) s (.arr e ((gcells C (W s) m).set t (C x)) false) = mset (gtab e C (upd2 W s t x) n m) k o := by
  rw [mset_comm (by rw [gtab_look e C W hs]; rfl) (by omega), gtab_set e C W x hs ht]
theorem gtab_ren (e : Nat) {C : α → List AV} (hC : ∀ x, AV.norefs (C x) = true) (W : Nat → Nat → α) (n m : Nat) (K : List (Nat × Nat)) : renMem (gtab e C W n m) K (idK n) = gtab e C W n m := by
  rw [gtab, renMem_seg K (by simp), List.map_map]
  congr 1
  refine List.map_congr_left fun s _ => ?_
  simp only [Function.comp, grow, RObj.ren, gcells_norefs hC, if_true]
theorem gtab_snoc (e : Nat) (C : α → List AV) (W : Nat → Nat → α) (n m : Nat) : gtab e C W n m ++ [(n, .arr e (gcells C (W n) m) false)] = gtab e C W (n + 1) m := by
  rw [gtab, mseg_snoc _ _ (n := n) (by simp), gtab, List.range_succ, List.map_append]; rfl
theorem gtab_snoc1 (e : Nat) (C : α → List AV) (x : α) (n m : Nat) : gtab e C (fun _ _ => x) n m ++ [(n, .arr e (gcells C (fun _ => x) m) false)] = gtab e C (fun _ _ => x) (n + 1) m := gtab_snoc e C (fun _ _ => x) n m
/-- The same, frozen. -/
def gtabF (e : Nat) (C : α → List AV) (W : Nat → Nat → α) (n m : Nat) : Mem := mseg ((List.range n).map fun s => (grow e C W m s).fzn)
theorem gtab_fz (e : Nat) (C : α → List AV) (W : Nat → Nat → α) (n m : Nat) : fzAll n (gtab e C W n m) = gtabF e C W n m := by
  rw [gtab, fzAll_seg (by simp), List.map_map]; rfl
theorem gtabF_look (e : Nat) (C : α → List AV) (W : Nat → Nat → α) {n m s : Nat} (h : s < n) : mlook (gtabF e C W n m) s = some (.arr e (gcells C (W s) m) true) := by
  rw [gtabF, mlook_mseg, List.getElem?_map, List.getElem?_range h]; rfl
end
end Go.Avl
namespace Go.Avl
open Go

def retB (P : Program) (fr : Fr) (results : List ResultVar) (R : AV → Mem → Nat → Prop) : Exit → St → Prop :=
  fun e st => (e = .ret ∨ e = .normal) ∧ ∃ rs, resAllR P fr st results = some rs ∧ R (mkRes rs) st.mem st.nx
def BodyIs (P : Program) (f : FuncId) (args : List AV) (M : Mem) (nx : Nat) (R : AV → Mem → Nat → Prop) : Prop :=
  ∃ fn c nv hid, P.funcs[f]? = some fn ∧ fn.body = some c ∧ (fn.name == "runtime.NumGoroutine") = false ∧ args.length ≤ fn.ntmps ∧
    ∀ h0 : Nat, EvC P ⟨nx, nv, hid, fn.ntmps⟩ none ⟨h0, none, false⟩ c ⟨vars0 0 args, [], M, nx⟩ (retB P ⟨nx, nv, hid, fn.ntmps⟩ fn.results.toList R)

section
variable {P : Program} {fr : Fr} {ro : Option Nat} {ds : DS} {st st' : St} {Q Q' : Exit → St → Prop} {c : Code} {M : Mem} {ops : Array Oper} {l rest : List Oper} {o : Oper}

theorem BodyIs.of {f : FuncId} {fn : Func} {args : List AV} {nx nv : Nat} {hid : List Nat} {R : AV → Mem → Nat → Prop} (hf : P.funcs[f]? = some fn) (hb : fn.body = some c) (hnm : (fn.name == "runtime.NumGoroutine") = false) (hsz : args.length ≤ fn.ntmps)
    (h : ∀ h0 : Nat, EvC P ⟨nx, nv, hid, fn.ntmps⟩ none ⟨h0, none, false⟩ c ⟨vars0 0 args, [], M, nx⟩ (retB P ⟨nx, nv, hid, fn.ntmps⟩ fn.results.toList R)) : BodyIs P f args M nx R :=
  ⟨fn, c, nv, hid, hf, hb, hnm, hsz, h⟩
theorem BodyIs.mono {f : FuncId} {args : List AV} {nx : Nat} {R R' : AV → Mem → Nat → Prop} (h : BodyIs P f args M nx R) (hr : ∀ r M nx, R r M nx → R' r M nx) : BodyIs P f args M nx R' := by
  obtain ⟨fn, c, nv, hid, h1, h2, h3, h4, h5⟩ := h
  exact ⟨fn, c, nv, hid, h1, h2, h3, h4, fun h0 => (h5 h0).mono fun e st ⟨k1, rs, k2, k3⟩ => ⟨k1, rs, k2, hr _ _ _ k3⟩⟩
theorem XR.callI {f : FuncId} {cs : List AV} {callee : Operand} {args : Array Operand} {tys : Array TypeId} {xs : List AV} (hg : o.guard = none) (hop : o.op = .call ⟨.value callee, args, tys⟩) (hd : dok fr o.dst = true)
    (hcal : od fr st true callee = .fn f cs) (hxs : bodyArgs fr st args ++ cs = xs)
    (hb : BodyIs P f xs st.mem st.nx fun r M' nx' => XR P fr ro ds ops rest ((⟨st.vars, st.tmps, M', nx'⟩ : St).put fr o.dst r) Q) : XR P fr ro ds ops (o :: rest) st Q := by
  obtain ⟨fn, c, nv, hid, h1, h2, h3, h4, h5⟩ := hb
  exact XR.callB nv hid hg hop hd hcal hxs h1 h2 h3 h4 fun h0 => (h5 h0).mono fun e st ⟨k1, rs, k2, k3⟩ => ⟨k1, rs, k2, k3⟩
theorem XR.callIG {j k : Nat} {want : Bool} {f : FuncId} {cs : List AV} {callee : Operand} {args : Array Operand} {tys : Array TypeId} {xs : List AV} (hg : o.guard = some (j, want)) (hj : gslot ops j = some k) (hk : gval want (st.get fr k) = some true)
    (hop : o.op = .call ⟨.value callee, args, tys⟩) (hd : dok fr o.dst = true)
    (hcal : od fr st true callee = .fn f cs) (hxs : bodyArgs fr st args ++ cs = xs)
    (hb : BodyIs P f xs st.mem st.nx fun r M' nx' => XR P fr ro ds ops rest ((⟨st.vars, st.tmps, M', nx'⟩ : St).put fr o.dst r) Q) : XR P fr ro ds ops (o :: rest) st Q :=
  fun _ _ _ _ _ _ a w S s => by
    have hw := wanted_ok s hg hj hk
    simp only [wpListIn, hw, if_true]
    obtain ⟨fn, c, nv, hid, h1, h2, h3, h4, h5⟩ := hb
    exact s.callB (R := fun r M' nx' => XR P fr ro ds ops rest ((⟨st.vars, st.tmps, M', nx'⟩ : St).put fr o.dst r) Q) hop (dok_spec hd) hcal hxs h1 h2 h3 h4 h5
      fun _ _ _ _ _ _ _ hR s' S' => hR _ _ _ _ _ _ _ _ (S.trans (by rw [St.put_mem]; exact S'.mono fun _ _ => trivial)) s'
end
attribute [go_sem] resAllR resOneR bodyArgs
end Go.Avl
namespace Go.Avl
open Go Go.Proofs.Try
set_option maxRecDepth 10000
set_option linter.unusedSimpArgs false

theorem runP_ne (x : Timed) : ∀ (es : List Evt) (c : Cfg) (now : Int) (out : List Rep), es ≠ [] → runP x es c now out ≠ []
  | [], _, _, _, h => absurd rfl h
  | e :: es, c, now, out, _ => by
    simp only [runP]
    split
    · simp
    · intro h
      have := runP_len x es ((stepR x.m (ticksP x e.1.toNat c now out).1.1 e.2).1, 0) (now + e.1) ((ticksP x e.1.toNat c now out).2 ++ [(now + e.1, (stepR x.m (ticksP x e.1.toNat c now out).1.1 e.2).2)])
      rw [h] at this
      simp at this
theorem flat_edge (l : List Rep) : flat (l.map edgeC) = true := by simp [flat, List.all_eq_true, edgeC, isSc]

set_option maxHeartbeats 4000000 in
/-- The replies lie in new cells. -/
theorem run_fr (x : Timed) (hr : ∀ r ∈ x.m.rows, r.2.length < 1000000) (htl : x.ts.length < 1000000) (nl : Bool) (es : List Evt) (cp : Cp) (hel : es.length < 1000000) (hck : checkT x = 0) (hev : checkEvts x.m.ins es = 0) (hne : es ≠ []) (hle : (runP x es (0, 0) 0 []).length ≤ 4096) : PureFr prog 11 [.ag x.cells, .sl nl (es.map edgeC) cp] (.tu [.sl false ((runP x es (0, 0) 0 []).map edgeC) .full, .sc (.int .i64 0)]) := by
  refine PureFr.of (nv := 3) (hid := [4, 5, 6, 8, 9, 10, 11, 13, 14, 15, 16, 17, 18, 19, 23, 27, 28, 29, 30, 31, 34, 38, 42, 56, 57, 58, 59, 65, 73, 89, 93, 95]) func11 rfl (by kernel_rfl) (by simp [ntmps11]) fun _ => ?_
  rw [ntmps11, results11]
  refine EvC.seq (EvC.rg (by (simp only [go_sem, Timed.cells]) <;> rfl) (by simp) ?_)  -- R0
  refine EvC.frzB 0 (by (simp only [go_sem]) <;> rfl) ?_
  refine EvC.seq ?_
  apply EvC.seq  -- R1
  apply EvC.tr
  · apply Tr.run
    · (simp only [go_sem]) <;> rfl
    · simp
    apply Tr.cons
    · exact .call rfl rfl (by (simp only [go_sem]) <;> rfl) (by (simp only [go_sem]) <;> rfl) (by (simp only [go_sem]) <;> rfl) (by (simp only [go_sem]) <;> rfl) (by (simp only [go_sem]) <;> rfl) (checkT_is x hr htl)
    apply Tr.done
    · (simp only [go_sem]) <;> rfl
    · simp
  refine EvC.seq (EvC.rg (by (simp only [go_sem]) <;> rfl) (by simp) ?_)  -- R2
  refine EvC.cond_false (by (simp only [go_sem, hck]) <;> rfl) ?_
  have hv : ValidT x := .of hck
  refine EvC.skip ?_
  refine EvC.seq ?_
  refine EvC.seq (EvC.rg (by (simp only [go_sem]) <;> rfl) (by simp) ?_)  -- R4
  have hl256 : ¬ 256 < (es.length : Int) := fun hc => by
    have : checkEvts x.m.ins es = 3 := if_pos hc
    omega
  have hld : decide ((256 : Int) < es.length) = false := decide_eq_false hl256
  refine EvC.cond_false (by (simp only [go_sem, hld]) <;> rfl) ?_
  have hce : checkEvts x.m.ins es = evts x.m.ins es := if_neg hl256
  refine EvC.skip ?_
  refine EvC.seq ?_
  refine EvC.seq (EvC.rg (by (simp only [go_sem]) <;> rfl) (by simp) ?_)  -- R6
  refine EvC.block ?_  -- 0
  refine EvC.loopS (σ := Nat) (fun i => ⟨[(1, .sl nl (es.map edgeC) cp), (2, .ia x.cells), (28, .sl nl (es.map edgeC) cp), (29, .sc (.int .i64 es.length)), (30, .sc (.int .i64 i))], [], [], 0⟩) (fun i => es.length - i)
    (fun i => i ≤ es.length ∧ evts x.m.ins es = evts x.m.ins (es.drop i)) [1, 2, 28, 29, 30] 0 ?_ ?_
  · refine ⟨[], 0, rfl, (by (simp only [go_sem]) <;> rfl), Nat.zero_le _, rfl⟩
  rintro i ⟨h1, h2⟩
  refine EvC.seq (EvC.rg (by (simp only [go_sem]) <;> rfl) (by simp) ?_)  -- R7
  refine EvC.seq ?_
  refine EvC.cond (by (simp only [go_sem]) <;> rfl) (fun hc => ?_) (fun hc => ?_)
  · have hi : i < es.length := by simpa using hc
    have he : es[i]? = some es[i] := List.getElem?_eq_getElem hi
    have hd : es.drop i = es[i] :: es.drop (i + 1) := List.drop_eq_getElem_cons hi
    generalize es[i] = e at he hd
    rw [hd] at h2
    have hbad : ∀ n, evtOk x.m.ins e = n → n ≠ 0 → False := fun n hn h0 => by
      have : checkEvts x.m.ins es = n := by rw [hce, h2, evts, if_pos (by omega), hn]
      omega
    refine EvC.skip ?_
    refine EvC.seq ?_
    refine EvC.block ?_  -- 1
    refine EvC.seq (EvC.rg (by (simp only [go_sem, he, edgeC]) <;> rfl) (by simp) ?_)  -- R8
    refine EvC.block ?_  -- 2
    refine EvC.seq (EvC.rg (by (simp only [go_sem]) <;> rfl) (by simp) ?_)  -- R9
    refine EvC.cond (by (simp only [go_sem]) <;> rfl) (fun hc => ?_) (fun hc => ?_)
    · exact (hbad 1 (by unfold evtOk; rw [if_pos (by simpa using hc)]) (by decide)).elim
    have hc1 : ¬ e.1 < 0 := by simpa using hc
    refine EvC.seq (EvC.rg (by (simp only [go_sem]) <;> rfl) (by simp) ?_)  -- R11
    refine EvC.cond (by (simp only [go_sem]) <;> rfl) (fun hc => ?_) (fun hc => ?_)
    · exact (hbad 3 (by unfold evtOk; rw [if_neg hc1, if_pos (by simpa using hc)]) (by decide)).elim
    have hc2 : ¬ 1024 < e.1 := by simpa using hc
    apply EvC.seq  -- R13
    apply EvC.trd
    · (simp only [go_sem, Timed.cells]) <;> rfl
    · simp
    refine EvC.cond (by (simp only [go_sem]) <;> rfl) (fun hc => ?_) (fun hc => ?_)
    · have hc : e.2 < 0 ∨ x.m.ins ≤ e.2 := by by_cases h : e.2 < 0 <;> simp_all
      exact (hbad 1 (by unfold evtOk; rw [if_neg hc1, if_neg hc2, if_pos hc]) (by decide)).elim
    have hc3 : ¬ (e.2 < 0 ∨ x.m.ins ≤ e.2) := by by_cases h : e.2 < 0 <;> simp_all
    refine EvC.skip ?_
    refine EvC.rg (by (simp only [go_sem]) <;> rfl) (inI64_of (by omega) (by omega)) ?_  -- R15
    refine ⟨[], i + 1, rfl, (by (simp only [go_sem, Timed.cells]) <;> rfl), ⟨by omega, ?_⟩, by omega⟩
    rw [h2, evts, if_neg]
    unfold evtOk
    rw [if_neg hc1, if_neg hc2, if_neg hc3]; simp
  refine EvC.exit ?_  -- 0
  have hi : ¬ i < es.length := by simpa using hc
  rw [List.drop_of_length_le (by omega)] at h2
  have hall := evts_all (hce ▸ hev)
  clear h1 h2 hc hi
  obtain ⟨T, hT⟩ : ∃ T, T = runP x es (0, 0) 0 [] := ⟨_, rfl⟩
  have hTk : (T.map edgeC).take T.length = T.map edgeC := List.take_of_length_le (by rw [List.length_map]; exact Nat.le_refl _)
  have hTn : T ≠ [] := by rw [hT]; exact runP_ne x es _ _ _ hne
  rw [← hT] at hle ⊢
  refine EvC.seq (EvC.rg (by (simp only [go_sem]) <;> rfl) (by simp) ?_)  -- R16
  refine EvC.seq (EvC.rg (by (simp only [go_sem]) <;> rfl) (by simp) ?_)  -- R17
  refine EvC.seq ?_
  refine EvC.seq (EvC.rg (by (simp only [go_sem]) <;> rfl) (by simp) ?_)  -- R18
  refine EvC.block ?_  -- 3
  refine EvC.thaw 1 (by (simp only [go_sem]) <;> rfl) ?_
  refine EvC.loopS (σ := Nat × Cfg × Int × List Rep) (fun g => ⟨[(2, .ia x.cells), (9, .tl 0 g.2.2.2.length g.2.2.2.isEmpty), (10, .rf 1 0), (11, .sc (.int .i64 g.2.2.1)), (56, .sl nl (es.map edgeC) cp), (57, .sc (.int .i64 es.length)), (58, .sc (.int .i64 g.1))], [],
      [(0, .arr 2 (g.2.2.2.map edgeC) false), (1, .cells (edgeC g.2.1))], 2⟩) (fun g => es.length - g.1)
    (fun g => g.1 ≤ es.length ∧ GoodC x g.2.1 ∧ 0 ≤ g.2.2.1 ∧ g.2.2.1 ≤ 1024 * g.1 ∧ g.2.2.2.length ≤ 4096 ∧ T = runP x (es.drop g.1) g.2.1 g.2.2.1 g.2.2.2) [2, 9, 10, 11, 56, 57, 58] 2 ?_ ?_
  · refine ⟨[(1, 0), (3, 1)], (0, (0, 0), 0, []), rfl, (by (simp only [go_sem, edgeC]) <;> rfl), Nat.zero_le _, .zero hv, by simp, by simp, by simp, hT⟩
  rintro ⟨j, c0, now0, out0⟩ ⟨hj, hg0, hn0, hn1, ho0, hT0⟩
  simp only at hj hg0 hn0 hn1 ho0 hT0
  refine EvC.seq (EvC.rg (by (simp only [go_sem]) <;> rfl) (by simp) ?_)  -- R19
  refine EvC.seq ?_
  refine EvC.cond (by (simp only [go_sem]) <;> rfl) (fun hc => ?_) (fun hc => ?_)
  rotate_left
  · refine EvC.exit ?_  -- 3
    have hc : ¬ j < es.length := by simpa using hc
    rw [List.drop_of_length_le (by omega), runP] at hT0
    rw [← hT0]
    have hTe : T.isEmpty = false := by cases hT' : T with
      | nil => exact absurd hT' hTn
      | cons => rfl
    apply EvC.seq  -- R37
    apply EvC.rs
    · (simp only [go_sem]) <;> rfl
    · simp
    refine XR.callB 3 [8] rfl rfl (by (simp only [go_sem]) <;> rfl) (by (simp only [go_sem]) <;> rfl) (by (simp only [go_sem]) <;> rfl) func28 rfl (by kernel_rfl) (by simp [ntmps28]) fun h1 => ?_
    rw [ntmps28, results28]
    refine EvC.seq (EvC.rg (by (simp only [go_sem]) <;> rfl) (by simp) ?_)
    refine EvC.seq (EvC.rg (by (simp only [go_sem, hTe]) <;> rfl) (by simp [edgeC, hTn]) ?_)
    refine EvC.ret ⟨.inl rfl, _, (by (simp only [go_sem]) <;> rfl), ?_⟩
    apply XR.done
    · (simp only [go_sem]) <;> rfl
    · simp
    refine EvC.ret ⟨.inl rfl, _, _, (by (simp only [go_sem]) <;> rfl), (by (simp only [go_sem, freshAll, freshOne, Nat.sub_zero, List.drop_zero, flat_edge, List.length_map, hTk, and_self, if_true]) <;> rfl), ?_⟩
    rfl
  have hc : j < es.length := by simpa using hc
  have he : es[j]? = some es[j] := List.getElem?_eq_getElem hc
  have hd : es.drop j = es[j] :: es.drop (j + 1) := List.drop_eq_getElem_cons hc
  have hev' := hall _ (List.getElem_mem hc)
  generalize es[j] = e at he hd hev'
  rw [hd, runP] at hT0
  obtain ⟨q, hq⟩ : ∃ q, q = ticksP x e.1.toNat c0 now0 out0 := ⟨_, rfl⟩
  rw [← hq] at hT0
  refine EvC.skip ?_
  refine EvC.seq ?_
  refine EvC.block ?_  -- 4
  refine EvC.seq (EvC.rg (by (simp only [go_sem, he, edgeC]) <;> rfl) (by simp) ?_)  -- R20
  refine EvC.seq (EvC.rg (by (simp only [go_sem]) <;> rfl) (by simp) ?_)  -- R21
  refine EvC.block ?_  -- 5
  refine EvC.loopS (σ := Nat × Cfg × Int × List Rep) (fun g => ⟨[(2, .ia x.cells), (9, .tl 0 g.2.2.2.length g.2.2.2.isEmpty), (10, .rf 1 0), (11, .sc (.int .i64 g.2.2.1)), (13, .rf 2 0), (14, .sc (.int .i64 g.1)), (56, .sl nl (es.map edgeC) cp), (57, .sc (.int .i64 es.length)), (58, .sc (.int .i64 j))], [],
      [(0, .arr 2 (g.2.2.2.map edgeC) false), (1, .cells (edgeC g.2.1)), (2, .cells (edgeC e))], 3⟩) (fun g => 2000 - g.1)
    (fun g => g.1 ≤ e.1.toNat + 1 ∧ (g.1 ≤ e.1.toNat → GoodC x g.2.1 ∧ 0 ≤ g.2.2.1 ∧ g.2.2.1 = now0 + g.1 ∧ g.2.2.2.length ≤ 4096 ∧ q = ticksP x (e.1.toNat - g.1) g.2.1 g.2.2.1 g.2.2.2) ∧
      (g.1 = e.1.toNat + 1 → GoodC x g.2.1 ∧ 0 ≤ g.2.2.1 ∧ g.2.2.1 = now0 + e.1 ∧ g.2.2.2.length ≤ 4096 ∧ T = runP x (es.drop (j + 1)) g.2.1 g.2.2.1 g.2.2.2)) [2, 9, 10, 11, 13, 14, 56, 57, 58] 3 ?_ ?_
  · refine ⟨[(0, 0), (1, 1), (5, 2)], (0, c0, now0, out0), rfl, (by (simp only [go_sem, edgeC]) <;> rfl), Nat.zero_le _, fun _ => ⟨hg0, hn0, by simp, ho0, hq⟩, fun h => by simp only at h; omega⟩
  clear hg0 hn0 ho0
  rintro ⟨n, c, now, out⟩ ⟨h1, h2, h3⟩
  simp only at h1 h2 h3
  refine EvC.seq ?_
  refine EvC.seq (EvC.rg (by (simp only [go_sem, edgeC]) <;> rfl) (by simp) ?_)  -- R22
  refine EvC.cond (by (simp only [go_sem]) <;> rfl) (fun hc => ?_) (fun hc => ?_)
  rotate_left
  · refine EvC.exit ?_  -- 5
    have hc : e.1 < (n : Int) := by simpa using hc
    obtain ⟨k1, k2, k3, k4, k5⟩ := h3 (by omega)
    refine EvC.rg (by (simp only [go_sem]) <;> rfl) (inI64_of (by omega) (by omega)) ?_  -- R36
    exact ⟨[(0, 0), (1, 1)], (j + 1, c, now, out), rfl, (by (simp only [go_sem, edgeC]) <;> rfl), ⟨by simp only; omega, k1, k2, by simp only; omega, k4, k5⟩, by simp only; omega⟩
  have hc : (n : Int) ≤ e.1 := by simpa using hc
  clear h3
  obtain ⟨hg, hn0, hnow, ho, hq'⟩ := h2 (by omega)
  clear h2
  have hIn : inI64 ((n : Int) + 1) = true := inI64_of (by omega) (by omega)
  have hIw : inI64 (now + 1) = true := inI64_of (by omega) (by omega)
  have hst := hg.st
  obtain ⟨t1, t2⟩ := timAt_get hv hst.1 hst.2
  have htc := timOk_cases t2
  have hck0 := hg.ck
  have hckc := hg.clock hv
  refine EvC.skip ?_
  refine EvC.seq ?_
  refine EvC.block ?_  -- 6
  refine EvC.seq (EvC.rg (by (simp only [go_sem]) <;> rfl) (by simp) ?_)  -- R24
  refine EvC.seq ?_
  refine EvC.seq (EvC.rg (by (simp only [go_sem]) <;> rfl) (by simp) ?_)  -- R25
  refine EvC.cond (by (simp only [go_sem]) <;> rfl) (fun hc1 => ?_) (fun hc1 => ?_)
  · -- the input
    have hc1 : (n : Int) = e.1 := by simpa using hc1
    have hn : e.1.toNat - n = 0 := by omega
    rw [hn, ticksP] at hq'
    rw [hq'] at hT0
    simp only at hT0
    obtain ⟨r, d, d1, d2, d3, d4⟩ := stepR_get hv.m hst.1 hst.2 ⟨hev'.2.2.1, hev'.2.2.2⟩
    rw [d3] at hT0
    have hnow' : now0 + e.1 = now := by omega
    rw [hnow'] at hT0
    have hdo := doIn_is x c e.2 r d hst.1 hev'.2.2.1 d1 d2
    refine EvC.rg (by (simp only [go_sem]) <;> rfl) (by simp) ?_  -- R26
    apply EvC.seq  -- R28
    apply EvC.tr
    · apply Tr.run
      · (simp only [go_sem, Timed.cells, edgeC]) <;> rfl
      · simp
      apply Tr.cons
      · exact .call rfl rfl (by (simp only [go_sem]) <;> rfl) (by (simp only [go_sem]) <;> rfl) (by (simp only [go_sem]) <;> rfl) (by (simp only [go_sem]) <;> rfl) (by (simp only [go_sem]) <;> rfl) (by simpa [Timed.cells, edgeA] using hdo)
      apply Tr.done
      · (simp only [go_sem, doA, doIn, edgeA]) <;> rfl
      · simp
    refine EvC.seq ?_
    refine EvC.seq (EvC.rg (by (simp only [go_sem]) <;> rfl) (by simp) ?_)  -- R29
    refine EvC.cond_false (by (simp only [go_sem]) <;> rfl) ?_
    refine EvC.skip ?_
    refine EvC.seq ?_
    refine EvC.seq (EvC.rg (by (simp only [go_sem, List.length_map]) <;> rfl) (by simp) ?_)  -- R31
    refine EvC.cond (by (simp only [go_sem]) <;> rfl) (fun hm => ?_) (fun hm => ?_)
    · have hm : out.length = 4096 := by
        have : (out.length : Int) = 4096 := by simpa using hm
        omega
      have : ¬ T.length ≤ 4096 := by
        rw [hT0]
        split
        · simp; omega
        · have := runP_len x (es.drop (j + 1)) (d.1, 0) now (out ++ [(now, d.2)])
          simp only [List.length_append, List.length_cons, List.length_nil] at this
          omega
      exact absurd hle this
    have hm : ¬ out.length = 4096 := by
      have : ¬ (out.length : Int) = 4096 := by simpa using hm
      omega
    refine EvC.skip ?_
    refine EvC.seq ?_
    refine EvC.seq (EvC.rg (by (simp only [go_sem]) <;> rfl) (by simp) ?_)  -- R33
    refine EvC.cond (by (simp only [go_sem]) <;> rfl) (fun hu => ?_) (fun hu => ?_)
    · have hu : d.1 = -1 := by simpa using hu
      have hu2 : d.2 = -1 := by
        unfold fitsR at d4; simp at d4; omega
      rw [if_pos hu, hu2] at hT0
      apply EvC.seq  -- R34
      apply EvC.rs
      · (simp only [go_sem]) <;> rfl
      · simp [room_eq, AV.norefs, AV.noref]; omega
      have hcat : out.map edgeC ++ [[AV.sc (.int .i64 now), AV.sc (.int .i64 (-1))]] = T.map edgeC := by rw [hT0]; simp [edgeC]
      have hln : out.length + 1 = T.length := by rw [hT0]; simp
      have hne0 : (out.length + 1 == 0) = false := rfl
      refine XR.callB 3 [8] rfl rfl (by (simp only [go_sem]) <;> rfl) (by (simp only [go_sem]) <;> rfl) (by (simp only [go_sem]) <;> rfl) func28 rfl (by kernel_rfl) (by simp [ntmps28]) fun h1 => ?_
      rw [ntmps28, results28]
      refine EvC.seq (EvC.rg (by (simp only [go_sem]) <;> rfl) (by simp) ?_)
      refine EvC.seq (EvC.rg (by (simp only [go_sem]) <;> rfl) (by simp [edgeC, hTn]; try omega) ?_)
      refine EvC.ret ⟨.inl rfl, _, (by (simp only [go_sem]) <;> rfl), ?_⟩
      apply XR.done
      · (simp only [go_sem]) <;> rfl
      · simp
      refine EvC.ret ⟨.inl rfl, _, _, (by (simp only [go_sem]) <;> rfl), (by (simp only [go_sem, freshAll, freshOne, Nat.sub_zero, List.drop_zero, hcat, hln, flat_edge, List.length_map, hTk, and_self, if_true]) <;> rfl), ?_⟩
      have h9 : ((out.length : Int) + ((1 : Nat) : Int)).toNat = T.length := by omega
      rw [h9, hTk]; rfl
    have hu : ¬ d.1 = -1 := by simpa using hu
    rw [if_neg hu] at hT0
    have hgd : GoodC x (d.1, 0) := by
      unfold fitsR at d4; simp at d4
      exact ⟨by simp only; omega, by simp⟩
    refine EvC.skip ?_
    apply EvC.drd mixed  -- R35
    · (simp only [go_sem]) <;> rfl
    · simp [room_eq, AV.norefs, AV.noref]; omega
    · kernel_rfl
    refine EvC.rg (by (simp only [go_sem]) <;> rfl) hIn ?_  -- R23
    exact ⟨[(0, 0), (1, 1), (2, 2)], (n + 1, (d.1, 0), now, out ++ [(now, d.2)]), rfl, (by (simp only [go_sem, edgeC]) <;> rfl), ⟨by simp only; omega, fun h => by simp only at h; omega, fun _ => ⟨hgd, hn0, by simp only; omega, by simp; omega, hT0⟩⟩, by simp only; omega⟩
  -- a tick
  have hc1 : ¬ (n : Int) = e.1 := by simpa using hc1
  obtain ⟨m, hm⟩ : ∃ m, e.1.toNat - n = m + 1 := ⟨e.1.toNat - n - 1, by omega⟩
  have hm1 : e.1.toNat - (n + 1) = m := by omega
  rw [hm, ticksP] at hq'
  have hg1 := tick1_good hv hg now out
  have hdo := doTick_is x c (timAt x c.1) hst.1 t1 (by omega)
  unfold doTick at hdo
  refine EvC.rg (by (simp only [go_sem]) <;> rfl) hIw ?_  -- R27
  by_cases k0 : (timAt x c.1).1 = 0
  · have ht1 : tick1 x c now out = (c, out) := if_pos k0
    rw [if_pos k0] at hdo
    apply EvC.seq  -- R28
    apply EvC.tr
    · apply Tr.run
      · (simp only [go_sem, Timed.cells, edgeC]) <;> rfl
      · simp
      apply Tr.cons
      · exact .call rfl rfl (by (simp only [go_sem]) <;> rfl) (by (simp only [go_sem]) <;> rfl) (by (simp only [go_sem]) <;> rfl) (by (simp only [go_sem]) <;> rfl) (by (simp only [go_sem]) <;> rfl) (by simpa [Timed.cells, edgeA] using hdo)
      apply Tr.done
      · (simp only [go_sem, doA, edgeA]) <;> rfl
      · simp
    refine EvC.seq ?_
    refine EvC.seq (EvC.rg (by (simp only [go_sem]) <;> rfl) (by simp) ?_)  -- R29
    refine EvC.cond_true (by (simp only [go_sem]) <;> rfl) ?_
    refine EvC.seq (EvC.rg (by (simp only [go_sem]) <;> rfl) (by simp) ?_)  -- R30
    refine EvC.exit ?_  -- 6
    refine EvC.rg (by (simp only [go_sem]) <;> rfl) hIn ?_  -- R23
    exact ⟨[(0, 0), (1, 1), (2, 2)], (n + 1, (c), now + 1, out), rfl, (by (simp only [go_sem, edgeC]) <;> rfl), ⟨by simp only; omega, fun _ => ⟨(by rw [ht1] at hg1; exact hg1), by simp only; omega, by simp only; omega, ho, by rw [hm1, hq', ht1]⟩, fun h => by simp only at h; omega⟩, by simp only; omega⟩
  rw [if_neg k0] at hdo
  by_cases k1 : c.2 + 1 = (timAt x c.1).1
  · have ht1 : tick1 x c now out = (((timAt x c.1).2.1, 0), out ++ [(now + 1, (timAt x c.1).2.2)]) := by unfold tick1; rw [if_neg k0, if_pos k1]
    rw [if_pos k1] at hdo
    apply EvC.seq  -- R28
    apply EvC.tr
    · apply Tr.run
      · (simp only [go_sem, Timed.cells, edgeC]) <;> rfl
      · simp
      apply Tr.cons
      · exact .call rfl rfl (by (simp only [go_sem]) <;> rfl) (by (simp only [go_sem]) <;> rfl) (by (simp only [go_sem]) <;> rfl) (by (simp only [go_sem]) <;> rfl) (by (simp only [go_sem]) <;> rfl) (by simpa [Timed.cells, edgeA] using hdo)
      apply Tr.done
      · (simp only [go_sem, doA, edgeA]) <;> rfl
      · simp
    refine EvC.seq ?_
    refine EvC.seq (EvC.rg (by (simp only [go_sem]) <;> rfl) (by simp) ?_)  -- R29
    refine EvC.cond_false (by (simp only [go_sem]) <;> rfl) ?_
    refine EvC.skip ?_
    refine EvC.seq ?_
    refine EvC.seq (EvC.rg (by (simp only [go_sem, List.length_map]) <;> rfl) (by simp) ?_)  -- R31
    refine EvC.cond (by (simp only [go_sem]) <;> rfl) (fun hm => ?_) (fun hm => ?_)
    · have hm : out.length = 4096 := by
        have : (out.length : Int) = 4096 := by simpa using hm
        omega
      have : ¬ T.length ≤ 4096 := by
        have h1 := ticksP_len x m (tick1 x c now out).1 (now + 1) (tick1 x c now out).2
        rw [← hq', ht1] at h1
        simp only [List.length_append, List.length_cons, List.length_nil] at h1
        rw [hT0]
        split
        · simp; omega
        · have := runP_len x (es.drop (j + 1)) ((stepR x.m q.1.1 e.2).1, 0) (now0 + e.1) (q.2 ++ [(now0 + e.1, (stepR x.m q.1.1 e.2).2)])
          simp only [List.length_append, List.length_cons, List.length_nil] at this
          omega
      exact absurd hle this
    have hm : ¬ out.length = 4096 := by
      have : ¬ (out.length : Int) = 4096 := by simpa using hm
      omega
    refine EvC.skip ?_
    refine EvC.seq ?_
    refine EvC.seq (EvC.rg (by (simp only [go_sem]) <;> rfl) (by simp) ?_)  -- R33
    refine EvC.cond_false (by (simp only [go_sem]) <;> rfl) ?_
    refine EvC.skip ?_
    apply EvC.drd mixed  -- R35
    · (simp only [go_sem]) <;> rfl
    · simp [room_eq, AV.norefs, AV.noref]; omega
    · kernel_rfl
    refine EvC.rg (by (simp only [go_sem]) <;> rfl) hIn ?_  -- R23
    exact ⟨[(0, 0), (1, 1), (2, 2)], (n + 1, ((timAt x c.1).2.1, 0), now + 1, out ++ [(now + 1, (timAt x c.1).2.2)]), rfl, (by (simp only [go_sem, edgeC]) <;> rfl), ⟨by simp only; omega, fun _ => ⟨(by rw [ht1] at hg1; exact hg1), by simp only; omega, by simp only; omega, by simp; omega, by rw [hm1, hq', ht1]⟩, fun h => by simp only at h; omega⟩, by simp only; omega⟩
  · have ht1 : tick1 x c now out = ((c.1, c.2 + 1), out) := by unfold tick1; rw [if_neg k0, if_neg k1]
    rw [if_neg k1] at hdo
    apply EvC.seq  -- R28
    apply EvC.tr
    · apply Tr.run
      · (simp only [go_sem, Timed.cells, edgeC]) <;> rfl
      · simp
      apply Tr.cons
      · exact .call rfl rfl (by (simp only [go_sem]) <;> rfl) (by (simp only [go_sem]) <;> rfl) (by (simp only [go_sem]) <;> rfl) (by (simp only [go_sem]) <;> rfl) (by (simp only [go_sem]) <;> rfl) (by simpa [Timed.cells, edgeA] using hdo)
      apply Tr.done
      · (simp only [go_sem, doA, edgeA]) <;> rfl
      · simp
    refine EvC.seq ?_
    refine EvC.seq (EvC.rg (by (simp only [go_sem]) <;> rfl) (by simp) ?_)  -- R29
    refine EvC.cond_true (by (simp only [go_sem]) <;> rfl) ?_
    refine EvC.seq (EvC.rg (by (simp only [go_sem]) <;> rfl) (by simp) ?_)  -- R30
    refine EvC.exit ?_  -- 6
    refine EvC.rg (by (simp only [go_sem]) <;> rfl) hIn ?_  -- R23
    exact ⟨[(0, 0), (1, 1), (2, 2)], (n + 1, (c.1, c.2 + 1), now + 1, out), rfl, (by (simp only [go_sem, edgeC]) <;> rfl), ⟨by simp only; omega, fun _ => ⟨(by rw [ht1] at hg1; exact hg1), by simp only; omega, by simp only; omega, ho, by rw [hm1, hq', ht1]⟩, fun h => by simp only at h; omega⟩, by simp only; omega⟩
end Go.Avl
namespace Go.Avl
open Go Go.Proofs.Try
set_option maxRecDepth 10000
set_option linter.unusedSimpArgs false

theorem PureFr.weak {P : Program} {f : FuncId} {args : List AV} {r : AV} (h : PureFr P f (args.map AV.unk) r) : PureFr P f args r :=
  ⟨h.1, fun F w vals hF hi => h.2 F w vals hF ⟨by simpa using hi.1, fun i a b => by rw [List.getElem_map]; exact (hi.2 i a (by simpa using b)).unk⟩⟩
theorem lamp_unf63 : ∃ M : List (List (Int × Int)), M.length = 64 ∧ PureIs prog 15 [lampA 63] (.tu [.ag [.sc (.int .i64 2), .sc (.int .i64 3), .sl false (M.map rowF) .full], .sc (.int .i64 0)]) := by
  refine ⟨(unfAll (lampT 63)).1, lamp63_len.2.2, ?_⟩
  have h := unfold_is (lampT 63) (lamp_small 63).1 (lamp_small 63).2
  rw [unfoldA, if_neg (by rw [lamp63_len.1]; decide), if_neg (by decide), if_pos (by rw [lamp63_len.2.1]; decide)] at h
  refine PureIs.weak ?_
  rw [List.map_cons, List.map_nil, lampA_unk]
  exact h
theorem lamp_unf64 : PureIs prog 15 [lampA 64] (.tu [.ag [.sc (.int .i64 0), .sc (.int .i64 0), .sl true [] .zer], .sc (.int .i64 3)]) := by
  have h := unfold_is (lampT 64) (lamp_small 64).1 (lamp_small 64).2
  rw [unfoldA, if_neg (by rw [lamp64_len.1]; decide), if_neg (by decide), if_neg (by have := lamp64_len.2; omega)] at h
  refine PureIs.weak ?_
  rw [List.map_cons, List.map_nil, lampA_unk]
  exact h
/-- The clock, as it is built. -/
def clockA : AV := .ag [.sc (.int .i64 1), .sc (.int .i64 1), .sl false [[.sl false [[.sc (.int .i64 0), .sc (.int .i64 0)]] .full]] .full, .sl false [[.sc (.int .i64 1), .sc (.int .i64 0), .sc (.int .i64 0)]] .full]
theorem clockA_unk : clockA.unk = .ag clockT.cells := by
  simp only [clockA, AV.unk, AV.unks, AV.unkss, clockT, Timed.cells, List.map_cons, List.map_nil, rowC, edgeC, timC]
theorem clock_small : (∀ r ∈ clockT.m.rows, r.2.length < 1000000) ∧ clockT.ts.length < 1000000 := by
  refine ⟨fun r hr => ?_, by simp [clockT]⟩
  simp [clockT] at hr
  subst hr; simp
theorem clock_run4 : ∃ T : List Rep, T.length = 4096 ∧ T[4095]? = some (4092, 0) ∧ PureFr prog 11 [clockA, .sl false [[.sc (.int .i64 1024), .sc (.int .i64 0)], [.sc (.int .i64 1024), .sc (.int .i64 0)], [.sc (.int .i64 1024), .sc (.int .i64 0)], [.sc (.int .i64 1020), .sc (.int .i64 0)]] .unk] (.tu [.sl false (T.map edgeC) .full, .sc (.int .i64 0)]) := by
  refine ⟨clkR [1024, 1024, 1024, 1020] 0, clock4_len, clock4_last, ?_⟩
  have h := run_fr clockT clock_small.1 clock_small.2 false [(1024, 0), (1024, 0), (1024, 0), (1020, 0)] .unk (by decide) clock_ok (by decide +kernel) (by simp) (by rw [clock4, clock4_len]; decide)
  rw [clock4] at h
  refine PureFr.weak ?_
  rw [List.map_cons, List.map_cons, List.map_nil, clockA_unk]
  exact h
theorem clock_run5 : PureIs prog 11 [clockA, .sl false [[.sc (.int .i64 1024), .sc (.int .i64 0)], [.sc (.int .i64 1024), .sc (.int .i64 0)], [.sc (.int .i64 1024), .sc (.int .i64 0)], [.sc (.int .i64 1021), .sc (.int .i64 0)]] .unk] (nilE 3) := by
  have h := run_is clockT clock_small.1 clock_small.2 false [(1024, 0), (1024, 0), (1024, 0), (1021, 0)] .unk (by decide)
  have he : checkEvts clockT.m.ins [(1024, 0), (1024, 0), (1024, 0), (1021, 0)] = 0 := by decide +kernel
  rw [runA, if_neg (by rw [clock_ok]; decide), if_neg (by rw [he]; decide), clock5, if_neg (by rw [clock5_len]; decide)] at h
  refine PureIs.weak ?_
  rw [List.map_cons, List.map_cons, List.map_nil, clockA_unk]
  exact h
theorem once_small : (∀ r ∈ onceT.m.rows, r.2.length < 1000000) ∧ onceT.ts.length < 1000000 := by
  refine ⟨fun r hr => ?_, by simp [onceT]⟩
  simp [onceT] at hr
  rcases hr with rfl | rfl <;> simp
theorem once_runs : PureIs prog 11 [.ag onceT.cells, .sl false ([(0, 0), (256, 0), (255, 0), (0, 0)].map edgeC) .unk] (.tu [.sl false ([((0 : Int), (0 : Int)), (256, 1), (256, 0), (511, -1)].map edgeC) .full, .sc (.int .i64 0)]) := by
  have h := run_is onceT once_small.1 once_small.2 false [(0, 0), (256, 0), (255, 0), (0, 0)] .unk (by decide)
  rw [runA_ok once_run.1 (by decide +kernel) once_run.2 (by decide)] at h
  exact h
def fullA : AV := .ag [.sc (.int .i64 16), .sc (.int .i64 1), .sl false [[.sl false (List.replicate 16 [.sc (.int .i64 0), .sc (.int .i64 0)]) .unk]] .unk, .sl false [[.sc (.int .i64 0), .sc (.int .i64 0), .sc (.int .i64 0)]] .full]
theorem full_small : (∀ r ∈ fullT.m.rows, r.2.length < 1000000) ∧ fullT.ts.length < 1000000 := by
  refine ⟨fun r hr => ?_, by simp [fullT]⟩
  simp [fullT] at hr
  subst hr; simp
theorem fullA_unk : fullA.unk = .ag fullT.cells := by
  have e : AV.unkss (List.replicate 16 [AV.sc (.int .i64 0), AV.sc (.int .i64 0)]) = (List.replicate 16 ((0 : Int), (0 : Int))).map edgeC := by rfl
  simp only [fullA, AV.unk, AV.unks, AV.unkss, fullT, Timed.cells, List.map_cons, List.map_nil, rowC, e, timC]
theorem full_unf : PureIs prog 15 [fullA] (.tu [.ag [.sc (.int .i64 0), .sc (.int .i64 0), .sl true [] .zer], .sc (.int .i64 3)]) := by
  have h := unfold_is fullT full_small.1 full_small.2
  rw [unfoldA, if_neg (by rw [full_ok]; decide), if_pos (.inl rfl)] at h
  refine PureIs.weak ?_
  rw [List.map_cons, List.map_nil, fullA_unk]
  exact h
theorem full_check : PureIs prog 23 [fullA] (.sc (.int .i64 0)) := by
  have h := checkT_is fullT full_small.1 full_small.2
  rw [full_ok] at h
  refine PureIs.weak ?_
  rw [List.map_cons, List.map_nil, fullA_unk]
  exact h
theorem lamp257_check : PureIs prog 23 [lampA 257] (.sc (.int .i64 1)) := by
  have h := checkT_is (lampT 257) (lamp_small 257).1 (lamp_small 257).2
  rw [lamp257] at h
  refine PureIs.weak ?_
  rw [List.map_cons, List.map_nil, lampA_unk]
  exact h
theorem big_of {t : Timed} (h : ∀ r ∈ t.m.rows, r.2.length < 1000000) : ∀ r ∈ t.m.rows, (r.2.length : Int) ≤ 140737488355328 := fun r hr => by have := h r hr; omega
theorem full_errors (c : Cp) (n : Nat) (hn : n < 1000000) : PureIs prog 7 [fullA, clockA, .sl false (List.replicate n [.sc (.int .i64 0), .sc (.int .i64 0)]) c] (.sc (.bool true)) := by
  have h := timersErrors_is fullT clockT (big_of full_small.1) (big_of clock_small.1) false (List.replicate n (0, 0)) .unk (by rw [List.length_replicate]; omega)
  refine PureIs.weak ?_
  have e : AV.unkss (List.replicate n [AV.sc (.int .i64 0), AV.sc (.int .i64 0)]) = (List.replicate n ((0 : Int), (0 : Int))).map edgeC := by
    have h2 := unkss_edges (List.replicate n ((0 : Int), (0 : Int)))
    rw [List.map_replicate] at h2 ⊢
    exact h2
  rw [List.map_cons, List.map_cons, List.map_cons, List.map_nil, fullA_unk, clockA_unk, AV.unk, e]
  exact h
theorem zero_errors (c c1 c2 : Cp) : PureIs prog 7 [.ag [.sc (.int .i64 0), .sc (.int .i64 0), .sl true [] c1, .sl true [] c2], clockA, .sl true [] c] (.sc (.bool true)) := by
  have h := timersErrors_is ⟨⟨0, 0, true, []⟩, true, []⟩ clockT (fun r hr => by cases hr) (big_of clock_small.1) true [] .unk (by decide)
  refine PureIs.weak ?_
  rw [List.map_cons, List.map_cons, List.map_cons, List.map_nil, clockA_unk]
  exact h
end Go.Avl
namespace Go.Avl
open Go Go.Proofs.Try
set_option maxRecDepth 10000
set_option linter.unusedSimpArgs false

section
variable {P : Program} {fr : Fr} {ro : Option Nat} {ds : DS} {st : St} {ops : Array Oper} {o : Oper} {id : Nat} {rd : List Nat}
/-- A call under a guard that lends objects. -/
theorem OpIs.callDG {j k : Nat} {want : Bool} {f : FuncId} {callee : Operand} {args : Array Operand} {tys : Array TypeId} {xs : List AV} {v : AV} (d : Nat) (hg : o.guard = some (j, want)) (hj : gslot ops j = some k) (hw0 : gval want (st.get fr k) = some true) (hop : o.op = .call ⟨.value callee, args, tys⟩) (hd : dok fr o.dst = true)
    (hcal : od fr st true callee = .fn f []) (hxs : argsD fr st d args = xs) (hk : argsK fr st d args = true) (hrd : rdL fr st d [2 * k] o args = rd) (hc : PureFr P f xs v) : OpIs P fr ro ds ops id st ⟨o, ⟨v, none⟩, rd⟩ := by
  intro st' G F a w N K Q1 s hN hG hl h
  have hw := wantedD s hg hj (by rw [look_slot (hl _ (by simp only; rw [← hrd]; unfold rdL; exact List.mem_cons_self))]; exact hw0)
  rw [hw]
  simp only [if_true]
  have hslot : ∀ x ∈ o.op.operands.toList, opnd fr st' x = opnd fr st x := fun x hx => by
    cases x with
    | tmp t => exact look_slot (hl _ (by simp only; rw [← hrd]; unfold rdL; exact List.mem_append_right _ (List.mem_append_left _ (opSlots_mem hx))))
    | _ => rfl
  rw [hop] at hslot
  have hodc : od fr st' true callee = od fr st true callee := by unfold od; rw [hslot callee (by simp [Op.operands, Call.operands])]
  have hoda : ∀ x ∈ args.toList, od fr st' true x = od fr st true x := fun x hx => by
    unfold od; rw [hslot x (by simp only [Op.operands, Call.operands]; simp; exact .inr (by simpa using hx))]
  have hcg : ∀ x ∈ args.toList, lendA st'.mem d (od fr st' true x) = lendA st.mem d (od fr st true x) ∧ lendK st'.mem d (od fr st' true x) = lendK st.mem d (od fr st true x) := fun x hx => by
    rw [hoda x hx]
    exact lend_congr d _ fun i hi => look_obj (hl _ (by simp only; rw [← hrd]; unfold rdL; exact List.mem_append_right _ (List.mem_append_right _ (argsI_mem hx hi))))
  refine s.callD (d := d) hop hd (by rw [hodc]; exact hcal) ?_ ?_ hc h
  · rw [← hxs]; unfold argsD; exact List.map_congr_left fun x hx => (hcg x hx).1
  · rw [← hk]; unfold argsK
    rw [Bool.eq_iff_iff, List.all_eq_true, List.all_eq_true]
    exact ⟨fun h x hx => by rw [← (hcg x hx).2]; exact h x hx, fun h x hx => by rw [(hcg x hx).2]; exact h x hx⟩
end

theorem lamp_body (n : Int) {R : AV → Mem → Nat → Prop}
    (hR : R (.ag [.sc (.int .i64 1), .sc (.int .i64 2), .tl 5 2 false, .sl false [[.sc (.int .i64 0), .sc (.int .i64 0), .sc (.int .i64 0)], [.sc (.int .i64 n), .sc (.int .i64 0), .sc (.int .i64 1)]] .full]) [(5, .arr 1 [[.tl 2 1 false], [.tl 4 1 false]] false), (4, .arr 2 [[.sc (.int .i64 1), .sc (.int .i64 0)]] false), (2, .arr 2 [[.sc (.int .i64 1), .sc (.int .i64 0)]] false), (0, .cells [.sc (.int .i64 1), .sc (.int .i64 2), .tl 5 2 false, .sl false [[.sc (.int .i64 0), .sc (.int .i64 0), .sc (.int .i64 0)], [.sc (.int .i64 n), .sc (.int .i64 0), .sc (.int .i64 1)]] .full])] 14) :
    BodyIs prog 25 [.sc (.int .i64 n)] [] 0 R := by
  refine BodyIs.of (nv := 3) (hid := [4, 6, 7]) func25 rfl (by kernel_rfl) (by simp [ntmps25]) fun h0 => ?_
  rw [ntmps25, results25]
  refine EvC.seq (EvC.rg (by (simp only [go_sem]) <;> rfl) (by simp) ?_)  -- R0
  refine EvC.seq (EvC.rg (by (simp only [go_sem, List.set_cons_zero, List.set_cons_succ]) <;> rfl) (by simp [room_eq]) ?_)  -- R1
  refine EvC.ret ⟨.inl rfl, _, (by (simp only [go_sem]) <;> rfl), ?_⟩
  exact hR
set_option maxHeartbeats 4000000 in
theorem timersKnown_is : PureIs prog 8 [] (.sc (.bool true)) := by
  obtain ⟨M, hM, hu63⟩ := lamp_unf63
  obtain ⟨T, hT, hTl, hr4⟩ := clock_run4
  have hu64 := lamp_unf64
  have hr5 := clock_run5
  unfold clockA at hr4 hr5
  unfold nilE at hr5
  have hMl : (M.map rowF).length = 64 := by rw [List.length_map, hM]
  have hTm : (T.map edgeC).length = 4096 := by rw [List.length_map, hT]
  have hTg : (T.map edgeC)[4095]? = some [.sc (.int .i64 4092), .sc (.int .i64 0)] := by rw [List.getElem?_map, hTl]; rfl
  generalize M.map rowF = MM at hMl hu63
  generalize T.map edgeC = TT at hTm hTg hr4
  refine PureIs.of (nv := 12) (hid := [39, 51, 89, 90, 116, 118]) func8 rfl (by kernel_rfl) (by simp [ntmps8]) fun _ => ?_
  rw [ntmps8, results8]
  refine EvC.seq (EvC.rg (by (simp only [go_sem]) <;> rfl) (by simp) ?_)
  apply EvC.seq
  apply EvC.tr
  · apply Tr.run
    · (simp only [go_sem]) <;> rfl
    · simp
    apply Tr.cons
    · exact .call rfl rfl (by (simp only [go_sem]) <;> rfl) (by (simp only [go_sem]) <;> rfl) (by (simp only [go_sem]) <;> rfl) (by (simp only [go_sem]) <;> rfl) (by (simp only [go_sem]) <;> rfl) (lamp_is 63)
    apply Tr.run
    · (simp only [go_sem]) <;> rfl
    · simp
    apply Tr.cons
    · exact .call rfl rfl (by (simp only [go_sem]) <;> rfl) (by (simp only [go_sem]) <;> rfl) (by (simp only [go_sem]) <;> rfl) (by (simp only [go_sem]) <;> rfl) (by (simp only [go_sem]) <;> rfl) (hu63)
    apply Tr.done
    · (simp only [go_sem]) <;> rfl
    · simp
  refine EvC.frzB 6 (by (simp only [go_sem]) <;> rfl) ?_
  apply EvC.seq
  apply EvC.tr
  · apply Tr.run
    · (simp only [go_sem]) <;> rfl
    · simp
    apply Tr.cons
    · exact .call rfl rfl (by (simp only [go_sem]) <;> rfl) (by (simp only [go_sem]) <;> rfl) (by (simp only [go_sem]) <;> rfl) (by (simp only [go_sem]) <;> rfl) (by (simp only [go_sem]) <;> rfl) (lamp_is 64)
    apply Tr.run
    · (simp only [go_sem]) <;> rfl
    · simp
    apply Tr.cons
    · exact .call rfl rfl (by (simp only [go_sem]) <;> rfl) (by (simp only [go_sem]) <;> rfl) (by (simp only [go_sem]) <;> rfl) (by (simp only [go_sem]) <;> rfl) (by (simp only [go_sem]) <;> rfl) (hu64)
    apply Tr.done
    · (simp only [go_sem]) <;> rfl
    · simp
  refine EvC.frzB 14 (by (simp only [go_sem]) <;> rfl) ?_
  refine EvC.seq ?_
  apply EvC.seq
  apply EvC.trd
  · (simp only [go_sem, hMl]) <;> rfl
  · simp
  refine EvC.cond_false (by (simp only [go_sem]) <;> rfl) ?_
  refine EvC.skip ?_
  refine EvC.seq (EvC.rg (by (simp only [go_sem, List.set_cons_zero, List.set_cons_succ]) <;> rfl) (by simp) ?_)
  refine EvC.frzB 42 (by (simp only [go_sem]) <;> rfl) ?_
  refine EvC.seq (EvC.rg (by (simp only [go_sem, List.set_cons_zero, List.set_cons_succ]) <;> rfl) (by simp) ?_)
  apply EvC.seq  -- R7
  apply EvC.rs
  · (simp only [go_sem]) <;> rfl
  · simp
  refine XR.callL rfl rfl (by (simp only [go_sem]) <;> rfl) (by (simp only [go_sem]) <;> rfl) (by (simp only [go_sem, callArgsL, snapL]) <;> rfl) (by (simp only [go_sem]) <;> rfl) hr4 ?_
  apply XR.done
  · (simp only [go_sem]) <;> rfl
  · simp
  refine EvC.seq (EvC.rg (by (simp only [go_sem, List.set_cons_zero, List.set_cons_succ]) <;> rfl) (by rfl) ?_)
  refine EvC.frz 48 (by (simp only [go_sem]) <;> rfl) ?_
  apply EvC.seq
  apply EvC.tr
  · apply Tr.run
    · (simp only [go_sem]) <;> rfl
    · simp
    apply Tr.cons
    · exact .call rfl rfl (by (simp only [go_sem]) <;> rfl) (by (simp only [go_sem]) <;> rfl) (by (simp only [go_sem]) <;> rfl) (by (simp only [go_sem]) <;> rfl) (by (simp only [go_sem]) <;> rfl) (hr5)
    apply Tr.done
    · (simp only [go_sem]) <;> rfl
    · simp
  refine EvC.seq ?_
  apply EvC.seq
  apply EvC.trd
  · (simp only [go_sem, hTm, hTg]) <;> rfl
  · simp [descAgg, matchKinds, matchKind]
  refine EvC.cond_false (by (simp only [go_sem]) <;> rfl) ?_
  refine EvC.skip ?_
  apply EvC.seq  -- R12
  apply EvC.region
  refine XR.gcTo ⟨[(0, .sc (.bool false)), (5, .ia [.sc (.int .i64 1), .sc (.int .i64 1), .sl false [[.sl false [[.sc (.int .i64 0), .sc (.int .i64 0)]] .full]] .full, .sl false [[.sc (.int .i64 1), .sc (.int .i64 0), .sc (.int .i64 0)]] .full])], [], [], 0⟩ [0, 5] [] (by rfl) (by (simp only [go_sem]) <;> rfl) ?_
  apply XR.callI rfl rfl (by (simp only [go_sem]) <;> rfl) (by (simp only [go_sem]) <;> rfl) (by (simp only [go_sem]) <;> rfl)
  refine lamp_body 256 ?_
  apply XR.done
  · (simp only [go_sem]) <;> rfl
  · simp
  refine EvC.seq (EvC.rg (by (simp only [go_sem, List.set_cons_zero, List.set_cons_succ]) <;> rfl) (by rfl) ?_)
  refine EvC.frz 2 (by (simp only [go_sem]) <;> rfl) ?_
  refine EvC.frz 4 (by (simp only [go_sem]) <;> rfl) ?_
  refine EvC.snapE 5 0 (by (simp only [go_sem, List.set_cons_zero]) <;> rfl) ?_
  refine EvC.snapE 5 1 (by (simp only [go_sem, List.set_cons_zero, List.set_cons_succ]) <;> rfl) ?_
  refine EvC.frzD 5 (by (simp only [go_sem]) <;> rfl) ?_
  refine EvC.frzB 14 (by (simp only [go_sem]) <;> rfl) ?_
  have ho : PureIs prog 11 [.ag [.sc (.int .i64 1), .sc (.int .i64 2), .sl false [[.sl false [[.sc (.int .i64 1), .sc (.int .i64 0)]] .unk], [.sl false [[.sc (.int .i64 (-1)), .sc (.int .i64 (-1))]] .unk]] .unk, .sl false [[.sc (.int .i64 0), .sc (.int .i64 0), .sc (.int .i64 0)], [.sc (.int .i64 256), .sc (.int .i64 0), .sc (.int .i64 1)]] .full], .sl false [[.sc (.int .i64 0), .sc (.int .i64 0)], [.sc (.int .i64 256), .sc (.int .i64 0)], [.sc (.int .i64 255), .sc (.int .i64 0)], [.sc (.int .i64 0), .sc (.int .i64 0)]] .full] (.tu [.sl false [[.sc (.int .i64 0), .sc (.int .i64 0)], [.sc (.int .i64 256), .sc (.int .i64 1)], [.sc (.int .i64 256), .sc (.int .i64 0)], [.sc (.int .i64 511), .sc (.int .i64 (-1))]] .full, .sc (.int .i64 0)]) := by
    refine PureIs.weak ?_
    exact once_runs
  have hp : PureIs prog 12 [.sl false [[.sc (.int .i64 0), .sc (.int .i64 0)], [.sc (.int .i64 256), .sc (.int .i64 1)], [.sc (.int .i64 256), .sc (.int .i64 0)], [.sc (.int .i64 511), .sc (.int .i64 (-1))]] .full, .sc (.int .i64 0), .sl false [[.sc (.int .i64 0), .sc (.int .i64 0)], [.sc (.int .i64 256), .sc (.int .i64 1)], [.sc (.int .i64 256), .sc (.int .i64 0)], [.sc (.int .i64 511), .sc (.int .i64 (-1))]] .full] (.sc (.int .i64 1)) := by
    have h := replies_is false [(0, 0), (256, 1), (256, 0), (511, -1)] 0 false [(0, 0), (256, 1), (256, 0), (511, -1)] .full (by decide)
    have e : repliesR [(0, 0), (256, 1), (256, 0), (511, -1)] 0 [(0, 0), (256, 1), (256, 0), (511, -1)] = 1 := by decide
    rw [e] at h
    exact h
  apply EvC.seq  -- R14
  apply EvC.tr
  · apply Tr.run
    · (simp only [go_sem, List.set_cons_zero, List.set_cons_succ]) <;> rfl
    · simp
    apply Tr.cons
    · exact .call rfl rfl (by (simp only [go_sem]) <;> rfl) (by (simp only [go_sem]) <;> rfl) (by (simp only [go_sem]) <;> rfl) (by (simp only [go_sem]) <;> rfl) (by (simp only [go_sem]) <;> rfl) ho
    apply Tr.done
    · (simp only [go_sem]) <;> rfl
    · simp
  refine EvC.seq ?_
  apply EvC.seq  -- R15
  apply EvC.tr
  · apply Tr.run
    · (simp only [go_sem, List.set_cons_zero, List.set_cons_succ]) <;> rfl
    · simp
    apply Tr.cons
    · exact .call rfl rfl (by (simp only [go_sem]) <;> rfl) (by (simp only [go_sem]) <;> rfl) (by (simp only [go_sem]) <;> rfl) (by (simp only [go_sem]) <;> rfl) (by (simp only [go_sem]) <;> rfl) hp
    apply Tr.done
    · (simp only [go_sem]) <;> rfl
    · simp
  refine EvC.cond_false (by (simp only [go_sem]) <;> rfl) ?_
  refine EvC.skip ?_
  refine EvC.seq (EvC.rg (by (simp only [go_sem, List.set_cons_zero, List.set_cons_succ]) <;> rfl) (by simp [room_eq]) ?_)
  refine EvC.frz 45 (by (simp only [go_sem]) <;> rfl) ?_
  refine EvC.snapE 46 0 (by (simp only [go_sem, List.set_cons_zero]) <;> rfl) ?_
  refine EvC.frzD 46 (by (simp only [go_sem]) <;> rfl) ?_
  refine EvC.frzB 51 (by (simp only [go_sem]) <;> rfl) ?_
  have hfu : PureIs prog 15 [.ag [.sc (.int .i64 16), .sc (.int .i64 1), .sl false [[.sl false [[.sc (.int .i64 0), .sc (.int .i64 0)], [.sc (.int .i64 0), .sc (.int .i64 0)], [.sc (.int .i64 0), .sc (.int .i64 0)], [.sc (.int .i64 0), .sc (.int .i64 0)], [.sc (.int .i64 0), .sc (.int .i64 0)], [.sc (.int .i64 0), .sc (.int .i64 0)], [.sc (.int .i64 0), .sc (.int .i64 0)], [.sc (.int .i64 0), .sc (.int .i64 0)], [.sc (.int .i64 0), .sc (.int .i64 0)], [.sc (.int .i64 0), .sc (.int .i64 0)], [.sc (.int .i64 0), .sc (.int .i64 0)], [.sc (.int .i64 0), .sc (.int .i64 0)], [.sc (.int .i64 0), .sc (.int .i64 0)], [.sc (.int .i64 0), .sc (.int .i64 0)], [.sc (.int .i64 0), .sc (.int .i64 0)], [.sc (.int .i64 0), .sc (.int .i64 0)]] .unk]] .unk, .sl false [[.sc (.int .i64 0), .sc (.int .i64 0), .sc (.int .i64 0)]] .full]] (.tu [.ag [.sc (.int .i64 0), .sc (.int .i64 0), .sl true [] .zer], .sc (.int .i64 3)]) := full_unf
  have hfc : PureIs prog 23 [.ag [.sc (.int .i64 16), .sc (.int .i64 1), .sl false [[.sl false [[.sc (.int .i64 0), .sc (.int .i64 0)], [.sc (.int .i64 0), .sc (.int .i64 0)], [.sc (.int .i64 0), .sc (.int .i64 0)], [.sc (.int .i64 0), .sc (.int .i64 0)], [.sc (.int .i64 0), .sc (.int .i64 0)], [.sc (.int .i64 0), .sc (.int .i64 0)], [.sc (.int .i64 0), .sc (.int .i64 0)], [.sc (.int .i64 0), .sc (.int .i64 0)], [.sc (.int .i64 0), .sc (.int .i64 0)], [.sc (.int .i64 0), .sc (.int .i64 0)], [.sc (.int .i64 0), .sc (.int .i64 0)], [.sc (.int .i64 0), .sc (.int .i64 0)], [.sc (.int .i64 0), .sc (.int .i64 0)], [.sc (.int .i64 0), .sc (.int .i64 0)], [.sc (.int .i64 0), .sc (.int .i64 0)], [.sc (.int .i64 0), .sc (.int .i64 0)]] .unk]] .unk, .sl false [[.sc (.int .i64 0), .sc (.int .i64 0), .sc (.int .i64 0)]] .full]] (.sc (.int .i64 0)) := full_check
  apply EvC.seq
  apply EvC.tr
  · apply Tr.run
    · (simp only [go_sem]) <;> rfl
    · simp
    apply Tr.cons
    · exact .call rfl rfl (by (simp only [go_sem]) <;> rfl) (by (simp only [go_sem]) <;> rfl) (by (simp only [go_sem]) <;> rfl) (by (simp only [go_sem]) <;> rfl) (by (simp only [go_sem]) <;> rfl) (hfu)
    apply Tr.done
    · (simp only [go_sem]) <;> rfl
    · simp
  obtain ⟨Z, hZ⟩ : ∃ Z : List (List AV), List.replicate 257 [AV.sc (.int .i64 0), AV.sc (.int .i64 0)] = Z := ⟨_, rfl⟩
  have hZl : Z.length = 257 := by rw [← hZ, List.length_replicate]
  have hZn : Z.all AV.norefs = true := by rw [← hZ]; simp [List.all_replicate, AV.norefs, AV.noref]
  have hfe : PureIs prog 7 [.ag [.sc (.int .i64 16), .sc (.int .i64 1), .sl false [[.sl false [[.sc (.int .i64 0), .sc (.int .i64 0)], [.sc (.int .i64 0), .sc (.int .i64 0)], [.sc (.int .i64 0), .sc (.int .i64 0)], [.sc (.int .i64 0), .sc (.int .i64 0)], [.sc (.int .i64 0), .sc (.int .i64 0)], [.sc (.int .i64 0), .sc (.int .i64 0)], [.sc (.int .i64 0), .sc (.int .i64 0)], [.sc (.int .i64 0), .sc (.int .i64 0)], [.sc (.int .i64 0), .sc (.int .i64 0)], [.sc (.int .i64 0), .sc (.int .i64 0)], [.sc (.int .i64 0), .sc (.int .i64 0)], [.sc (.int .i64 0), .sc (.int .i64 0)], [.sc (.int .i64 0), .sc (.int .i64 0)], [.sc (.int .i64 0), .sc (.int .i64 0)], [.sc (.int .i64 0), .sc (.int .i64 0)], [.sc (.int .i64 0), .sc (.int .i64 0)]] .unk]] .unk, .sl false [[.sc (.int .i64 0), .sc (.int .i64 0), .sc (.int .i64 0)]] .full], .ag [.sc (.int .i64 1), .sc (.int .i64 1), .sl false [[.sl false [[.sc (.int .i64 0), .sc (.int .i64 0)]] .full]] .full, .sl false [[.sc (.int .i64 1), .sc (.int .i64 0), .sc (.int .i64 0)]] .full], .sl false Z .unk] (.sc (.bool true)) := by rw [← hZ]; exact full_errors .unk 257 (by decide)
  have hze : PureIs prog 7 [.ag [.sc (.int .i64 0), .sc (.int .i64 0), .sl true [] .zer, .sl true [] .zer], .ag [.sc (.int .i64 1), .sc (.int .i64 1), .sl false [[.sl false [[.sc (.int .i64 0), .sc (.int .i64 0)]] .full]] .full, .sl false [[.sc (.int .i64 1), .sc (.int .i64 0), .sc (.int .i64 0)]] .full], .sl true [] .zer] (.sc (.bool true)) := zero_errors _ _ _
  apply EvC.seq  -- R19
  apply EvC.drw mixed
  · apply Tr.run
    · (simp only [go_sem]) <;> rfl
    · simp
    apply Tr.cons
    · exact .call rfl rfl (by (simp only [go_sem]) <;> rfl) (by (simp only [go_sem]) <;> rfl) (by (simp only [go_sem]) <;> rfl) (by (simp only [go_sem]) <;> rfl) (by (simp only [go_sem]) <;> rfl) hfc
    apply Tr.run
    · (simp only [go_sem]) <;> rfl
    · simp
    apply Tr.cons
    · exact .callG rfl rfl (by (simp only [go_sem]) <;> rfl) rfl (by (simp only [go_sem]) <;> rfl) (by (simp only [go_sem]) <;> rfl) (by (simp only [go_sem]) <;> rfl) (by (simp only [go_sem]) <;> rfl) (by (simp only [go_sem]) <;> rfl) (lamp_is 257)
    apply Tr.run
    · (simp only [go_sem]) <;> rfl
    · simp
    apply Tr.cons
    · exact .callG rfl rfl (by (simp only [go_sem]) <;> rfl) rfl (by (simp only [go_sem]) <;> rfl) (by (simp only [go_sem]) <;> rfl) (by (simp only [go_sem]) <;> rfl) (by (simp only [go_sem]) <;> rfl) (by (simp only [go_sem]) <;> rfl) lamp257_check
    apply Tr.run
    · (simp only [go_sem]) <;> rfl
    · simp
    apply Tr.cons
    · exact .want rfl rfl (by (simp only [go_sem]) <;> rfl) (by (simp only [go_sem]) <;> rfl) (by (simp only [go_sem, hZ]) <;> rfl) (by simp [room_eq]) (by (simp only [go_sem]) <;> rfl)
    apply Tr.cons
    · exact .callDG 3 rfl rfl (by (simp only [go_sem]) <;> rfl) rfl (by (simp only [go_sem]) <;> rfl) (by (simp only [go_sem]) <;> rfl) (by (simp only [go_sem, hZn, hZl]) <;> rfl) (by (simp only [go_sem, hZn, hZl]) <;> rfl) (by (simp only [go_sem, hZn]) <;> rfl) hfe.frSc
    apply Tr.run
    · (simp only [go_sem]) <;> rfl
    · simp
    apply Tr.cons
    · exact .callG rfl rfl (by (simp only [go_sem]) <;> rfl) rfl (by (simp only [go_sem]) <;> rfl) (by (simp only [go_sem]) <;> rfl) (by (simp only [go_sem]) <;> rfl) (by (simp only [go_sem]) <;> rfl) (by (simp only [go_sem]) <;> rfl) hze
    apply Tr.run
    · (simp only [go_sem]) <;> rfl
    · simp
    apply Tr.cons
    · exact .callG rfl rfl (by (simp only [go_sem]) <;> rfl) rfl (by (simp only [go_sem]) <;> rfl) (by (simp only [go_sem]) <;> rfl) (by (simp only [go_sem]) <;> rfl) (by (simp only [go_sem]) <;> rfl) (by (simp only [go_sem]) <;> rfl) lives_is
    apply Tr.done
    · (simp only [go_sem]) <;> rfl
    · simp
  · kernel_rfl
  refine EvC.ret ⟨.inl rfl, _, (by (simp only [go_sem]) <;> rfl), ?_, rfl⟩
  simp only [go_sem]
end Go.Avl
namespace Go.Proofs.Ytnnmghgifhidgaa
open Go Go.Avl Go.Proofs Go.ChangeShapes Go.RowKit

set_option maxRecDepth 100000 in
theorem timersKnown_lifted (os : Os) (started : os.Started) (H : Type) (enc : TypeId × Value → H) :
    ReturnsInHanded {} Try.checked os 8 .any (Rows.timersKnownSpec.pre6 enc Try.prog Try.f8 Rows.timersKnownRow.domain false) (Rows.timersKnownSpec.post enc Try.prog Try.f8 false true false false) := by
  refine returnsInHanded_of_change_sized (C := Try.checked) Try.own started (by kernel_rfl) Try.func8
    (ChangeSpec.witness6 (enc := enc) (C := Try.checked) false ⟨#[], #[], []⟩ 8 (by kernel_rfl) (by kernel_rfl) (by kernel_rfl) (by kernel_rfl)) ?_
  intro W base args ds gs before hval hW _ hz _
  have hW' := hW
  obtain ⟨p, q, hA, hV, rfl, _, _⟩ := hW'
  obtain ⟨rfl, rfl⟩ := trodVars_none hV
  have hA' : DataW.TrodAll enc Try.prog W 0 (fun _ => true) true [] args.toList ds p := by rw [← show Try.f8.params.toList = [] from rfl]; exact hA
  obtain ⟨rfl, rfl, rfl⟩ := trodAll_none hA'
  have hz' : (DataW.weightsEach Try.prog [] []).all (· ≤ reachBytes) = true := hz
  have hf := fits_each (P := Try.prog) (ts := []) (l := []) fun n hn => by simpa using List.all_eq_true.1 hz' n hn
  exact law_calls Try.laidOut (by kernel_rfl) rfl (by kernel_rfl) rfl rfl timersKnown_is ⟨rfl, fun _ h => absurd h (Nat.not_lt_zero _)⟩ hW

theorem timersKnown_holds : Rows.TimersKnownSaid :=
  OpenClaim.holds_of_wide 8 Try.f8 rfl rfl rfl rfl rfl rfl rfl ⟨rfl, rfl, rfl, rfl, rfl⟩ rfl rfl rfl rfl rfl (by kernel_rfl) Try.func8 (by kernel_rfl)
    (of_decide_eq_true (by kernel_rfl)) (by unfold Func.isWrapper; first | (rw [if_pos (by decide +kernel)]; kernel_rfl) | (rw [if_neg (by decide +kernel)]; exact ⟨rfl, rfl⟩))
    (fun os started H enc _ => timersKnown_lifted os started H enc)
#print axioms timersKnown_holds
end Go.Proofs.Ytnnmghgifhidgaa
