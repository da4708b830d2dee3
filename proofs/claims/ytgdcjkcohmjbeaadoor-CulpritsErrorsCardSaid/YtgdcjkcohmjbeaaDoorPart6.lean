/-
  The same, where the round leaves objects of its own to the next one.
  The test by slots, where operations wait through others.
  A region up to one of its operations.
  The rules once more, with what is shown the same way each time as defaults.
  Facts of the types, printed by a program of this claim's own.
  Lemmas.
-/
import Derived.KernelRfl
import Derived.Test.YtgdcjkcohmjbeaaDoorProg
import Derived.Test.YtgdcjkcohmjbeaaDoorPart5
set_option linter.unusedSimpArgs false
set_option linter.unusedVariables false
set_option linter.unnecessarySimpa false
set_option linter.deprecated false
namespace Go.Avl
open Go
section
variable {P : Program} {fr : Fr} {ro : Option Nat} {ds : DS} {st st' : St} {G G' : Nat → Option Value} {F F' F2 : Nat → Nat → Prop} {a : Act} {w w' : World} {x y c : Code}
 {M : Mem} {ops : Array Oper} {l rest : List Oper} {o : Oper} {h0 : Nat} {J : Env} {k : Option Nat} {O : Nat → Prop}
def resG (B : Nat) (G : Nat → Option Value) (id : Nat) : Option Value := if id < B then G id else none
theorem resG_lt {B : Nat} {G : Nat → Option Value} {id : Nat} (h : id < B) : resG B G id = G id := if_pos h
theorem resG_ne {B : Nat} {G : Nat → Option Value} {id : Nat} (h : resG B G id ≠ none) : id < B := by
 by_cases hb : id < B
 ·exact hb
 ·exact absurd (if_neg hb) h
theorem Step.res {B : Nat} {M' : Mem} (S : Step (· < B) G F M w G' F' M' w') : GS (· < B) (resG B G) F M w (resG B G') F' M' w' where
 F1 := S.F1
 F2 := S.F2
 some' := fun id hB h => by rw [resG_lt hB] at h ⊢; exact S.some' id hB h
 same := fun id v hB h hv => by rw [resG_lt hB] at h ⊢; exact S.same id v hB h hv
 keep := fun id o' hB h hm => by rw [resG_lt hB] at h ⊢; rw [resG_lt hB]; exact S.keep id o' hB h hm
theorem RV.unres {B : Nat} {v : Value} {x : AV} (h : RV (resG B G) F M w v x) : RV G F M w v x :=
 h.gs (B := (· < B)) (G' := G) (F' := F) (M' := M) (w' := w)
  { F1 := fun _ _ h => h, F2 := fun _ _ _ => rfl
    some' := fun id hB h => by rwa [resG_lt hB] at h
    same := fun id v hB h _ => by rwa [resG_lt hB] at h
    keep := fun id o' hB h hm => by
     rw [resG_lt hB] at h ⊢
     obtain ⟨v, hv⟩ := Option.ne_none_iff_exists'.1 h
     exact ⟨o', v, v, hm, hv, hv, by cases o' <;> simp [objKeep]⟩ } fun id h => resG_ne h
variable {Q : Exit → St → Prop}
theorem EvC.rangeN {σ : Type} {g : Operand} {ps : Array Tmp} {assign body : Code} {gf : FuncId} {caps : List AV} {xs : List (List Int)} (hro : ds.ro = ro) (hnm : ro = none → ds.nm = none) (hg : opnd fr st.clr g = .fn gf caps) (hn : AV.norefs caps = true) (hs : SeqIsT P gf caps xs)
  (hpos : ∀ x ∈ xs, x ≠ []) (hps : ps.size = 1) (hpk : ∀ p ∈ ps, p < fr.sz) (hbase : fr.base ≤ st.nx) (NX : Nat) (hNX : st.nx ≤ NX) (sh : Nat → σ → Mem) (inv : Nat → σ → Prop) (hff : ∀ k s, inv k s → memFf (sh k s) = true) (h0 : ∃ s, st.mem = sh 0 s ∧ inv 0 s)
  (round : ∀ k s lp, (hk : k < xs.length) → inv k s → EvC P ⟨st.nx, fr.nv, fr.hid, fr.sz⟩ (some lp) ⟨0, some lp, true⟩ assign (bindP ⟨st.nx, fr.nv, fr.hid, fr.sz⟩ ps.toList [.sl false (xs[k].map lentC) .unk] ⟨st.vars, [], sh k s, NX⟩) fun e st1 => e = .normal ∧
   EvC P ⟨st.nx, fr.nv, fr.hid, fr.sz⟩ (some lp) ⟨0, some lp, true⟩ body st1 fun e st2 => match e with
    | .normal => ∃ K s', gcOk st.nx NX K = true ∧ renMem st2.mem K K = sh (k + 1) s' ∧ inv (k + 1) s'
    | _ => False)
  (done : ∀ s, inv xs.length s → Q .normal ⟨st.vars, [], sh xs.length s, NX⟩) : EvC P fr ro ds (.rangeFunc g ps assign body) st Q := by
 intro G0 F0 M0 w0 G F a w S s
 refine wpIn_rangeFunc fun fn hfn => ?_
 obtain ⟨l, mk, W1, D, he, hlw, hl1, hsz1, hold1, hmk, hkp1, _⟩ := enter_loop (P := P) hro hnm s.defers fn ps assign body
 obtain ⟨rec, hrec⟩ : ∃ rec : LoopState → Option Code → Loop, rec = fun st pe => { state := st, pending := pe, fn, tmps := a.tmps, params := ps, assign, body, defers := D } := ⟨_, rfl⟩
 have hl1 : W1.heap[l]? = some (.loop (rec .ready none)) := by rw [hrec]; exact hl1
 have hw0 : w0.heap.size ≤ l := Nat.le_trans S.size hlw
 have hgv := s.clr.eval g
 rw [hg] at hgv
 obtain ⟨vs, hev, hvl, hvs⟩ := hgv.inv_fn
 have hF1 : ∀ b o, F b o → b < W1.heap.size := fun b o h => Nat.lt_of_lt_of_le (s.sim.mem.inF b o h) hsz1
 have hk1 : ∀ (b : Nat) (o : Obj), w.heap[b]? = some o → isData o = true → W1.heap[b]? = some o := fun b o hb _ => by rw [hold1 b (Array.getElem?_eq_some_iff.1 hb).1]; exact hb
 let J : Env := fun k F' O W => match k with
  | some k => ∃ G' s, inv k s ∧ Core P fr ds a W1.heap.size mk G0 F0 M0 w0 ⟨st.vars, [], sh k s, NX⟩ G' F' O W ∧ W.heap[l]? = some (.loop (rec .ready none)) ∧ ∀ i, RV (resG st.nx G') F' (sh k s) W (a.tmps.getD i undef) ((⟨st.vars, [], sh k s, NX⟩ : St).get fr i)
  | none => ∃ G' M' nx' c, ((c = Code.ret ∧ Q .ret ⟨st.vars, [], M', nx'⟩) ∨ ∃ id, c = Code.exit id ∧ Q (.exit id) ⟨st.vars, [], M', nx'⟩) ∧ Core P fr ds a W1.heap.size mk G0 F0 M0 w0 ⟨st.vars, [], M', nx'⟩ G' F' O W ∧ W.heap[l]? = some (.loop (rec .done (some c)))
 have hlN : l < W1.heap.size := (Array.getElem?_eq_some_iff.1 hl1).1
 have hJ : Stable J := by
  intro k F O w F' O' w' h I
  cases k with
  | some k =>
    obtain ⟨G', s, h1, h2, h3, h6⟩ := h
    obtain ⟨h4, h5⟩ := h2.it I
    have E : EnvStep (fun _ => False) F w F' w' := ⟨I.size, fun b hb => hb.elim, I.F1, I.F2, fun b o _ hb => hb.elim, I.inF, I.kept⟩
    exact ⟨G', s, h1, h4, (h5 _ hlN).trans h3, fun i => (h6 i).env E⟩
  | none =>
    obtain ⟨G', M', nx', c, h1, h2, h3⟩ := h
    obtain ⟨h4, h5⟩ := h2.it I
    exact ⟨G', M', nx', c, h1, h4, (h5 _ hlN).trans h3⟩
 have hy : YieldsT P J l xs := by
  intro k F O W v hk hF hO hi ⟨G', σ', hinv, hc, hlW, hsl⟩
  obtain ⟨lb, lc, rfl, hlc, hlO2, hlF, hlx⟩ := hi
  obtain ⟨Fp, hFp⟩ : ∃ Fp : Nat → Nat → Prop, Fp = fun b o => F b o ∨ (b = lb ∧ o < xs[k].length) := ⟨_, rfl⟩
  have hFF : ∀ b o, F b o → Fp b o := fun b o h => by rw [hFp]; exact .inl h
  have E0 : EnvStep (Owned G' (sh k σ')) F W Fp W := ⟨Nat.le_refl _, fun _ _ => rfl, hFF, fun _ _ _ => rfl, fun b o h hb => by
   rw [hFp] at h
   rcases h with h | ⟨rfl, _⟩
   ·exact h
   ·exact absurd hlO2 (hc.disj _ hb), fun b o h => by
   rw [hFp] at h
   rcases h with h | ⟨rfl, _⟩
   ·exact hF.1 b o h
   ·exact hO _ hlO2, .refl⟩
  obtain ⟨vals, hvals0⟩ : ∃ vals : List Value, vals = [Value.slice (some ⟨lb, 0, none⟩) xs[k].length lc] := ⟨_, rfl⟩
  have hi : Imms Fp W vals [.sl false (xs[k].map lentC) .unk] := by
   subst hvals0
   refine ⟨rfl, fun i h1 h2 => ?_⟩
   have : i = 0 := by simpa using h1
   subst this
   have e := Imm.sl (F := Fp) (w := W) lb 0 lc 1 (xs[k].map lentC) .unk (fun i _ => .int .i64 (xs[k].getD i 0)) (by simpa using hlc) (.inl rfl) (fun i h => by simp [lentC]) (fun i j hi hj => by
    have hi : i < xs[k].length := by simpa using hi
    have hj : j = 0 := by omega
    subst hj
    rw [Nat.mul_one, Nat.zero_add, Nat.add_zero]
    refine ⟨by rw [hFp]; exact .inr ⟨rfl, hi⟩, ?_, rfl⟩
    rw [hlx i hi]; simp [List.getD_eq_getElem?_getD, hi]) (fun i j hi hj => by
    have hi : i < xs[k].length := by simpa using hi
    have e : (xs[k].map lentC)[i]'(by simpa using hi) = lentC xs[k][i] := List.getElem_map _
    have hj : j = 0 := by simp [lentC] at hj; exact hj
    subst hj
    simp only [List.getElem_map, lentC, List.getElem_cons_zero, List.getD_eq_getElem?_getD, List.getElem?_eq_getElem hi, Option.getD_some]
    exact .sc _)
   simpa using e
  have hlt := (Array.getElem?_eq_some_iff.1 hlW).1
  have hvals : vals.length = ps.size := hi.1.trans hps.symm
  have hyield := run_yield (P := P) (args := vals.toArray) hlW (by rw [hrec]; simpa using hvals)
  have hva : #[Value.slice (some ⟨lb, 0, none⟩) xs[k].length lc] = vals.toArray := by rw [hvals0]
  rw [hva]
  have hlO : ¬ O l := fun h => by have := hc.lo l h; omega
  refine ⟨_, _, _, _, hyield, roundIn_of_wpIn (by rw [hrec]; exact hfn) ?_⟩
  have s1 : SimA P ⟨st.nx, fr.nv, fr.hid, fr.sz⟩ ⟨0, some l, true⟩ G' Fp ⟨st.vars, [], sh k σ', NX⟩ { tmps := a.tmps, defers := [] } W :=
   ⟨⟨hc.mem.env E0 fun _ h => h, fun i => (hc.slots i).env E0, s.sim.size⟩, hc.fresh, .round hlW⟩
  have s2 := s1.bind (ps := ps.toList) (by simpa using hvals) hi (fun p hp => hpk p (by simpa using hp))
  have htm : (((rec .ready none).params.zip vals.toArray).foldl (fun tmps (t, a) => tmps.setIfInBounds t a) (rec .ready none).tmps) = (ps.toList.zip vals).foldl (fun t (p, v) => t.setIfInBounds p v) a.tmps := by
   rw [hrec]
   simp only
   rw [← Array.foldl_toList]
   simp
  rw [htm]
  have hA := round k σ' l hk hinv G' Fp _ W G' Fp _ W (by
   have : (bindP ⟨st.nx, fr.nv, fr.hid, fr.sz⟩ ps.toList [.sl false (xs[k].map lentC) .unk] ⟨st.vars, [], sh k σ', NX⟩).mem = sh k σ' := bindP_mem _ _ _
   rw [this]; exact .refl) s2
  have hfe : (Fence.wide.inRound l) = fc (some l) := rfl
  rw [hfe]
  have ea : (rec .ready none).assign = assign := by rw [hrec]
  have eb : (rec .ready none).body = body := by rw [hrec]
  rw [ea, eb]
  refine wpIn_mono hA ?_
  rintro e a1 Wa ⟨Ga, Fa, sta, sa, Sa, rfl, hB⟩
  have em : (bindP ⟨st.nx, fr.nv, fr.hid, fr.sz⟩ ps.toList [.sl false (xs[k].map lentC) .unk] ⟨st.vars, [], sh k σ', NX⟩).mem = sh k σ' := bindP_mem _ _ _
  have hla : Wa.heap[l]? = some (.loop (rec .ready none)) := Sa.keepObj (by have := s2.sim.mem; rw [em] at this; exact this) hlW rfl
  refine ⟨_, run_beginRound hla (by rw [hrec]), ?_⟩
  have hlta := (Array.getElem?_eq_some_iff.1 hla).1
  have hlb : (Wa.putObj l (.loop { rec .ready none with state := .busy })).heap[l]? = some (.loop { rec .ready none with state := .busy }) := World.putObj_heap_same hlta
  have hda := sa.defers.2.2.1 [] rfl
  have sb : SimA P ⟨st.nx, fr.nv, fr.hid, fr.sz⟩ ⟨0, some l, true⟩ Ga Fa sta a1 (Wa.putObj l (.loop { rec .ready none with state := .busy })) :=
   sa.keepData (keep_put hla rfl _) (by rw [World.putObj_size]; exact Nat.le_refl _) (by rw [hda]; exact .round hlb)
  refine wpIn_mono (hB Ga Fa sta.mem _ Ga Fa a1 _ .refl sb) ?_
  rintro e a3 W3 ⟨G3, F3, st3, s3, S3, hq⟩
  have hl3 : W3.heap[l]? = some (.loop { rec .ready none with state := .busy }) := S3.keepObj sb.sim.mem hlb rfl
  have hlt3 := (Array.getElem?_eq_some_iff.1 hl3).1
  have hrb : ∀ jump : Option Code, (Instr.endRound l jump).run P W3 = .ok (.bool jump.isNone) (W3.putObj l (.loop (rec (if jump.isNone then .ready else .done) jump))) := fun jump => by
   have := run_endRound (P := P) jump hl3
   rw [hrec] at this ⊢; exact this
  have Sr : ∀ o4 : Obj, isData o4 = false → Step (· < st.nx) G' Fp (sh k σ') (W.putObj l o4) G3 F3 st3.mem (W3.putObj l o4) := fun o4 h4 => by
   have t1 := (Sa.put (by exact hlt) (.loop { rec .ready none with state := .busy })).trans S3
   have t2 := t1.put (by rw [World.putObj_size]; exact hlt) o4
   rw [putObj_put] at t2
   exact t2
  obtain ⟨Fq, hFq⟩ : ∃ Fq : Nat → Nat → Prop, Fq = fun b o => F3 b o ∧ (O b → F b o) := ⟨_, rfl⟩
  have fin : ∀ (o4 : Obj), isData o4 = false → ∀ (G4 : Nat → Option Value) (st4 : St), memFf st4.mem = true → SimM P G4 F3 st4.mem st4.nx W3 → (∀ j, st4.nx ≤ j → G4 j = none) → Step (· < st.nx) G3 F3 st3.mem W3 G4 F3 st4.mem W3 → st4.vars = st.vars → st4.tmps = [] →
    Core P fr ds a W1.heap.size mk G0 F0 M0 w0 st4 G4 Fq O (W3.putObj l o4) ∧ EnvStep O F W Fq (W3.putObj l o4) ∧ ∀ i, RV (resG st.nx G4) Fq st4.mem (W3.putObj l o4) (a.tmps.getD i undef) (st4.get fr i) := by
   intro o4 h4 G4 st4 hf4' hm4 hf4 S4 hv4 ht4
   have Sx : Step (· < st.nx) G' Fp (sh k σ') (W.putObj l o4) G4 F3 st4.mem (W3.putObj l o4) := (Sr o4 h4).trans (S4.put hlt3 o4)
   have Sy : Step (· < st.nx) G' F (sh k σ') (W.putObj l o4) G4 Fq st4.mem (W3.putObj l o4) :=
    { Sx with
      F1 := fun b o h => by rw [hFq]; exact ⟨Sx.F1 b o (hFF b o h), fun _ => h⟩
      F2 := fun b o h => Sx.F2 b o (hFF b o h)
      F3 := fun b o h => by
       rw [hFq] at h
       rcases Sx.F3 b o h.1 with h' | h'
       ·rw [hFp] at h'
        rcases h' with h' | ⟨rfl, _⟩
        ·exact .inl h'
        ·exact .inl (h.2 hlO2)
       ·exact .inr h' }
   have hkW := keep_put hlW rfl o4
   have hdisj : ∀ b, O b → ¬ Owned G' (sh k σ') b := fun b hb hO => hc.disj b hO hb
   have hown : ∀ b, O b → (W3.putObj l o4).heap[b]? = W.heap[b]? := fun b hb => by
    rw [Sx.out b (by rw [World.putObj_size]; exact hO b hb) (hdisj b hb)]
    exact World.putObj_heap_other (by rintro rfl; exact hlO hb)
   have hdis4 : ∀ b, Owned G4 st4.mem b → ¬ O b := fun b hb hO' => by
    rcases Sx.own b hb with h | h
    ·rw [World.putObj_size] at h; have := hO b hO'; omega
    ·exact hc.disj b h hO'
   have hm4' : SimM P G4 Fq st4.mem st4.nx (W3.putObj l o4) := by
    have := hm4.keepData (keep_put hl3 rfl o4) (by rw [World.putObj_size]; exact Nat.le_refl _)
    refine this.ff hf4' (fun b o h => by rw [hFq] at h; exact h.1) (fun b hb o h => by rw [hFq]; exact ⟨h, fun hO' => absurd hO' (hdis4 b hb)⟩) ?_
    refine (hc.mem.gl.mono (F' := F) (w' := W.putObj l o4) (fun _ _ h => h) fun b o _ => ?_).mono Sy.F1 Sy.F2
    exact putNd hlW rfl h4 b o
   have S0x := (hc.step.putAbove hw0 hlW rfl h4).trans (Sy.mono fun id hid => Nat.lt_of_lt_of_le hid hbase)
   have slr : ∀ i, RV (resG st.nx G4) Fq st4.mem (W3.putObj l o4) (a.tmps.getD i undef) (st4.get fr i) := fun i => by
    have h1 := hsl i
    have e : (⟨st.vars, [], sh k σ', NX⟩ : St).get fr i = st4.get fr i := by unfold St.get; rw [hv4, ht4]
    rw [e] at h1
    exact (h1.keepData hkW).gs Sy.res fun id hid => resG_ne hid
   have sl : ∀ i, RV G4 Fq st4.mem (W3.putObj l o4) (a.tmps.getD i undef) (st4.get fr i) := fun i => (slr i).unres
   refine ⟨⟨hm4', sl, hf4, S0x, ?_, hdis4, hc.lo, hc.wN, ?_, hc.mlt⟩, ⟨?_, hown, fun b o h => Sy.F1 b o h, fun b o h => ?_, fun b o h hb => ?_, fun b o h => hm4'.inF b o h, Kept.trans (.set hlW rfl (unfroz_nd h4)) Sx.kept⟩, slr⟩
   ·have m1 : Marks ds (mk ++ a.defers) (W.putObj l o4) := hc.marks_put s.defers hlW hlw
    exact m1.step (hc.mem.keepData hkW (by rw [World.putObj_size]; exact Nat.le_refl _)) Sy
   ·have := Sx.size; rw [World.putObj_size] at this; exact Nat.le_trans hc.NW this
   ·have := Sx.size; rw [World.putObj_size] at this; exact this
   ·rw [Sy.F2 b o h]
    exact putNd hlW rfl h4 b o
   ·rw [hFq] at h; exact h.2 hb
  cases e with
  | normal =>
    obtain ⟨K, σ2, hK, hmem, hinv2⟩ := hq
    obtain ⟨s4, S4⟩ := s3.gc (L := []) (nx := NX) hK
    have em4 : (st3.gc [] K NX).mem = sh (k + 1) σ2 := hmem
    obtain ⟨hcore, hE, hsl2⟩ := fin (.loop (rec .ready none)) rfl _ ⟨st.vars, [], sh (k + 1) σ2, NX⟩ (hff _ _ hinv2) (by rw [← em4]; exact s4.sim.mem) s4.fresh (by rw [← em4]; exact S4) rfl rfl
    exact ⟨_, _, hrb none, Fq, hE, .inl ⟨rfl, _, σ2, hinv2, hcore, World.putObj_heap_same hlt3, hsl2⟩⟩
  | ret => exact hq.elim
  | exit id => exact hq.elim
  | goto t => exact hq.elim
  | panic ch => exact hq.elim
  | outgrown => exact hq.elim
 obtain ⟨σ0, hm0, hinv0⟩ := h0
 have hj0 : J (some 0) F (fun _ => False) W1 := by
  refine ⟨G, σ0, hinv0, ⟨by rw [← hm0]; exact (s.sim.mem.keepData hk1 hsz1).more hNX, fun i => ?_, fun j hj => s.fresh j (Nat.le_trans hNX hj), ?_, hmk, fun _ _ h => h, fun _ h => h.elim, Nat.le_trans S.size hsz1, Nat.le_refl _, hmk.lt⟩, hl1, fun i => ?_⟩
  ·have := s.clr.sim.slots i
   simp only [← hm0]
   exact this.keepData hk1
  ·simp only [← hm0]
   exact S.allocs hsz1 hold1 s.sim.mem.inF hkp1
  ·have h1 := s.clr.sim.slots i
   have h2 : RV (resG st.nx G) F st.mem W1 (a.tmps.getD i undef) (st.clr.get fr i) := (h1.keepData hk1).gs (B := (· < st.nx)) (G' := resG st.nx G)
    { F1 := fun _ _ h => h, F2 := fun _ _ _ => rfl
      some' := fun id hB h => by rwa [resG_lt hB]
      same := fun id v hB h _ => by rwa [resG_lt hB]
      keep := fun id o' hB h hm => by
       obtain ⟨v, hv⟩ := Option.ne_none_iff_exists'.1 h
       exact ⟨o', v, v, hm, hv, by rw [resG_lt hB]; exact hv, by cases o' <;> simp [objKeep]⟩ } fun id hid => Nat.lt_of_not_le fun hle => hid (s.fresh id hle)
   rw [← hm0]; exact h2
 refine ⟨l, mk, W1, { target := .fn (.func gf) vs.toArray, args := #[yv l] }, W1, gf, #[yv l] ++ vs.toArray, W1, he, ?_, fun _ _ => trivial, ?_, fun h => by simp [fc, Fence.wide] at h, ?_⟩
 ·simp only [rangeCall, resolve, hev]
  simp [go_sem, yv, Deferred.ofValue]
 ·have := hs.1 (#[yv l] ++ vs.toArray) W1
  simp only [invoke]
  exact this
 ·have hcall := hs.2 l J hJ hy F W1 vs ⟨hF1, s.sim.mem.gl.mono (fun _ _ h => h) fun b o h => cell?_same (hold1 b (s.sim.mem.inF b o h)) o⟩ ⟨hvl, fun i h1 h2 => ((hvs i h1 h2).imm_of (norefs_get caps hn i h2)).mono (fun _ _ h => h) fun b o h => cell?_same (hold1 b (s.sim.mem.inF b o h)) o⟩ hj0
  refine CallsIn.mono (F := fc ro) (n := 0 - 1) (callsIn_fc hcall) ?_
  rintro e W2 ⟨v, F2, rfl, hj⟩
  rcases hj with hj | hj
  ·obtain ⟨G2, σ2, hinv2, hc, hl2, _⟩ := hj
   refine ⟨none, _, by have := run_endLoop (P := P) hl2 (by rw [hrec]; simp); rw [hrec] at this; exact this, ?_⟩
   refine ⟨G2, F2, _, ⟨⟨hc.mem.keepData (keep_put hl2 rfl _) (by rw [World.putObj_size]; exact Nat.le_refl _), fun i => (hc.slots i).keepData (keep_put hl2 rfl _), s.sim.size⟩, hc.fresh, ?_⟩, hc.step.putAbove hw0 hl2 rfl rfl, done σ2 hinv2⟩
   exact hc.marks_put s.defers hl2 hlw
  ·obtain ⟨G2, M2, nx2, c, hcq, hc, hl2⟩ := hj
   refine ⟨some c, _, by have := run_endLoop (P := P) hl2 (by rw [hrec]; simp); rw [hrec] at this; exact this, ?_⟩
   have post : ∀ e, Q e ⟨st.vars, [], M2, nx2⟩ → Post P fr ds G0 F0 M0 w0 Q e { a with defers := mk ++ a.defers } (W2.putObj l (.loop { rec .done (some c) with state := .exhausted })) := fun e hq =>
    ⟨G2, F2, _, ⟨⟨hc.mem.keepData (keep_put hl2 rfl _) (by rw [World.putObj_size]; exact Nat.le_refl _), fun i => (hc.slots i).keepData (keep_put hl2 rfl _), s.sim.size⟩, hc.fresh, hc.marks_put s.defers hl2 hlw⟩, hc.step.putAbove hw0 hl2 rfl rfl, hq⟩
   rcases hcq with ⟨rfl, hq⟩ | ⟨id, rfl, hq⟩
   ·have := wpIn_ret (F := fc ro) (n := 0) (P := P) (post .ret hq)
    rw [hrec] at this; exact this
   ·have := wpIn_exit (F := fc ro) (n := 0) (P := P) (post (.exit id) hq)
    rw [hrec] at this; exact this
end
variable {P : Program} {fr : Fr} {ro : Option Nat} {ds : DS} {Q : Exit → St → Prop} {ops : Array Oper}
section
variable {P : Program} {fr : Fr} {ro : Option Nat} {ds : DS} {st st' : St} {Q Q' : Exit → St → Prop} {x y c : Code} {l rest : List Oper} {o : Oper} {ok : Bool} {id : Nat} {ops : Array Oper} {its : List It}
theorem EvC.a (hq : EvC P fr ro ds y st'.clr Q) (h : xrun P fr l st.clr true = .done ok st' := by simp only [go_sem] <;> rfl) (hok : ok = true := by simp) : EvC P fr ro ds (.seq (.region id l.toArray false) y) st Q := .seq (.rg h hok hq)
theorem EvC.b (hq : Q .normal st'.clr) (h : xrun P fr l st.clr true = .done ok st' := by simp only [go_sem] <;> rfl) (hok : ok = true := by simp) : EvC P fr ro ds (.region id l.toArray false) st Q := .rg h hok hq
theorem EvC.s1 (ht : Tr P fr ro ds l.toArray st.nx l st.clr its st') (hq : EvC P fr ro ds y (st'.fin (st.nx + its.length)) Q) : EvC P fr ro ds (.seq (.region id l.toArray false) y) st Q := .seq (.tr ht hq)
theorem EvC.ct {o : Operand} (ht : EvC P fr ro ds x st Q) (ho : opnd fr st o = .sc (.bool true) := by simp only [go_sem] <;> rfl) : EvC P fr ro ds (.cond o x y) st Q := .cond_true ho ht
theorem EvC.cf {o : Operand} (ht : EvC P fr ro ds y st Q) (ho : opnd fr st o = .sc (.bool false) := by simp only [go_sem] <;> rfl) : EvC P fr ro ds (.cond o x y) st Q := .cond_false ho ht
theorem EvC.cs {o : Operand} (h : Q .normal st) (ho : opnd fr st o = .sc (.bool false) := by simp only [go_sem] <;> rfl) : EvC P fr ro ds (.cond o x .skip) st Q := .cond_false ho (.skip h)
theorem EvC.cr {o : Operand} (h : Q .normal st) (ho : opnd fr st o = .sc (.bool true) := by simp only [go_sem] <;> rfl) : EvC P fr ro ds (.cond o .skip y) st Q := .cond_true ho (.skip h)
theorem EvC.z (i : Nat) (hc : EvC P fr ro ds c st' Q) (h : st.frzB i = some st' := by simp only [go_sem] <;> rfl) : EvC P fr ro ds c st Q := .frzB i h hc
theorem EvC.rz {results : List ResultVar} {r : AV} {rs : List AV} (h2 : mkRes rs = r) (hQ : Q .ret st = retP P fr results r .ret st := by rfl) (h1 : resAll P fr st results = some rs := by simp only [go_sem] <;> rfl) (h3 : r.noref = true := by rfl) : EvC P fr ro ds .ret st Q := .ret (by rw [hQ]; exact ⟨.inl rfl, _, h1, h2, h3⟩)
theorem OpIs.ca {f : FuncId} {cs : List AV} {callee : Operand} {args : Array Operand} {tys : Array TypeId} {xs : List AV} {v : AV} {rd : List Nat} (hc : PureIs P f xs v) (hg : o.guard = none := by rfl) (hop : o.op = .call ⟨.value callee, args, tys⟩ := by rfl) (hd : dok fr o.dst = true := by simp only [go_sem] <;> rfl)
 (hcal : od fr st true callee = .fn f cs := by simp only [go_sem] <;> rfl) (hxs : callArgs fr st args ++ cs = xs := by simp only [go_sem] <;> rfl) (hn : AV.norefs xs = true := by simp only [go_sem] <;> rfl) (hrd : rdOf fr st [] o = rd := by simp only [go_sem] <;> rfl) : OpIs P fr ro ds ops id st ⟨o, ⟨v, none⟩, rd⟩ := .call hg hop hd hcal hxs hn hrd hc
theorem OpIs.cg {j k : Nat} {want : Bool} {f : FuncId} {cs : List AV} {callee : Operand} {args : Array Operand} {tys : Array TypeId} {xs : List AV} {v : AV} {rd : List Nat} (hc : PureIs P f xs v) (hg : o.guard = some (j, want) := by rfl) (hj : gslot ops j = some k := by rfl) (hk : gval want (st.get fr k) = some true := by simp only [go_sem] <;> rfl)
 (hop : o.op = .call ⟨.value callee, args, tys⟩ := by rfl) (hd : dok fr o.dst = true := by simp only [go_sem] <;> rfl)
 (hcal : od fr st true callee = .fn f cs := by simp only [go_sem] <;> rfl) (hxs : callArgs fr st args ++ cs = xs := by simp only [go_sem] <;> rfl) (hn : AV.norefs xs = true := by simp only [go_sem] <;> rfl) (hrd : rdOf fr st [2 * k] o = rd := by simp only [go_sem] <;> rfl) : OpIs P fr ro ds ops id st ⟨o, ⟨v, none⟩, rd⟩ := .callG hg hj hk hop hd hcal hxs hn hrd hc
theorem PureIs.of1 (nv : Nat) (hid : List Nat) {f : FuncId} {fn : Func} {args : List AV} {r : AV} {n : Nat} {rs : Array ResultVar} (hf : P.funcs[f]? = some fn) (hn : fn.ntmps = n) (hr : fn.results = rs)
  (h : ∀ h0 : Nat, EvC P ⟨0, nv, hid, n⟩ none ⟨h0, none, false⟩ c (st0 args) (retP P ⟨0, nv, hid, n⟩ rs.toList r)) (hb : fn.body = some c := by rfl) (hnm : (fn.name == "runtime.NumGoroutine") = false := by kernel_rfl) (hsz : args.length ≤ n := by simp) : PureIs P f args r := by
 subst hn hr
 exact .of hf hb hnm hsz h
end
open Go Go.Proofs.Tryd
@[go_sem] theorem ty_cellsOf_120 : Program.cellsOf prog 120 = 4 := by kernel_rfl
@[go_sem] theorem ty_cellsOf_131 : Program.cellsOf prog 131 = 2 := by kernel_rfl
@[go_sem] theorem ty_cellsOf_178 : Program.cellsOf prog 178 = 4 := by kernel_rfl
@[go_sem] theorem ty_cellsOf_195 : Program.cellsOf prog 195 = 2 := by kernel_rfl
@[go_sem] theorem ty_cellsOf_209 : Program.cellsOf prog 209 = 4 := by kernel_rfl
@[go_sem] theorem ty_cellsOf_3 : Program.cellsOf prog 3 = 1 := by kernel_rfl
@[go_sem] theorem ty_cellsOf_31 : Program.cellsOf prog 31 = 1 := by kernel_rfl
@[go_sem] theorem ty_cellsOf_33 : Program.cellsOf prog 33 = 3 := by kernel_rfl
@[go_sem] theorem ty_cellsOf_34 : Program.cellsOf prog 34 = 1 := by kernel_rfl
@[go_sem] theorem ty_cellsOf_35 : Program.cellsOf prog 35 = 1 := by kernel_rfl
@[go_sem] theorem ty_cellsOf_4 : Program.cellsOf prog 4 = 1 := by kernel_rfl
@[go_sem] theorem ty_cellsOf_40 : Program.cellsOf prog 40 = 1 := by kernel_rfl
@[go_sem] theorem ty_cellsOf_41 : Program.cellsOf prog 41 = 1 := by kernel_rfl
@[go_sem] theorem ty_cellsOf_70 : Program.cellsOf prog 70 = 6 := by kernel_rfl
@[go_sem] theorem ty_cellsOf_75 : Program.cellsOf prog 75 = 1 := by kernel_rfl
@[go_sem] theorem ty_cellsOf_77 : Program.cellsOf prog 77 = 3 := by kernel_rfl
@[go_sem] theorem ty_cellsOf_79 : Program.cellsOf prog 79 = 2 := by kernel_rfl
@[go_sem] theorem ty_cellsOf_85 : Program.cellsOf prog 85 = 1 := by kernel_rfl
@[go_sem] theorem ty_cellsOf_87 : Program.cellsOf prog 87 = 2 := by kernel_rfl
@[go_sem] theorem ty_cellsOf_95 : Program.cellsOf prog 95 = 2 := by kernel_rfl
@[go_sem] theorem ty_eqKinds_195 : eqKinds prog 195 = some [Kd.int IntKind.i64, Kd.int IntKind.i64] := by kernel_rfl
@[go_sem] theorem ty_eqKinds_70 : eqKinds prog 70 = some [Kd.int IntKind.i64, Kd.int IntKind.i64, Kd.int IntKind.i64, Kd.int IntKind.i64, Kd.int IntKind.i64, Kd.int IntKind.i64] := by kernel_rfl
@[go_sem] theorem ty_eqKinds_95 : eqKinds prog 95 = some [Kd.int IntKind.i64, Kd.int IntKind.i64] := by kernel_rfl
@[go_sem] theorem ty_nilTy_34 : nilTy prog 34 = 1 := by kernel_rfl
@[go_sem] theorem ty_nilTy_85 : nilTy prog 85 = 1 := by kernel_rfl
@[go_sem] theorem ty_placeOf_102_0 : placeOf prog 102 0 = some (0, 1) := by kernel_rfl
@[go_sem] theorem ty_placeOf_102_1 : placeOf prog 102 1 = some (1, 1) := by kernel_rfl
@[go_sem] theorem ty_placeOf_120_0 : placeOf prog 120 0 = some (0, 3) := by kernel_rfl
@[go_sem] theorem ty_placeOf_120_1 : placeOf prog 120 1 = some (3, 1) := by kernel_rfl
@[go_sem] theorem ty_placeOf_131_0 : placeOf prog 131 0 = some (0, 1) := by kernel_rfl
@[go_sem] theorem ty_placeOf_131_1 : placeOf prog 131 1 = some (1, 1) := by kernel_rfl
@[go_sem] theorem ty_placeOf_195_0 : placeOf prog 195 0 = some (0, 1) := by kernel_rfl
@[go_sem] theorem ty_placeOf_195_1 : placeOf prog 195 1 = some (1, 1) := by kernel_rfl
@[go_sem] theorem ty_placeOf_200_0 : placeOf prog 200 0 = some (0, 1) := by kernel_rfl
@[go_sem] theorem ty_placeOf_200_1 : placeOf prog 200 1 = some (1, 1) := by kernel_rfl
@[go_sem] theorem ty_placeOf_200_2 : placeOf prog 200 2 = some (2, 2) := by kernel_rfl
@[go_sem] theorem ty_placeOf_200_3 : placeOf prog 200 3 = some (4, 2) := by kernel_rfl
@[go_sem] theorem ty_placeOf_209_0 : placeOf prog 209 0 = some (0, 2) := by kernel_rfl
@[go_sem] theorem ty_placeOf_209_1 : placeOf prog 209 1 = some (2, 1) := by kernel_rfl
@[go_sem] theorem ty_placeOf_209_2 : placeOf prog 209 2 = some (3, 1) := by kernel_rfl
@[go_sem] theorem ty_placeOf_33_0 : placeOf prog 33 0 = some (0, 1) := by kernel_rfl
@[go_sem] theorem ty_placeOf_33_1 : placeOf prog 33 1 = some (1, 1) := by kernel_rfl
@[go_sem] theorem ty_placeOf_33_2 : placeOf prog 33 2 = some (2, 1) := by kernel_rfl
@[go_sem] theorem ty_placeOf_37_0 : placeOf prog 37 0 = some (0, 1) := by kernel_rfl
@[go_sem] theorem ty_placeOf_37_1 : placeOf prog 37 1 = some (1, 1) := by kernel_rfl
@[go_sem] theorem ty_placeOf_37_2 : placeOf prog 37 2 = some (2, 1) := by kernel_rfl
@[go_sem] theorem ty_placeOf_70_0 : placeOf prog 70 0 = some (0, 1) := by kernel_rfl
@[go_sem] theorem ty_placeOf_70_1 : placeOf prog 70 1 = some (1, 1) := by kernel_rfl
@[go_sem] theorem ty_placeOf_70_2 : placeOf prog 70 2 = some (2, 1) := by kernel_rfl
@[go_sem] theorem ty_placeOf_70_3 : placeOf prog 70 3 = some (3, 1) := by kernel_rfl
@[go_sem] theorem ty_placeOf_70_5 : placeOf prog 70 5 = some (5, 1) := by kernel_rfl
@[go_sem] theorem ty_placeOf_77_0 : placeOf prog 77 0 = some (0, 1) := by kernel_rfl
@[go_sem] theorem ty_placeOf_79_0 : placeOf prog 79 0 = some (0, 1) := by kernel_rfl
@[go_sem] theorem ty_placeOf_79_1 : placeOf prog 79 1 = some (1, 1) := by kernel_rfl
@[go_sem] theorem ty_placeOf_87_0 : placeOf prog 87 0 = some (0, 1) := by kernel_rfl
@[go_sem] theorem ty_placeOf_87_1 : placeOf prog 87 1 = some (1, 1) := by kernel_rfl
@[go_sem] theorem ty_placeOf_95_0 : placeOf prog 95 0 = some (0, 1) := by kernel_rfl
@[go_sem] theorem ty_placeOf_95_1 : placeOf prog 95 1 = some (1, 1) := by kernel_rfl
@[go_sem] theorem ty_tarr_179 : tarr prog 179 = some (5, 178) := by kernel_rfl
@[go_sem] theorem ty_tarr_195 : tarr prog 195 = some (2, 3) := by kernel_rfl
@[go_sem] theorem ty_tbool_4 : tbool prog 4 = true := by kernel_rfl
@[go_sem] theorem ty_tbuild_102 : tbuild prog 102 = true := by kernel_rfl
@[go_sem] theorem ty_tbuild_120 : tbuild prog 120 = true := by kernel_rfl
@[go_sem] theorem ty_tbuild_131 : tbuild prog 131 = true := by kernel_rfl
@[go_sem] theorem ty_tbuild_195 : tbuild prog 195 = true := by kernel_rfl
@[go_sem] theorem ty_tbuild_200 : tbuild prog 200 = true := by kernel_rfl
@[go_sem] theorem ty_tbuild_209 : tbuild prog 209 = true := by kernel_rfl
@[go_sem] theorem ty_tbuild_33 : tbuild prog 33 = true := by kernel_rfl
@[go_sem] theorem ty_tbuild_37 : tbuild prog 37 = true := by kernel_rfl
@[go_sem] theorem ty_tbuild_70 : tbuild prog 70 = true := by kernel_rfl
@[go_sem] theorem ty_tbuild_77 : tbuild prog 77 = true := by kernel_rfl
@[go_sem] theorem ty_tbuild_79 : tbuild prog 79 = true := by kernel_rfl
@[go_sem] theorem ty_tbuild_87 : tbuild prog 87 = true := by kernel_rfl
@[go_sem] theorem ty_tbuild_95 : tbuild prog 95 = true := by kernel_rfl
@[go_sem] theorem ty_telem_111 : telem prog 111 = some 33 := by kernel_rfl
@[go_sem] theorem ty_telem_114 : telem prog 114 = some 120 := by kernel_rfl
@[go_sem] theorem ty_telem_128 : telem prog 128 = some 131 := by kernel_rfl
@[go_sem] theorem ty_telem_179 : telem prog 179 = none := by kernel_rfl
@[go_sem] theorem ty_telem_185 : telem prog 185 = some 195 := by kernel_rfl
@[go_sem] theorem ty_telem_195 : telem prog 195 = none := by kernel_rfl
@[go_sem] theorem ty_telem_201 : telem prog 201 = some 209 := by kernel_rfl
@[go_sem] theorem ty_telem_205 : telem prog 205 = some 41 := by kernel_rfl
@[go_sem] theorem ty_telem_31 : telem prog 31 = some 85 := by kernel_rfl
@[go_sem] theorem ty_telem_34 : telem prog 34 = some 3 := by kernel_rfl
@[go_sem] theorem ty_telem_35 : telem prog 35 = some 87 := by kernel_rfl
@[go_sem] theorem ty_telem_40 : telem prog 40 = some 70 := by kernel_rfl
@[go_sem] theorem ty_telem_53 : telem prog 53 = some 34 := by kernel_rfl
@[go_sem] theorem ty_telem_65 : telem prog 65 = some 77 := by kernel_rfl
@[go_sem] theorem ty_telem_75 : telem prog 75 = some 79 := by kernel_rfl
@[go_sem] theorem ty_telem_85 : telem prog 85 = some 95 := by kernel_rfl
@[go_sem] theorem ty_tfield_120_0 : tfield prog 120 0 = some (0, 33) := by kernel_rfl
@[go_sem] theorem ty_tfield_120_1 : tfield prog 120 1 = some (3, 34) := by kernel_rfl
@[go_sem] theorem ty_tfield_131_0 : tfield prog 131 0 = some (0, 34) := by kernel_rfl
@[go_sem] theorem ty_tfield_131_1 : tfield prog 131 1 = some (1, 34) := by kernel_rfl
@[go_sem] theorem ty_tfield_178_1 : tfield prog 178 1 = some (1, 4) := by kernel_rfl
@[go_sem] theorem ty_tfield_178_2 : tfield prog 178 2 = some (2, 4) := by kernel_rfl
@[go_sem] theorem ty_tfield_178_3 : tfield prog 178 3 = some (3, 4) := by kernel_rfl
@[go_sem] theorem ty_tfield_200_0 : tfield prog 200 0 = some (0, 3) := by kernel_rfl
@[go_sem] theorem ty_tfield_200_1 : tfield prog 200 1 = some (1, 3) := by kernel_rfl
@[go_sem] theorem ty_tfield_200_2 : tfield prog 200 2 = some (2, 95) := by kernel_rfl
@[go_sem] theorem ty_tfield_200_3 : tfield prog 200 3 = some (4, 95) := by kernel_rfl
@[go_sem] theorem ty_tfield_209_0 : tfield prog 209 0 = some (0, 195) := by kernel_rfl
@[go_sem] theorem ty_tfield_209_1 : tfield prog 209 1 = some (2, 3) := by kernel_rfl
@[go_sem] theorem ty_tfield_209_2 : tfield prog 209 2 = some (3, 3) := by kernel_rfl
@[go_sem] theorem ty_tfield_33_0 : tfield prog 33 0 = some (0, 3) := by kernel_rfl
@[go_sem] theorem ty_tfield_33_1 : tfield prog 33 1 = some (1, 3) := by kernel_rfl
@[go_sem] theorem ty_tfield_33_2 : tfield prog 33 2 = some (2, 31) := by kernel_rfl
@[go_sem] theorem ty_tfield_37_0 : tfield prog 37 0 = some (0, 3) := by kernel_rfl
@[go_sem] theorem ty_tfield_37_1 : tfield prog 37 1 = some (1, 3) := by kernel_rfl
@[go_sem] theorem ty_tfield_37_2 : tfield prog 37 2 = some (2, 35) := by kernel_rfl
@[go_sem] theorem ty_tfield_70_0 : tfield prog 70 0 = some (0, 3) := by kernel_rfl
@[go_sem] theorem ty_tfield_70_1 : tfield prog 70 1 = some (1, 3) := by kernel_rfl
@[go_sem] theorem ty_tfield_70_2 : tfield prog 70 2 = some (2, 3) := by kernel_rfl
@[go_sem] theorem ty_tfield_70_3 : tfield prog 70 3 = some (3, 3) := by kernel_rfl
@[go_sem] theorem ty_tfield_70_4 : tfield prog 70 4 = some (4, 3) := by kernel_rfl
@[go_sem] theorem ty_tfield_70_5 : tfield prog 70 5 = some (5, 3) := by kernel_rfl
@[go_sem] theorem ty_tfield_77_0 : tfield prog 77 0 = some (0, 34) := by kernel_rfl
@[go_sem] theorem ty_tfield_77_1 : tfield prog 77 1 = some (1, 34) := by kernel_rfl
@[go_sem] theorem ty_tfield_77_2 : tfield prog 77 2 = some (2, 75) := by kernel_rfl
@[go_sem] theorem ty_tfield_79_0 : tfield prog 79 0 = some (0, 34) := by kernel_rfl
@[go_sem] theorem ty_tfield_79_1 : tfield prog 79 1 = some (1, 3) := by kernel_rfl
@[go_sem] theorem ty_tfield_84_0 : tfield prog 84 0 = some (0, 34) := by kernel_rfl
@[go_sem] theorem ty_tfield_84_1 : tfield prog 84 1 = some (1, 40) := by kernel_rfl
@[go_sem] theorem ty_tfield_84_2 : tfield prog 84 2 = some (2, 3) := by kernel_rfl
@[go_sem] theorem ty_tfield_87_0 : tfield prog 87 0 = some (0, 34) := by kernel_rfl
@[go_sem] theorem ty_tfield_87_1 : tfield prog 87 1 = some (1, 34) := by kernel_rfl
@[go_sem] theorem ty_tfield_95_0 : tfield prog 95 0 = some (0, 3) := by kernel_rfl
@[go_sem] theorem ty_tfield_95_1 : tfield prog 95 1 = some (1, 3) := by kernel_rfl
@[go_sem] theorem ty_tinf_120 : tinf prog 120 = true := by kernel_rfl
@[go_sem] theorem ty_tinf_131 : tinf prog 131 = true := by kernel_rfl
@[go_sem] theorem ty_tinf_178 : tinf prog 178 = true := by kernel_rfl
@[go_sem] theorem ty_tinf_195 : tinf prog 195 = true := by kernel_rfl
@[go_sem] theorem ty_tinf_209 : tinf prog 209 = true := by kernel_rfl
@[go_sem] theorem ty_tinf_3 : tinf prog 3 = true := by kernel_rfl
@[go_sem] theorem ty_tinf_33 : tinf prog 33 = true := by kernel_rfl
@[go_sem] theorem ty_tinf_34 : tinf prog 34 = true := by kernel_rfl
@[go_sem] theorem ty_tinf_41 : tinf prog 41 = true := by kernel_rfl
@[go_sem] theorem ty_tinf_70 : tinf prog 70 = true := by kernel_rfl
@[go_sem] theorem ty_tinf_77 : tinf prog 77 = true := by kernel_rfl
@[go_sem] theorem ty_tinf_79 : tinf prog 79 = true := by kernel_rfl
@[go_sem] theorem ty_tinf_85 : tinf prog 85 = true := by kernel_rfl
@[go_sem] theorem ty_tinf_87 : tinf prog 87 = true := by kernel_rfl
@[go_sem] theorem ty_tinf_95 : tinf prog 95 = true := by kernel_rfl
@[go_sem] theorem ty_tinfo_102 : tinfo prog 102 = some { size := 2, agg := true, zero := [Value.int IntKind.i64 0, Value.int IntKind.i64 0], bytes := 16 } := by kernel_rfl
@[go_sem] theorem ty_tinfo_111 : tinfo prog 111 = some { size := 1, agg := false, zero := [Value.slice none 0 0], bytes := 24 } := by kernel_rfl
@[go_sem] theorem ty_tinfo_120 : tinfo prog 120 = some { size := 4, agg := true, zero := [Value.int IntKind.i64 0, Value.int IntKind.i64 0, Value.slice none 0 0, Value.slice none 0 0], bytes := 64 } := by kernel_rfl
@[go_sem] theorem ty_tinfo_131 : tinfo prog 131 = some { size := 2, agg := true, zero := [Value.slice none 0 0, Value.slice none 0 0], bytes := 48 } := by kernel_rfl
@[go_sem] theorem ty_tinfo_172 : tinfo prog 172 = some { size := 1, agg := false, zero := [Value.nilFunc], bytes := 8 } := by kernel_rfl
@[go_sem] theorem ty_tinfo_178 : tinfo prog 178 = some { size := 4, agg := true, zero := [Value.string { data := { toList := [] } }, Value.bool false, Value.bool false, Value.bool false], bytes := 24 } := by kernel_rfl
@[go_sem] theorem ty_tinfo_185 : tinfo prog 185 = some { size := 1, agg := false, zero := [Value.slice none 0 0], bytes := 24 } := by kernel_rfl
@[go_sem] theorem ty_tinfo_195 : tinfo prog 195 = some { size := 2, agg := true, zero := [Value.int IntKind.i64 0, Value.int IntKind.i64 0], bytes := 16 } := by kernel_rfl
@[go_sem] theorem ty_tinfo_200 : tinfo prog 200 = some { size := 6, agg := true, zero := [Value.int IntKind.i64 0, Value.int IntKind.i64 0, Value.int IntKind.i64 0, Value.int IntKind.i64 0, Value.int IntKind.i64 0, Value.int IntKind.i64 0], bytes := 48 } := by kernel_rfl
@[go_sem] theorem ty_tinfo_209 : tinfo prog 209 = some { size := 4, agg := true, zero := [Value.int IntKind.i64 0, Value.int IntKind.i64 0, Value.int IntKind.i64 0, Value.int IntKind.i64 0], bytes := 32 } := by kernel_rfl
@[go_sem] theorem ty_tinfo_3 : tinfo prog 3 = some { size := 1, agg := false, zero := [Value.int IntKind.i64 0], bytes := 8 } := by kernel_rfl
@[go_sem] theorem ty_tinfo_31 : tinfo prog 31 = some { size := 1, agg := false, zero := [Value.slice none 0 0], bytes := 24 } := by kernel_rfl
@[go_sem] theorem ty_tinfo_33 : tinfo prog 33 = some { size := 3, agg := true, zero := [Value.int IntKind.i64 0, Value.int IntKind.i64 0, Value.slice none 0 0], bytes := 40 } := by kernel_rfl
@[go_sem] theorem ty_tinfo_34 : tinfo prog 34 = some { size := 1, agg := false, zero := [Value.slice none 0 0], bytes := 24 } := by kernel_rfl
@[go_sem] theorem ty_tinfo_35 : tinfo prog 35 = some { size := 1, agg := false, zero := [Value.slice none 0 0], bytes := 24 } := by kernel_rfl
@[go_sem] theorem ty_tinfo_37 : tinfo prog 37 = some { size := 3, agg := true, zero := [Value.int IntKind.i64 0, Value.int IntKind.i64 0, Value.slice none 0 0], bytes := 40 } := by kernel_rfl
@[go_sem] theorem ty_tinfo_4 : tinfo prog 4 = some { size := 1, agg := false, zero := [Value.bool false], bytes := 1 } := by kernel_rfl
@[go_sem] theorem ty_tinfo_40 : tinfo prog 40 = some { size := 1, agg := false, zero := [Value.slice none 0 0], bytes := 24 } := by kernel_rfl
@[go_sem] theorem ty_tinfo_41 : tinfo prog 41 = some { size := 1, agg := false, zero := [Value.int IntKind.i64 0], bytes := 8 } := by kernel_rfl
@[go_sem] theorem ty_tinfo_70 : tinfo prog 70 = some { size := 6, agg := true, zero := [Value.int IntKind.i64 0, Value.int IntKind.i64 0, Value.int IntKind.i64 0, Value.int IntKind.i64 0, Value.int IntKind.i64 0, Value.int IntKind.i64 0], bytes := 48 } := by kernel_rfl
@[go_sem] theorem ty_tinfo_75 : tinfo prog 75 = some { size := 1, agg := false, zero := [Value.slice none 0 0], bytes := 24 } := by kernel_rfl
@[go_sem] theorem ty_tinfo_77 : tinfo prog 77 = some { size := 3, agg := true, zero := [Value.slice none 0 0, Value.slice none 0 0, Value.slice none 0 0], bytes := 72 } := by kernel_rfl
@[go_sem] theorem ty_tinfo_79 : tinfo prog 79 = some { size := 2, agg := true, zero := [Value.slice none 0 0, Value.int IntKind.i64 0], bytes := 32 } := by kernel_rfl
@[go_sem] theorem ty_tinfo_85 : tinfo prog 85 = some { size := 1, agg := false, zero := [Value.slice none 0 0], bytes := 24 } := by kernel_rfl
@[go_sem] theorem ty_tinfo_87 : tinfo prog 87 = some { size := 2, agg := true, zero := [Value.slice none 0 0, Value.slice none 0 0], bytes := 48 } := by kernel_rfl
@[go_sem] theorem ty_tinfo_95 : tinfo prog 95 = some { size := 2, agg := true, zero := [Value.int IntKind.i64 0, Value.int IntKind.i64 0], bytes := 16 } := by kernel_rfl
@[go_sem] theorem ty_tmap_207 : tmap prog 207 = some (195, 4) := by kernel_rfl
set_option maxRecDepth 10000
attribute [go_sem] Nat.reduceLT Nat.reduceLeDiff Nat.reduceEqDiff Nat.reduceAdd Nat.reduceSub Nat.reduceMul Nat.reduceBEq Int.reduceToNat Int.reduceEq Int.reduceLT Int.reduceLE Int.reduceAdd reduceCtorEq
attribute [go_sem ↓] reduceIte
theorem mixed : prog.follows .mixedOrders = true := by kernel_rfl
theorem none_is : PureIs prog 107 [] (.ag [.sc (.int .i64 (-1)), .sc (.int .i64 (-1))]) := by
 refine PureIs.of (nv := 1) (hid := []) func107 rfl (by kernel_rfl) (by simp) fun _ => ?_
 rw [ntmps107, results107]
 refine EvC.seq (EvC.rg (by simp only [go_sem]; rfl) rfl ?_)
 refine EvC.seq (EvC.rg (by simp only [go_sem]; rfl) rfl ?_)
 refine EvC.ret ⟨.inl rfl, _, (by simp only [go_sem]; rfl), rfl, rfl⟩
def I (n : Int) : AV := .sc (.int .i64 n)
def B (b : Bool) : AV := .sc (.bool b)
def intC (x : Int) : List AV := [.sc (.int .i64 x)]
@[go_sem] theorem norefs_ints (l : List Int) : (l.map intC).all AV.norefs = true := by simp [List.all_eq_true, intC, AV.norefs, AV.noref]
def fitsR (n o to out : Int) : Bool := decide (to = -1) && decide (out = -1) || (decide (0 ≤ to) && decide (to < n) && decide (0 ≤ out) && decide (out < o))
theorem fits_is (i o : Int) (nl : Bool) (rows : List (List AV)) (c : Cp) (to out : Int) :
  PureIs prog 88 [.ag [.sc (.int .i64 i), .sc (.int .i64 o), .sl nl rows c], .ag [.sc (.int .i64 to), .sc (.int .i64 out)]] (.sc (.bool (fitsR rows.length o to out))) := by
 refine PureIs.of1 5 [] func88 ntmps88 results88 fun _ => ?_
 refine EvC.seq (EvC.rg (by simp only [go_sem]; rfl) rfl ?_)
 apply EvC.seq
 apply EvC.drw mixed
 case ht =>
  apply Tr.run
  ·simp only [go_sem] <;> rfl
  ·rfl
  apply Tr.cons
  ·exact .call rfl rfl (by simp only [go_sem] <;> rfl) (by simp only [go_sem] <;> rfl) (by simp only [go_sem] <;> rfl) (by simp only [go_sem] <;> rfl) (by simp only [go_sem] <;> rfl) none_is
  apply Tr.done
  ·simp only [go_sem] <;> rfl
  ·simp
 case hc => kernel_rfl
 case hq =>
  refine EvC.rz ?_
  simp only [go_sem]
  congr 2
  unfold fitsR
  by_cases h1 : to = -1 <;> by_cases h2 : out = -1 <;> by_cases h3 : 0 ≤ to <;> by_cases h4 : to < rows.length <;> by_cases h5 : 0 ≤ out <;> simp [h1, h2, h3, h4, h5]
def edgeC (e : Int × Int) : List AV := [.sc (.int .i64 e.1), .sc (.int .i64 e.2)]
@[go_sem] theorem norefs_edges (l : List (Int × Int)) : (l.map edgeC).all AV.norefs = true := by simp [List.all_eq_true, edgeC, AV.norefs, AV.noref]
theorem check1_is (i o : Int) (nl : Bool) (rows : List (List AV)) (c : Cp) (to out : Int) :
  PureIs prog 87 [.ag [.sc (.int .i64 to), .sc (.int .i64 out)], .ia [.sc (.int .i64 i), .sc (.int .i64 o), .sl nl rows c]] (.sc (.bool (!fitsR rows.length o to out))) := by
 refine PureIs.of1 4 [] func87 ntmps87 results87 fun _ => ?_
 refine EvC.seq (EvC.rg (by simp only [go_sem] <;> rfl) rfl ?_)
 apply EvC.s1
 ·apply Tr.run
  ·simp only [go_sem] <;> rfl
  ·rfl
  apply Tr.cons
  ·exact .ca (fits_is _ _ _ _ _ _ _)
  apply Tr.done
  ·simp only [go_sem] <;> rfl
  ·rfl
 refine EvC.rz ?_
 simp only [go_sem]
def findIdxR (p : Int × Int → Bool) : List (Int × Int) → Int → Int
 | [], _ => -1
 | e :: es, i => if p e = true then i else findIdxR p es (i + 1)
theorem indexFunc_is (nl : Bool) (xs : List (Int × Int)) (c : Cp) (f : FuncId) (cs : List AV) (hcs : AV.norefs cs = true) (p : Int × Int → Bool) (hp : ∀ e ∈ xs, PureIs prog f (.ag (edgeC e) :: cs) (.sc (.bool (p e)))) (hl : xs.length < 1000000) :
  PureIs prog 106 [.sl nl (xs.map edgeC) c, .fn f cs] (.sc (.int .i64 (findIdxR p xs 0))) := by
 refine PureIs.of1 6 [6, 7, 8, 9, 16] func106 ntmps106 results106 fun _ => ?_
 refine EvC.seq (EvC.rg (by simp only [go_sem] <;> rfl) rfl ?_)
 refine EvC.seq ?_
 refine EvC.seq (EvC.rg (by simp only [go_sem] <;> rfl) rfl ?_)
 refine EvC.block (EvC.loopS (σ := Nat) (fun i => ⟨[(0, .sl nl (xs.map edgeC) c), (1, .fn f cs), (7, .sc (.int .i64 xs.length)), (8, .sc (.int .i64 i))], [], [], 0⟩) (fun i => xs.length - i) (fun i => i ≤ xs.length ∧ findIdxR p xs 0 = findIdxR p (xs.drop i) i) [0, 1, 7, 8] 0 ?_ ?_)
 ·refine ⟨[], 0, rfl, (by simp only [go_sem, hcs] <;> rfl), Nat.zero_le _, by simp⟩
 ·rintro i ⟨h1, h2⟩
  refine EvC.seq (EvC.rg (by simp only [go_sem] <;> rfl) rfl ?_)
  refine EvC.seq (EvC.cond (by simp only [go_sem] <;> rfl) (fun hc => ?_) (fun hc => ?_))
  ·refine EvC.skip ?_
   have hi : i < xs.length := by simpa using hc
   have he : xs[i]? = some xs[i] := List.getElem?_eq_getElem hi
   generalize xs[i] = e at he
   have hm : e ∈ xs := List.mem_of_getElem? he
   have hd : xs.drop i = e :: xs.drop (i + 1) := by
    rw [List.drop_eq_getElem_cons hi]; congr 1; rw [List.getElem?_eq_getElem hi] at he; simpa using he
   refine EvC.seq ?_
   refine EvC.block (EvC.seq (EvC.rg (by simp only [go_sem] <;> rfl) rfl ?_))
   apply EvC.s1
   ·apply Tr.run
    ·simp only [go_sem, he, edgeC] <;> rfl
    ·simp
    apply Tr.cons
    ·exact .call rfl rfl (by simp only [go_sem] <;> rfl) (by simp only [go_sem] <;> rfl) (by simp only [go_sem] <;> rfl) (by simp only [go_sem, hcs] <;> rfl) (by simp only [go_sem] <;> rfl) (hp e hm)
    apply Tr.done
    ·simp only [go_sem] <;> rfl
    ·rfl
   refine EvC.cond (by simp only [go_sem] <;> rfl) (fun hc => ?_) (fun hc => ?_)
   ·refine EvC.seq (EvC.rg (by simp only [go_sem] <;> rfl) rfl ?_)
    refine EvC.rz ?_
    simp only [go_sem]
    rw [h2, hd, findIdxR, if_pos hc]
   ·refine EvC.skip ?_
    refine EvC.rg (by simp only [go_sem] <;> rfl) ?_ ?_
    ·exact inI64_of (by omega) (by omega)
    refine ⟨[], i + 1, rfl, ?_, ⟨by omega, ?_⟩, by omega⟩
    ·simp only [go_sem, hcs] <;> rfl
    ·rw [h2, hd, findIdxR, if_neg (by simp [hc])]; rfl
  ·refine EvC.exit ?_
   have hi : ¬ i < xs.length := by simpa using hc
   refine EvC.seq (EvC.rg (by simp only [go_sem] <;> rfl) rfl ?_)
   refine EvC.rz ?_
   simp only [go_sem]
   rw [h2, List.drop_of_length_le (by omega)]; rfl
theorem findIdxR_any (p : Int × Int → Bool) : ∀ (es : List (Int × Int)) (i : Int), 0 ≤ i → decide (0 ≤ findIdxR p es i) = es.any p
 | [], i, _ => by simp [findIdxR]
 | e :: es, i, h => by
   unfold findIdxR
   split
   ·rename_i hp; simp [hp, h]
   ·rename_i hp
    rw [findIdxR_any p es (i + 1) (by omega)]
    simp [hp]
theorem containsFunc_is (nl : Bool) (xs : List (Int × Int)) (c : Cp) (f : FuncId) (cs : List AV) (hcs : AV.norefs cs = true) (p : Int × Int → Bool) (hp : ∀ e ∈ xs, PureIs prog f (.ag (edgeC e) :: cs) (.sc (.bool (p e)))) (hl : xs.length < 1000000) :
  PureIs prog 86 [.sl nl (xs.map edgeC) c, .fn f cs] (.sc (.bool (xs.any p))) := by
 refine PureIs.of1 5 [] func86 ntmps86 results86 fun _ => ?_
 refine EvC.seq (EvC.rg (by simp only [go_sem] <;> rfl) rfl ?_)
 apply EvC.s1
 ·apply Tr.run
  ·simp only [go_sem] <;> rfl
  ·rfl
  apply Tr.cons
  ·exact .call rfl rfl (by simp only [go_sem] <;> rfl) (by simp only [go_sem] <;> rfl) (by simp only [go_sem] <;> rfl) (by simp only [go_sem, hcs] <;> rfl) (by simp only [go_sem] <;> rfl) (indexFunc_is _ _ _ _ _ hcs _ hp hl)
  apply Tr.done
  ·simp only [go_sem] <;> rfl
  ·rfl
 refine EvC.rz ?_
 simp only [go_sem]
 rw [findIdxR_any _ _ _ (Int.le_refl 0)]
abbrev Row := Bool × List (Int × Int)
def rowC (r : Row) : List AV := [.sl r.1 (r.2.map edgeC) .unk]
structure Mach where
 ins : Int
 outs : Int
 nl : Bool
 rows : List Row
def Mach.cells (m : Mach) : List AV := [.sc (.int .i64 m.ins), .sc (.int .i64 m.outs), .sl m.nl (m.rows.map rowC) .unk]
def rowOk (m : Mach) (r : Row) : Bool := decide ((r.2.length : Int) = m.ins) && !(r.2.any fun e => !fitsR m.rows.length m.outs e.1 e.2)
def checkM (m : Mach) : Int :=
 if 16 < m.ins ∨ 16 < m.outs ∨ 64 < (m.rows.length : Int) then 3
 else if m.ins < 1 ∨ m.outs < 1 ∨ (m.rows.length : Int) < 1 then 1
 else if m.rows.all (rowOk m) = true then 0 else 1
theorem check_is (m : Mach) (hr : ∀ r ∈ m.rows, r.2.length < 1000000) : PureIs prog 61 [.ag m.cells] (.sc (.int .i64 (checkM m))) := by
 refine PureIs.of1 5 [18, 32, 34, 35, 36, 37, 49] func61 ntmps61 results61 fun _ => ?_
 refine EvC.seq (EvC.rg (by simp only [go_sem, Mach.cells] <;> rfl) rfl ?_)
 refine EvC.z 0 ?_
 refine EvC.seq ?_
 apply EvC.seq
 apply EvC.trd
 ·simp only [go_sem] <;> rfl
 ·simp
 refine EvC.cond (by simp only [go_sem] <;> rfl) (fun hc => ?_) (fun hc => ?_)
 ·refine EvC.seq (EvC.rg (by simp only [go_sem] <;> rfl) rfl ?_)
  refine EvC.rz ?_
  simp only [go_sem]
  have h : 16 < m.ins ∨ 16 < m.outs ∨ 64 < (m.rows.length : Int) := by
   by_cases h1 : 16 < m.ins <;> by_cases h2 : 16 < m.outs <;> simp_all
  rw [checkM, if_pos h]
 have hn : ¬ (16 < m.ins ∨ 16 < m.outs ∨ 64 < (m.rows.length : Int)) := by
  by_cases h1 : 16 < m.ins <;> by_cases h2 : 16 < m.outs <;> simp_all
 refine EvC.skip ?_
 refine EvC.seq ?_
 apply EvC.seq
 apply EvC.trd
 ·simp only [go_sem] <;> rfl
 ·simp
 refine EvC.cond (by simp only [go_sem] <;> rfl) (fun hc => ?_) (fun hc => ?_)
 ·refine EvC.seq (EvC.rg (by simp only [go_sem] <;> rfl) rfl ?_)
  refine EvC.rz ?_
  simp only [go_sem]
  have h : m.ins < 1 ∨ m.outs < 1 ∨ (m.rows.length : Int) < 1 := by
   by_cases h1 : m.ins < 1 <;> by_cases h2 : m.outs < 1 <;> simp_all
  rw [checkM, if_neg hn, if_pos h]
 have hn2 : ¬ (m.ins < 1 ∨ m.outs < 1 ∨ (m.rows.length : Int) < 1) := by
  by_cases h1 : m.ins < 1 <;> by_cases h2 : m.outs < 1 <;> simp_all
 refine EvC.skip ?_
 have hlen : (m.rows.length : Int) ≤ 64 := by omega
 refine EvC.seq ?_
 refine EvC.a ?_
 refine EvC.block (EvC.loopS (σ := Nat) (fun i => ⟨[(1, .ia m.cells), (34, .sl m.nl (m.rows.map rowC) .unk), (35, .sc (.int .i64 m.rows.length)), (36, .sc (.int .i64 i))], [], [], 0⟩) (fun i => m.rows.length - i) (fun i => i ≤ m.rows.length ∧ m.rows.all (rowOk m) = (m.rows.drop i).all (rowOk m)) [1, 34, 35, 36] 0 ?_ ?_)
 ·refine ⟨[], 0, rfl, (by simp only [go_sem, Mach.cells] <;> rfl), Nat.zero_le _, by simp⟩
 rintro i ⟨h1, h2⟩
 refine EvC.seq (EvC.rg (by simp only [go_sem] <;> rfl) rfl ?_)
 refine EvC.seq (EvC.cond (by simp only [go_sem] <;> rfl) (fun hc => ?_) (fun hc => ?_))
 ·refine EvC.skip ?_
  have hi : i < m.rows.length := by simpa using hc
  have he : m.rows[i]? = some m.rows[i] := List.getElem?_eq_getElem hi
  generalize m.rows[i] = r at he
  have hm : r ∈ m.rows := List.mem_of_getElem? he
  have hd : m.rows.drop i = r :: m.rows.drop (i + 1) := by
   rw [List.drop_eq_getElem_cons hi]; congr 1; rw [List.getElem?_eq_getElem hi] at he; simpa using he
  refine EvC.seq ?_
  refine EvC.block (EvC.seq (EvC.rg (by simp only [go_sem, he, rowC] <;> rfl) (by simp) ?_))
  by_cases hl : (r.2.length : Int) = m.ins
  ·apply EvC.s1
   ·apply Tr.run
    ·simp only [go_sem, Mach.cells, hl] <;> rfl
    ·simp
    apply Tr.cons
    ·exact .cg (containsFunc_is r.1 r.2 .unk 87 [.ia m.cells] rfl (fun e => !fitsR m.rows.length m.outs e.1 e.2) (fun e _ => by simpa [edgeC, Mach.cells] using check1_is m.ins m.outs m.nl (m.rows.map rowC) .unk e.1 e.2) (hr r hm))
    apply Tr.done
    ·simp only [go_sem] <;> rfl
    ·simp
   refine EvC.cond (by simp only [go_sem] <;> rfl) (fun hc2 => ?_) (fun hc2 => ?_)
   ·refine EvC.seq (EvC.rg (by simp only [go_sem] <;> rfl) rfl ?_)
    refine EvC.rz ?_
    simp only [go_sem]
    rw [checkM, if_neg hn, if_neg hn2, h2, hd, List.all_cons]
    simp [rowOk, hc2]
   ·refine EvC.skip ?_
    refine EvC.rg (by simp only [go_sem] <;> rfl) ?_ ?_
    ·exact inI64_of (by omega) (by omega)
    refine ⟨[], i + 1, rfl, (by simp only [go_sem, Mach.cells] <;> rfl), ⟨by omega, ?_⟩, by omega⟩
    rw [h2, hd, List.all_cons]
    simp [rowOk, hl, hc2]
  ·apply EvC.s1
   ·apply Tr.run
    ·simp only [go_sem, Mach.cells, hl] <;> rfl
    ·simp
    apply Tr.cons
    ·exact .skipv (.sc (.bool false)) rfl rfl (by simp only [go_sem] <;> rfl) (by simp only [go_sem] <;> rfl)
    apply Tr.done
    ·simp only [go_sem] <;> rfl
    ·simp
   refine EvC.ct ?_
   refine EvC.seq (EvC.rg (by simp only [go_sem] <;> rfl) rfl ?_)
   refine EvC.rz ?_
   simp only [go_sem]
   rw [checkM, if_neg hn, if_neg hn2, h2, hd, List.all_cons]
   simp [rowOk, hl]
 ·refine EvC.exit ?_
  have hi : ¬ i < m.rows.length := by simpa using hc
  refine EvC.seq (EvC.rg (by simp only [go_sem] <;> rfl) rfl ?_)
  refine EvC.rz ?_
  simp only [go_sem]
  rw [checkM, if_neg hn, if_neg hn2, h2, List.drop_of_length_le (by omega)]; rfl
def stepM (m : Mach) (s a : Int) : Int × Int := (((m.rows[s.toNat]?).map (·.2)).getD [])[a.toNat]?.getD (-1, -1)
def edgeA (e : Int × Int) : AV := .ag [.sc (.int .i64 e.1), .sc (.int .i64 e.2)]
structure Valid (m : Mach) : Prop where
 ins : 1 ≤ m.ins ∧ m.ins ≤ 16
 outs : 1 ≤ m.outs ∧ m.outs ≤ 16
 rows : 1 ≤ m.rows.length ∧ m.rows.length ≤ 64
 row : ∀ r ∈ m.rows, (r.2.length : Int) = m.ins ∧ ∀ e ∈ r.2, fitsR m.rows.length m.outs e.1 e.2 = true
theorem Valid.of {m : Mach} (h : checkM m = 0) : Valid m := by
 unfold checkM at h
 split at h
 ·cases h
 ·split at h
  ·cases h
  ·split at h
   ·rename_i h1 h2 h3
    rw [List.all_eq_true] at h3
    refine ⟨by omega, by omega, by omega, fun r hr => ?_⟩
    have := h3 r hr
    simp only [rowOk, Bool.and_eq_true, decide_eq_true_eq, Bool.not_eq_true', List.any_eq_false] at this
    exact ⟨this.1, fun e he => by simpa using this.2 e he⟩
   ·cases h
def stepR (m : Mach) (s a : Int) : Int × Int := if s < 0 then (-1, -1) else (((m.rows[s.toNat]?).map (·.2)).getD [])[a.toNat]?.getD (-1, -1)
theorem stepR_get {m : Mach} (hv : Valid m) {s a : Int} (h0 : 0 ≤ s) (hs : s < m.rows.length) (ha : 0 ≤ a ∧ a < m.ins) :
  ∃ r e, m.rows[s.toNat]? = some r ∧ r.2[a.toNat]? = some e ∧ stepR m s a = e ∧ fitsR m.rows.length m.outs e.1 e.2 = true := by
 have h1 : m.rows[s.toNat]? = some m.rows[s.toNat] := List.getElem?_eq_getElem (by omega)
 obtain ⟨h2, h3⟩ := hv.row _ (List.getElem_mem (show s.toNat < m.rows.length by omega))
 have h4 : (m.rows[s.toNat]).2[a.toNat]? = some ((m.rows[s.toNat]).2[a.toNat]'(by omega)) := List.getElem?_eq_getElem _
 exact ⟨_, _, h1, h4, by rw [stepR, if_neg (by omega), h1]; simp only [Option.map_some, Option.getD_some, h4], h3 _ (List.getElem_mem _)⟩
def runR (m : Mach) : Int → List Int → List Int
 | _, [] => []
 | s, a :: w => (stepR m s a).2 :: runR m (stepR m s a).1 w
theorem stepR_lt {m : Mach} (hv : Valid m) {s a : Int} (hs : s < m.rows.length) (ha : 0 ≤ a ∧ a < m.ins) : (stepR m s a).1 < m.rows.length := by
 by_cases h0 : 0 ≤ s
 ·obtain ⟨r, e, _, _, h3, h4⟩ := stepR_get hv h0 hs ha
  rw [h3]
  have := hv.rows
  unfold fitsR at h4
  simp at h4; omega
 ·rw [stepR, if_pos (by omega)]; have := hv.rows; simp only; omega
structure LM where
 st : Int
 ins : Int
 outs : Int
 part : Bool
 nl : Bool
 es : List Int
 cap : Cp
def u16C (x : Int) : List AV := [.sc (.int .u16 x)]
def LM.cells (x : LM) : List AV := [.sc (.int .u8 x.st), .sc (.int .u8 x.ins), .sc (.int .u8 x.outs), .sc (.bool x.part), .sl x.nl (x.es.map u16C) x.cap]
structure LM.Ok (x : LM) : Prop where
 st : 0 ≤ x.st
 ins : 0 ≤ x.ins
 outs : 0 ≤ x.outs
 es : ∀ e ∈ x.es, 0 ≤ e ∧ e < 65536
def LM.n (x : LM) : Nat := (1 + x.st % 6).toNat
def LM.i (x : LM) : Nat := (1 + x.ins % 3).toNat
def LM.o (x : LM) : Int := 1 + x.outs % 3
def LM.v (x : LM) (s i : Nat) : Int := (x.es[s * x.i + i]?).getD 0
def LM.edge (x : LM) (s i : Nat) : Int × Int :=
 if x.part = true ∧ x.v s i % 4 = 3 then (-1, -1) else (x.v s i / 4 % x.n, x.v s i / 4 / x.n % x.o)
def LM.row (x : LM) (s : Nat) : List (Int × Int) := (List.range x.i).map (x.edge s)
def LM.mach (x : LM) : Mach := ⟨x.i, x.o, false, (List.range x.n).map fun s => (false, x.row s)⟩
theorem LM.bounds {x : LM} (h : x.Ok) : 1 ≤ x.n ∧ x.n ≤ 6 ∧ 1 ≤ x.i ∧ x.i ≤ 3 ∧ 1 ≤ x.o ∧ x.o ≤ 3 ∧ (x.n : Int) = 1 + x.st % 6 ∧ (x.i : Int) = 1 + x.ins % 3 := by
 have h1 := h.st
 have h2 := h.ins
 have h3 := h.outs
 unfold LM.n LM.i LM.o
 omega
def fdiff : List Int → List Int → Int
 | x :: xs, y :: ys => if x < y then -1 else if y < x then 1 else fdiff xs ys
 | _, _ => 0
def cmpW (a b : List Int) : Int := if a.length < b.length then -1 else if b.length < a.length then 1 else fdiff a b
theorem fdiff_zero : ∀ {a b : List Int}, a.length = b.length → (fdiff a b = 0 ↔ a = b)
 | [], [], _ => by simp [fdiff]
 | x :: xs, y :: ys, h => by
   have := fdiff_zero (a := xs) (b := ys) (by simpa using h)
   unfold fdiff
   split
   ·rename_i h1
    constructor
    ·intro h; cases h
    ·intro h; cases h; omega
   ·split
    ·constructor
     ·intro h; cases h
     ·intro h; cases h; omega
    ·rw [this]
     have : x = y := by omega
     simp [this]
theorem cmpW_zero {a b : List Int} : cmpW a b = 0 ↔ a = b := by
 unfold cmpW
 split
 ·rename_i h
  constructor
  ·intro h; cases h
  ·rintro rfl; omega
 ·split
  ·constructor
   ·intro h; cases h
   ·rintro rfl; omega
  ·exact fdiff_zero (by omega)
theorem compare_is (na : Bool) (a : List Int) (ca : Cp) (nb : Bool) (b : List Int) (cb : Cp) (hl : a.length < 1000000) : PureIs prog 58 [.sl na (a.map intC) ca, .sl nb (b.map intC) cb] (.sc (.int .i64 (cmpW a b))) := by
 refine PureIs.of1 2 [4, 5, 10, 15, 19, 30, 39] func58 ntmps58 results58 fun _ => ?_
 refine EvC.a ?_
 refine EvC.seq ?_
 refine EvC.a ?_
 refine EvC.cond (by simp only [go_sem] <;> rfl) (fun hc => ?_) (fun hc => ?_)
 ·have hc : a.length < b.length := by have : (a.length : Int) < b.length := by simpa using hc
                                      omega
  refine EvC.a ?_
  refine EvC.rz ?_
  simp only [go_sem]
  rw [cmpW, if_pos hc]
 have h1 : ¬ a.length < b.length := by have : ¬ (a.length : Int) < b.length := by simpa using hc
                                       omega
 clear hc
 refine EvC.skip ?_
 refine EvC.seq ?_
 refine EvC.a ?_
 refine EvC.cond (by simp only [go_sem] <;> rfl) (fun hc => ?_) (fun hc => ?_)
 ·have hc : b.length < a.length := by have : (b.length : Int) < a.length := by simpa using hc
                                      omega
  refine EvC.a ?_
  refine EvC.rz ?_
  simp only [go_sem]
  rw [cmpW, if_neg h1, if_pos hc]
 have h2 : ¬ b.length < a.length := by have : ¬ (b.length : Int) < a.length := by simpa using hc
                                       omega
 clear hc
 have hw : cmpW a b = fdiff a b := by rw [cmpW, if_neg h1, if_neg h2]
 refine EvC.skip ?_
 refine EvC.seq ?_
 refine EvC.a ?_
 refine EvC.block ?_
 refine EvC.loopS (σ := Nat) (fun i => ⟨[(0, .sl na (a.map intC) ca), (1, .sl nb (b.map intC) cb), (5, .sc (.int .i64 i))], [], [], 0⟩) (fun i => a.length - i) (fun i => i ≤ a.length ∧ fdiff a b = fdiff (a.drop i) (b.drop i)) [0, 1, 5] 0 ?_ ?_
 ·refine ⟨[], 0, rfl, (by simp only [go_sem] <;> rfl), Nat.zero_le _, by simp⟩
 rintro i ⟨hi, h3⟩
 refine EvC.seq ?_
 refine EvC.a ?_
 refine EvC.cond (by simp only [go_sem] <;> rfl) (fun hc => ?_) (fun hc => ?_)
 rotate_left
 ·refine EvC.exit ?_
  have hi : ¬ i < a.length := by simpa using hc
  refine EvC.a ?_
  refine EvC.rz ?_
  simp only [go_sem]
  rw [hw, h3, List.drop_of_length_le (by omega)]; rfl
 have hi : i < a.length := by simpa using hc
 have hi2 : i < b.length := by omega
 have ha : a[i]? = some a[i] := List.getElem?_eq_getElem hi
 have hb : b[i]? = some b[i] := List.getElem?_eq_getElem hi2
 have hda : a.drop i = a[i] :: a.drop (i + 1) := List.drop_eq_getElem_cons hi
 have hdb : b.drop i = b[i] :: b.drop (i + 1) := List.drop_eq_getElem_cons hi2
 generalize a[i] = x at ha hda
 generalize b[i] = y at hb hdb
 refine EvC.skip ?_
 refine EvC.seq ?_
 refine EvC.block ?_
 refine EvC.seq ?_
 apply EvC.seq
 apply EvC.drd mixed
 ·simp only [go_sem, ha, hb, intC] <;> rfl
 ·simp
 ·kernel_rfl
 refine EvC.cond (by simp only [go_sem] <;> rfl) (fun hc => ?_) (fun hc => ?_)
 ·have hc : x < y := by simpa using hc
  refine EvC.a ?_
  refine EvC.rz ?_
  simp only [go_sem]
  rw [hw, h3, hda, hdb, fdiff, if_pos hc]
 have hc1 : ¬ x < y := by simpa using hc
 refine EvC.skip ?_
 apply EvC.seq
 apply EvC.drd mixed
 ·simp only [go_sem, ha, hb, intC] <;> rfl
 ·simp
 ·kernel_rfl
 refine EvC.cond (by simp only [go_sem] <;> rfl) (fun hc => ?_) (fun hc => ?_)
 ·have hc : y < x := by simpa using hc
  refine EvC.a ?_
  refine EvC.rz ?_
  simp only [go_sem]
  rw [hw, h3, hda, hdb, fdiff, if_neg hc1, if_pos hc]
 have hc2 : ¬ y < x := by simpa using hc
 refine EvC.skip ?_
 refine EvC.b ?_ (hok := by exact inI64_of (by omega) (by omega))
 refine ⟨[], i + 1, rfl, (by simp only [go_sem] <;> rfl), ⟨by omega, ?_⟩, by omega⟩
 rw [h3, hda, hdb, fdiff, if_neg hc1, if_neg hc2]
theorem same_is (na : Bool) (a : List Int) (ca : Cp) (nb : Bool) (b : List Int) (cb : Cp) (hl : a.length < 1000000) : PureIs prog 21 [.sl na (a.map intC) ca, .sl nb (b.map intC) cb] (.sc (.bool (decide (a = b)))) := by
 refine PureIs.of1 2 [4] func21 ntmps21 results21 fun _ => ?_
 refine EvC.a ?_
 apply EvC.s1
 ·apply Tr.run
  ·simp only [go_sem] <;> rfl
  ·simp
  apply Tr.cons
  ·exact .ca (compare_is na a ca nb b cb hl)
  apply Tr.done
  ·simp only [go_sem] <;> rfl
  ·simp
 refine EvC.rz ?_
 simp only [go_sem]
 simp [cmpW_zero]
theorem set_mid {α : Type} (a b : List α) (x y : α) : (a ++ x :: b).set a.length y = a ++ y :: b := by simp
def findIdxI (p : Int → Bool) : List Int → Int → Int
 | [], _ => -1
 | e :: es, i => if p e = true then i else findIdxI p es (i + 1)
theorem findIdxI_any (p : Int → Bool) : ∀ (es : List Int) (i : Int), 0 ≤ i → decide (0 ≤ findIdxI p es i) = es.any p
 | [], i, _ => by simp [findIdxI]
 | e :: es, i, h => by
   unfold findIdxI
   split
   ·rename_i hp; simp [hp, h]
   ·rename_i hp
    rw [findIdxI_any p es (i + 1) (by omega)]
    simp [hp]
theorem indexInt_is (nl : Bool) (xs : List Int) (c : Cp) (f : FuncId) (cs : List AV) (hcs : AV.norefs cs = true) (p : Int → Bool) (hp : ∀ e ∈ xs, PureIs prog f (.sc (.int .i64 e) :: cs) (.sc (.bool (p e)))) (hl : xs.length < 1000000) :
  PureIs prog 118 [.sl nl (xs.map intC) c, .fn f cs] (.sc (.int .i64 (findIdxI p xs 0))) := by
 refine PureIs.of1 2 [4, 5, 7, 8, 9, 16] func118 ntmps118 results118 fun _ => ?_
 refine EvC.a ?_
 refine EvC.seq ?_
 refine EvC.a ?_
 refine EvC.block ?_
 refine EvC.loopS (σ := Nat) (fun i => ⟨[(0, .sl nl (xs.map intC) c), (1, .fn f cs), (7, .sc (.int .i64 xs.length)), (8, .sc (.int .i64 i))], [], [], 0⟩) (fun i => xs.length - i) (fun i => i ≤ xs.length ∧ findIdxI p xs 0 = findIdxI p (xs.drop i) i) [0, 1, 7, 8] 0 ?_ ?_
 ·refine ⟨[], 0, rfl, (by simp only [go_sem, hcs] <;> rfl), Nat.zero_le _, by simp⟩
 rintro i ⟨h1, h2⟩
 refine EvC.a ?_
 refine EvC.seq ?_
 refine EvC.cond (by simp only [go_sem] <;> rfl) (fun hc => ?_) (fun hc => ?_)
 rotate_left
 ·refine EvC.exit ?_
  have hi : ¬ i < xs.length := by simpa using hc
  refine EvC.a ?_
  refine EvC.rz ?_
  simp only [go_sem]
  rw [h2, List.drop_of_length_le (by omega)]; rfl
 have hi : i < xs.length := by simpa using hc
 have he : xs[i]? = some xs[i] := List.getElem?_eq_getElem hi
 have hd : xs.drop i = xs[i] :: xs.drop (i + 1) := List.drop_eq_getElem_cons hi
 have hm : xs[i] ∈ xs := List.getElem_mem hi
 generalize xs[i] = e at he hd hm
 refine EvC.skip ?_
 refine EvC.seq ?_
 refine EvC.block ?_
 refine EvC.a ?_
 apply EvC.s1
 ·apply Tr.run
  ·simp only [go_sem, he, intC] <;> rfl
  ·simp
  apply Tr.cons
  ·exact .call rfl rfl (by simp only [go_sem] <;> rfl) (by simp only [go_sem] <;> rfl) (by simp only [go_sem] <;> rfl) (by simp only [go_sem, hcs] <;> rfl) (by simp only [go_sem] <;> rfl) (hp e hm)
  apply Tr.done
  ·simp only [go_sem] <;> rfl
  ·simp
 refine EvC.cond (by simp only [go_sem] <;> rfl) (fun hc => ?_) (fun hc => ?_)
 ·refine EvC.a ?_
  refine EvC.rz ?_
  simp only [go_sem]
  rw [h2, hd, findIdxI, if_pos hc]
 refine EvC.skip ?_
 refine EvC.b ?_ (hok := by exact inI64_of (by omega) (by omega))
 refine ⟨[], i + 1, rfl, (by simp only [go_sem, hcs] <;> rfl), ⟨by omega, ?_⟩, by omega⟩
 rw [h2, hd, findIdxI, if_neg (by simp [hc])]; rfl
theorem containsInt_is (nl : Bool) (xs : List Int) (c : Cp) (f : FuncId) (cs : List AV) (hcs : AV.norefs cs = true) (p : Int → Bool) (hp : ∀ e ∈ xs, PureIs prog f (.sc (.int .i64 e) :: cs) (.sc (.bool (p e)))) (hl : xs.length < 1000000) :
  PureIs prog 108 [.sl nl (xs.map intC) c, .fn f cs] (.sc (.bool (xs.any p))) := by
 refine PureIs.of1 2 [4] func108 ntmps108 results108 fun _ => ?_
 refine EvC.a ?_
 apply EvC.s1
 ·apply Tr.run
  ·simp only [go_sem] <;> rfl
  ·simp
  apply Tr.cons
  ·exact .call rfl rfl (by simp only [go_sem] <;> rfl) (by simp only [go_sem] <;> rfl) (by simp only [go_sem] <;> rfl) (by simp only [go_sem, hcs] <;> rfl) (by simp only [go_sem] <;> rfl) (indexInt_is _ _ _ _ _ hcs _ hp hl)
  apply Tr.done
  ·simp only [go_sem] <;> rfl
  ·simp
 refine EvC.rz ?_
 simp only [go_sem]
 rw [findIdxI_any _ _ _ (Int.le_refl 0)]
theorem wcheck1_is (x n : Int) : PureIs prog 109 [.sc (.int .i64 x), .ia [.sc (.int .i64 n)]] (.sc (.bool (decide (x < 0) || decide (n ≤ x)))) := by
 refine PureIs.of1 2 [3] func109 ntmps109 results109 fun _ => ?_
 refine EvC.a ?_
 apply EvC.seq
 apply EvC.trd
 ·simp only [go_sem] <;> rfl
 ·simp
 refine EvC.rz ?_
 simp only [go_sem]
 by_cases h : x < 0 <;> simp [h]
def wordErr (n : Int) (w : List Int) : Int := if 16 < n ∨ 256 < w.length then 3 else if n < 1 ∨ w.any (fun c => decide (c < 0) || decide (n ≤ c)) = true then 1 else 0
theorem wordCheck_is (nl : Bool) (w : List Int) (c : Cp) (n : Int) (hl : w.length < 1000000) : PureIs prog 89 [.sl nl (w.map intC) c, .sc (.int .i64 n)] (.sc (.int .i64 (wordErr n w))) := by
 refine PureIs.of1 2 [3, 4, 11, 18] func89 ntmps89 results89 fun _ => ?_
 refine EvC.a ?_
 refine EvC.z 0 ?_
 refine EvC.seq ?_
 apply EvC.seq
 apply EvC.trd
 ·simp only [go_sem] <;> rfl
 ·simp
 refine EvC.cond (by simp only [go_sem] <;> rfl) (fun hc => ?_) (fun hc => ?_)
 ·have h : 16 < n ∨ 256 < w.length := by by_cases h1 : 16 < n <;> simp_all; omega
  refine EvC.a ?_
  refine EvC.rz ?_
  simp only [go_sem]
  rw [wordErr, if_pos h]
 have hn : ¬ (16 < n ∨ 256 < w.length) := by by_cases h1 : 16 < n <;> simp_all; omega
 refine EvC.skip ?_
 refine EvC.seq ?_
 by_cases h1 : n < 1
 ·have h1' : decide (n < 1) = true := by simp [h1]
  apply EvC.s1
  ·apply Tr.run
   ·simp only [go_sem] <;> rfl
   ·simp
   apply Tr.cons
   ·exact .skipv (.sc (.bool false)) rfl rfl (by simp only [go_sem, h1'] <;> rfl) (by simp only [go_sem] <;> rfl)
   apply Tr.done
   ·simp only [go_sem, h1'] <;> rfl
   ·simp
  refine EvC.ct ?_
  refine EvC.a ?_
  refine EvC.rz ?_
  simp only [go_sem]
  rw [wordErr, if_neg hn, if_pos (.inl h1)]
 have h1' : decide (n < 1) = false := by simp [h1]
 apply EvC.s1
 ·apply Tr.run
  ·simp only [go_sem, h1'] <;> rfl
  ·simp
  apply Tr.cons
  ·exact .cg (containsInt_is nl w c 109 [.ia [.sc (.int .i64 n)]] rfl (fun c => decide (c < 0) || decide (n ≤ c)) (fun e _ => wcheck1_is e n) hl)
  apply Tr.done
  ·simp only [go_sem, h1'] <;> rfl
  ·simp
 refine EvC.cond (by simp only [go_sem] <;> rfl) (fun hc => ?_) (fun hc => ?_)
 ·refine EvC.a ?_
  refine EvC.rz ?_
  simp only [go_sem]
  rw [wordErr, if_neg hn, if_pos (.inr hc)]
 refine EvC.skip ?_
 refine EvC.a ?_
 refine EvC.rz ?_
 simp only [go_sem]
 rw [wordErr, if_neg hn, if_neg (by simp only [not_or]; exact ⟨h1, by simpa using hc⟩)]
def stateErr (m : Mach) (l : List Int) : Int := if checkM m ≠ 0 then checkM m else if l.any (fun x => decide (x < 0) || decide ((m.rows.length : Int) ≤ x)) = true then 1 else 0
theorem mstate_is (m : Mach) (hr : ∀ r ∈ m.rows, r.2.length < 1000000) (s : Int) : PureIs prog 92 [.ag m.cells, .sc (.int .i64 s)] (.sc (.int .i64 (stateErr m [s]))) := by
 refine PureIs.of1 3 [4, 5, 9, 19] func92 ntmps92 results92 fun _ => ?_
 refine EvC.a ?_ (by simp only [go_sem, Mach.cells] <;> rfl)
 refine EvC.z 0 ?_
 refine EvC.seq ?_
 apply EvC.s1
 ·apply Tr.run
  ·simp only [go_sem, Mach.cells] <;> rfl
  ·simp
  apply Tr.cons
  ·exact .ca (check_is m hr)
  apply Tr.done
  ·simp only [go_sem] <;> rfl
  ·simp
 refine EvC.a ?_
 refine EvC.cond (by simp only [go_sem] <;> rfl) (fun hc => ?_) (fun hc => ?_)
 ·refine EvC.a ?_
  refine EvC.rz ?_
  simp only [go_sem]
  rw [stateErr, if_pos (by simpa using hc)]
 have hck : ¬ checkM m ≠ 0 := by simpa using hc
 refine EvC.skip ?_
 refine EvC.seq ?_
 apply EvC.seq
 apply EvC.trd
 ·simp only [go_sem, Mach.cells] <;> rfl
 ·simp
 refine EvC.cond (by simp only [go_sem] <;> rfl) (fun hc => ?_) (fun hc => ?_)
 ·have h : s < 0 ∨ (m.rows.length : Int) ≤ s := by by_cases h1 : s < 0 <;> simp_all
  refine EvC.a ?_
  refine EvC.rz ?_
  simp only [go_sem]
  rw [stateErr, if_neg hck, if_pos (by simpa using h)]
 have h : ¬ (s < 0 ∨ (m.rows.length : Int) ≤ s) := by by_cases h1 : s < 0 <;> simp_all
 refine EvC.skip ?_
 refine EvC.a ?_
 refine EvC.rz ?_
 simp only [go_sem]
 rw [stateErr, if_neg hck, if_neg (by simpa using h)]
def afterR (m : Mach) : Int → List Int → Int
 | s, [] => s
 | s, a :: w => afterR m (stepR m s a).1 w
theorem run75_is {m : Mach} (hv : Valid m) (s : Int) (hs : s < m.rows.length) (hs0 : -1 ≤ s) (nl : Bool) (w : List Int) (c : Cp) (hw : ∀ a ∈ w, 0 ≤ a ∧ a < m.ins) (hl : w.length < 1000000) :
  PureIs prog 93 [.ag m.cells, .sc (.int .i64 s), .sl nl (w.map intC) c] (.tu [.sl false ((runR m s w).map intC) .unk, .sc (.int .i64 (afterR m s w))]) := by
 refine PureIs.of1 4 [6, 7, 8, 9, 10, 11, 15, 16, 17, 18, 24] func93 ntmps93 results93 fun _ => ?_
 refine EvC.a ?_ (by simp only [go_sem, Mach.cells] <;> rfl)
 refine EvC.z 0 ?_
 refine EvC.a ?_ (hok := by simp [room_eq]; omega)
 refine EvC.seq ?_
 refine EvC.a ?_
 refine EvC.block ?_
 have hz : ∀ n : Nat, List.replicate n [AV.sc (.int .i64 0)] = (List.replicate n (0 : Int)).map intC := fun n => by simp [intC]
 refine EvC.loopS (σ := Nat × Int × List Int × List Int) (fun g => ⟨[(1, .sc (.int .i64 g.2.1)), (3, .ia m.cells), (8, .tl 0 w.length false), (15, .sl nl (w.map intC) c), (16, .sc (.int .i64 w.length)), (17, .sc (.int .i64 g.1))], [], [(0, .arr 1 (g.2.2.2.map intC) false)], 1⟩) (fun g => w.length - g.1)
  (fun g => g.1 ≤ w.length ∧ g.2.2.1.length = g.1 ∧ g.2.1 < m.rows.length ∧ -1 ≤ g.2.1 ∧ runR m s w = g.2.2.1 ++ runR m g.2.1 (w.drop g.1) ∧ afterR m s w = afterR m g.2.1 (w.drop g.1) ∧ g.2.2.2 = g.2.2.1 ++ List.replicate (w.length - g.1) 0) [1, 3, 8, 15, 16, 17] 1 ?_ ?_
 ·refine ⟨[(5, 0)], (0, s, [], List.replicate w.length 0), rfl, (by simp only [go_sem, Mach.cells, hz, Int.toNat_natCast] <;> rfl), Nat.zero_le _, rfl, hs, hs0, rfl, rfl, by simp⟩
 rintro ⟨i, t, os, out⟩ ⟨h1, h2, h3, h4, h5, h6, ho⟩
 simp only at h1 h2 h3 h4 h5 h6 ho
 have hlen : out.length = w.length := by rw [ho]; simp; omega
 refine EvC.a ?_
 refine EvC.seq ?_
 refine EvC.cond (by simp only [go_sem] <;> rfl) (fun hc => ?_) (fun hc => ?_)
 rotate_left
 ·refine EvC.exit ?_
  obtain rfl : i = w.length := by have : ¬ i < w.length := by simpa using hc
                                  omega
  rw [List.drop_length] at h5 h6
  refine EvC.frz 0 (by simp only [go_sem, hlen, List.length_map] <;> rfl) ?_
  refine EvC.a ?_
  refine EvC.rz ?_
  simp only [go_sem]
  rw [h5, h6, ho]
  simp [runR, afterR]
 have hi : i < w.length := by simpa using hc
 have he : w[i]? = some w[i] := List.getElem?_eq_getElem hi
 have hd : w.drop i = w[i] :: w.drop (i + 1) := List.drop_eq_getElem_cons hi
 have ha := hw _ (List.getElem_mem hi)
 generalize w[i] = a at he hd ha
 rw [hd, runR] at h5
 rw [hd, afterR] at h6
 refine EvC.skip ?_
 refine EvC.seq ?_
 refine EvC.block ?_
 refine EvC.a ?_ (by simp only [go_sem, he, intC] <;> rfl)
 apply EvC.s1
 ·apply Tr.run
  ·simp only [go_sem] <;> rfl
  ·simp
  apply Tr.cons
  ·exact .ca (none_is)
  apply Tr.done
  ·simp only [go_sem] <;> rfl
  ·simp
 refine EvC.seq ?_
 refine EvC.a ?_
 have hr : w.length - i = (w.length - (i + 1)) + 1 := by omega
 have hset' : ∀ y : Int, out.set i y = (os ++ [y]) ++ List.replicate (w.length - (i + 1)) 0 := fun y => by
  rw [ho, hr, List.replicate_succ, ← h2, set_mid]
  simp
 have hset : ∀ y : Int, (out.map intC).set i [.sc (.int .i64 y)] = (out.set i y).map intC := fun y => by
  rw [show [AV.sc (.int .i64 y)] = intC y from rfl, ← List.map_set]
 have hge : out[i]? = some 0 := by
  rw [ho, List.getElem?_append_right (by omega), hr, h2]; simp
 have hlt := stepR_lt hv h3 ha
 have hge1 : -1 ≤ (stepR m t a).1 := by
  by_cases h0 : 0 ≤ t
  ·obtain ⟨r, e, _, _, k3, k4⟩ := stepR_get hv h0 h3 ha
   rw [k3]; unfold fitsR at k4; simp at k4; omega
  ·rw [stepR, if_pos (by omega)]; simp
 refine EvC.cond (by simp only [go_sem] <;> rfl) (fun hc => ?_) (fun hc => ?_)
 ·have hc : ¬ t = -1 := by simpa using hc
  obtain ⟨r, e, k1, k2, k3, k4⟩ := stepR_get hv (show 0 ≤ t by omega) h3 ha
  have htl : t.toNat < m.rows.length := by omega
  refine EvC.b ?_ (by simp only [go_sem, Mach.cells, k1, rowC, k2, edgeC] <;> rfl) (by simp; omega)
  apply EvC.drd mixed
  ·simp only [go_sem, hset, hge, intC] <;> rfl
  ·simp [hlen]; omega
  ·kernel_rfl
  refine EvC.b ?_ (hok := by exact inI64_of (by omega) (by omega))
  rw [k3] at h5 h6 hlt hge1
  refine ⟨[(0, 0)], (i + 1, e.1, os ++ [e.2], out.set i e.2), rfl, (by simp only [go_sem, Mach.cells] <;> rfl), ⟨by simp only; omega, by simp [h2], hlt, hge1, ?_, h6, hset' _⟩, by simp only; omega⟩
  simp only [h5, List.append_assoc]; rfl
 have hc : t = -1 := by simpa using hc
 refine EvC.skip ?_
 apply EvC.drd mixed
 ·simp only [go_sem, hset, hge, intC] <;> rfl
 ·simp [hlen]; omega
 ·kernel_rfl
 refine EvC.b ?_ (hok := by exact inI64_of (by omega) (by omega))
 have k3 : stepR m t a = (-1, -1) := by rw [stepR, if_pos (by omega)]
 rw [k3] at h5 h6 hlt hge1
 refine ⟨[(0, 0)], (i + 1, -1, os ++ [-1], out.set i (-1)), rfl, (by simp only [go_sem, Mach.cells] <;> rfl), ⟨by simp only; omega, by simp [h2], hlt, hge1, ?_, h6, hset' _⟩, by simp only; omega⟩
 simp only [h5, List.append_assoc]; rfl
theorem runR_len (m : Mach) : ∀ (s : Int) (w : List Int), (runR m s w).length = w.length
 | _, [] => rfl
 | s, a :: w => by simp only [runR, List.length_cons]; rw [runR_len m _ w]
theorem wordErr_zero {n : Int} {w : List Int} (h : wordErr n w = 0) : ∀ a ∈ w, 0 ≤ a ∧ a < n := by
 unfold wordErr at h
 split at h
 ·cases h
 ·split at h
  ·cases h
  ·rename_i h2
   simp only [not_or, Bool.not_eq_true, List.any_eq_false] at h2
   intro a ha
   have := h2.2 a ha
   simp at this; omega
theorem wordErr_of {n : Int} {w : List Int} (hn : 1 ≤ n ∧ n ≤ 16) (hl : w.length ≤ 256) (h : ∀ a ∈ w, 0 ≤ a ∧ a < n) : wordErr n w = 0 := by
 have h2 : ¬ (n < 1 ∨ w.any (fun c => decide (c < 0) || decide (n ≤ c)) = true) := by
  simp only [not_or, Bool.not_eq_true, List.any_eq_false]
  exact ⟨by omega, fun a ha => by have := h a ha; simp; omega⟩
 rw [wordErr, if_neg (by omega), if_neg h2]
theorem checkM_of {m : Mach} (hv : Valid m) : checkM m = 0 := by
 have h1 := hv.ins
 have h2 := hv.outs
 have h3 := hv.rows
 have h4 : m.rows.all (rowOk m) = true := by
  rw [List.all_eq_true]
  intro r hr
  obtain ⟨k1, k2⟩ := hv.row r hr
  simp only [rowOk, Bool.and_eq_true, decide_eq_true_eq, Bool.not_eq_true', List.any_eq_false]
  exact ⟨k1, fun e he => by simp [k2 e he]⟩
 rw [checkM, if_neg (by omega), if_neg (by omega), if_pos h4]
theorem stateErr_of {m : Mach} {l : List Int} (hv : Valid m) (h : ∀ s ∈ l, 0 ≤ s ∧ s < m.rows.length) : stateErr m l = 0 := by
 have h2 : ¬ l.any (fun x => decide (x < 0) || decide ((m.rows.length : Int) ≤ x)) = true := by
  simp only [Bool.not_eq_true, List.any_eq_false]
  exact fun s hs => by have := h s hs; simp; omega
 rw [stateErr, if_neg (by simp [checkM_of hv]), if_neg h2]
theorem Valid.small {m : Mach} (hv : Valid m) : ∀ r ∈ m.rows, r.2.length < 1000000 := fun r hr => by
 have := (hv.row r hr).1
 have := hv.ins
 omega
theorem run52_is {m : Mach} (hv : Valid m) (s : Int) (hs : 0 ≤ s ∧ s < m.rows.length) (nl : Bool) (w : List Int) (c : Cp) (hw : wordErr m.ins w = 0) (hl : w.length < 1000000) :
  PureIs prog 63 [.ag m.cells, .sc (.int .i64 s), .sl nl (w.map intC) c] (.tu [.sl false ((runR m s w).map intC) .unk, .sc (.int .i64 0)]) := by
 refine PureIs.of1 4 [6, 7, 8, 9, 10, 16, 23] func63 ntmps63 results63 fun _ => ?_
 have h1 : stateErr m [s] = 0 := stateErr_of hv (by simpa using hs)
 refine EvC.a ?_ (by simp only [go_sem, Mach.cells] <;> rfl)
 refine EvC.z 0 ?_
 refine EvC.seq ?_
 apply EvC.s1
 ·apply Tr.run
  ·simp only [go_sem, Mach.cells] <;> rfl
  ·simp
  apply Tr.cons
  ·exact .ca (mstate_is m hv.small s)
  apply Tr.done
  ·simp only [go_sem, h1] <;> rfl
  ·simp
 refine EvC.a ?_
 refine EvC.cs ?_
 refine EvC.seq ?_
 apply EvC.s1
 ·apply Tr.run
  ·simp only [go_sem, Mach.cells] <;> rfl
  ·simp
  apply Tr.cons
  ·exact .ca (wordCheck_is nl w c m.ins hl)
  apply Tr.done
  ·simp only [go_sem, hw] <;> rfl
  ·simp
 refine EvC.a ?_
 refine EvC.cs ?_
 apply EvC.s1
 ·apply Tr.run
  ·simp only [go_sem, Mach.cells] <;> rfl
  ·simp
  apply Tr.cons
  ·exact .ca (run75_is hv s hs.2 (by omega) nl w c (wordErr_zero hw) hl)
  apply Tr.done
  ·simp only [go_sem] <;> rfl
  ·simp
 refine EvC.a ?_
 refine EvC.rz ?_
 simp only [go_sem]
structure FA where
 kind : Int
 state : Int
 input : Int
 to : Int
 at' : Int
 out : Int
def FA.cells (f : FA) : List AV := [.sc (.int .i64 f.kind), .sc (.int .i64 f.state), .sc (.int .i64 f.input), .sc (.int .i64 f.to), .sc (.int .i64 f.at'), .sc (.int .i64 f.out)]
def inN (i n : Int) : Bool := decide (0 ≤ i) && decide (i < n)
def definedB (m : Mach) (s i : Int) : Bool := decide (0 ≤ s) && (decide (s < m.rows.length) && (decide (0 ≤ i) && (decide (i < m.ins) && !decide ((stepM m s i).1 = -1))))
def plainB (f : FA) : Bool :=
 if f.kind = 0 then decide (f.to = 0) && decide (f.at' = 0)
 else if f.kind = 1 then decide (f.at' = 0) && decide (f.out = 0)
 else if f.kind = 2 then decide (f.to = 0) && (decide (f.at' = 0) && decide (f.out = 0))
 else if f.kind = 3 then decide (f.at' = 0) && decide (f.out = 0)
 else if f.kind = 4 then decide (f.to = 0) else false
theorem within85_is (i n : Int) : PureIs prog 94 [.sc (.int .i64 i), .sc (.int .i64 n)] (.sc (.bool (inN i n))) := by
 refine PureIs.of1 2 [4] func94 ntmps94 results94 fun _ => ?_
 refine EvC.a ?_
 apply EvC.seq
 apply EvC.trd
 ·simp only [go_sem] <;> rfl
 ·simp
 refine EvC.rz ?_
 simp only [go_sem]
 unfold inN
 by_cases h : 0 ≤ i <;> simp [h]
theorem stepM_get {m : Mach} (hv : Valid m) {s i : Int} (hs : 0 ≤ s ∧ s < m.rows.length) (hi : 0 ≤ i ∧ i < m.ins) :
  ∃ r, m.rows[s.toNat]? = some r ∧ r.2[i.toNat]? = some (stepM m s i) ∧ fitsR m.rows.length m.outs (stepM m s i).1 (stepM m s i).2 = true := by
 obtain ⟨r, e, h1, h2, h3, h4⟩ := stepR_get hv hs.1 hs.2 hi
 have : stepR m s i = stepM m s i := by rw [stepR, if_neg (by omega)]; rfl
 rw [← h3, this] at h2 h4
 exact ⟨r, h1, h2, h4⟩
theorem defined84_is {m : Mach} (hv : Valid m) (s i : Int) : PureIs prog 101 [.ag m.cells, .sc (.int .i64 s), .sc (.int .i64 i)] (.sc (.bool (definedB m s i))) := by
 refine PureIs.of1 4 [6] func101 ntmps101 results101 fun _ => ?_
 refine EvC.a ?_ (by simp only [go_sem, Mach.cells] <;> rfl)
 refine EvC.z 0 ?_
 have hn1 := hv.rows
 have hi1 := hv.ins
 cases h1 : m.rows[s.toNat]? with
 | none =>
   have hs : m.rows.length ≤ s.toNat := List.getElem?_eq_none_iff.1 h1
   have d1 : decide (0 ≤ s) = true := decide_eq_true (by omega)
   have d2 : decide (s < (m.rows.length : Int)) = false := decide_eq_false (by omega)
   have hres : definedB m s i = false := by simp [definedB, d1, d2]
   rw [hres]
   apply EvC.s1
   ·apply Tr.run
    ·simp only [go_sem, Mach.cells, List.length_map, h1, d1, d2] <;> rfl
    ·simp
    apply Tr.cons
    ·exact .skipv (.ia [.sl false [] .unk]) rfl rfl (by simp only [go_sem] <;> rfl) (by simp only [go_sem] <;> rfl)
    apply Tr.run
    ·simp only [go_sem, Mach.cells, List.length_map, h1, d1, d2] <;> rfl
    ·simp
    apply Tr.cons
    ·exact .skipv (.ia [.sc (.int .i64 0), .sc (.int .i64 0)]) rfl rfl (by simp only [go_sem] <;> rfl) (by simp only [go_sem] <;> rfl)
    apply Tr.done
    ·simp only [go_sem] <;> rfl
    ·simp
   refine EvC.rz ?_
   simp only [go_sem]
 | some r =>
   have hsl : s.toNat < m.rows.length := (List.getElem?_eq_some_iff.1 h1).1
   have hrl := (hv.row _ (List.mem_of_getElem? h1)).1
   cases h2 : r.2[i.toNat]? with
   | none =>
     have hi : r.2.length ≤ i.toNat := List.getElem?_eq_none_iff.1 h2
     have d3 : decide (0 ≤ i) = true := decide_eq_true (by omega)
     have d4 : decide (i < m.ins) = false := decide_eq_false (by omega)
     have hres : definedB m s i = false := by simp [definedB, d3, d4]
     rw [hres]
     by_cases h0 : 0 ≤ s
     ·have d1 : decide (0 ≤ s) = true := decide_eq_true h0
      have d2 : decide (s < (m.rows.length : Int)) = true := decide_eq_true (by omega)
      apply EvC.s1
      ·apply Tr.run
       ·simp only [go_sem, Mach.cells, rowC, List.length_map, h1, h2, d1, d2, d3, d4] <;> rfl
       ·simp
       apply Tr.cons
       ·exact .skipv (.ia [.sc (.int .i64 0), .sc (.int .i64 0)]) rfl rfl (by simp only [go_sem] <;> rfl) (by simp only [go_sem] <;> rfl)
       apply Tr.done
       ·simp only [go_sem] <;> rfl
       ·simp
      refine EvC.rz ?_
      simp only [go_sem]
     ·have d1 : decide (0 ≤ s) = false := decide_eq_false h0
      apply EvC.s1
      ·apply Tr.run
       ·simp only [go_sem, Mach.cells, rowC, List.length_map, h1, h2, d1, d3, d4] <;> rfl
       ·simp
       apply Tr.cons
       ·exact .skipv (.ia [.sc (.int .i64 0), .sc (.int .i64 0)]) rfl rfl (by simp only [go_sem] <;> rfl) (by simp only [go_sem] <;> rfl)
       apply Tr.done
       ·simp only [go_sem] <;> rfl
       ·simp
      refine EvC.rz ?_
      simp only [go_sem]
   | some e =>
     have he : stepM m s i = e := by rw [stepM, h1]; simp [h2]
     unfold definedB
     rw [he]
     apply EvC.seq
     apply EvC.trd
     ·simp only [go_sem, Mach.cells, h1, h2, rowC, edgeC, List.length_map] <;> rfl
     ·by_cases k1 : 0 ≤ s <;> by_cases k3 : 0 ≤ i <;> simp [k1, k3]
     refine EvC.rz ?_
     simp only [go_sem]
     by_cases k1 : 0 ≤ s <;> by_cases k2 : s < m.rows.length <;> by_cases k3 : 0 ≤ i <;> by_cases k4 : i < m.ins <;> simp [k1, k2, k3, k4]
theorem kind_cases (k : Int) : (k = 0 ∨ k = 1 ∨ k = 2 ∨ k = 3 ∨ k = 4) ∨ inN k 5 = false := by
 by_cases h : 0 ≤ k ∧ k < 5
 ·exact .inl (by omega)
 ·refine .inr ?_
  unfold inN
  rw [Bool.and_eq_false_iff]
  by_cases h1 : 0 ≤ k
  ·exact .inr (decide_eq_false fun h2 => h ⟨h1, h2⟩)
  ·exact .inl (decide_eq_false h1)
theorem plain83_is (f : FA) : PureIs prog 100 [.ag f.cells] (.sc (.bool (plainB f))) := by
 obtain ⟨k, s, i, t, a, o⟩ := f
 have q := within85_is k 5
 refine PureIs.of1 4 [7] func100 ntmps100 results100 fun _ => ?_
 refine EvC.a ?_ (by simp only [go_sem, FA.cells] <;> rfl)
 refine EvC.z 0 ?_
 refine EvC.seq ?_
 rcases kind_cases k with hk | hk
 rotate_left
 ·rw [hk] at q
  have hres : plainB ⟨k, s, i, t, a, o⟩ = false := by
   unfold inN at hk
   rw [Bool.and_eq_false_iff, decide_eq_false_iff_not, decide_eq_false_iff_not] at hk
   unfold plainB
   simp only
   rw [if_neg (by omega), if_neg (by omega), if_neg (by omega), if_neg (by omega), if_neg (by omega)]
  rw [hres]
  apply EvC.s1
  ·apply Tr.run
   ·simp only [go_sem] <;> rfl
   ·simp
   apply Tr.cons
   ·exact .ca (q)
   apply Tr.done
   ·simp only [go_sem] <;> rfl
   ·simp
  refine EvC.ct ?_
  refine EvC.a ?_
  refine EvC.rz ?_
  simp only [go_sem]
 have q5 : inN k 5 = true := by unfold inN; simp; omega
 rw [q5] at q
 have n2 : (2 : Int).toNat = 2 := rfl
 have n3 : (3 : Int).toNat = 3 := rfl
 have n4 : (4 : Int).toNat = 4 := rfl
 have n1 : (1 : Int).toNat = 1 := rfl
 have n0 : (0 : Int).toNat = 0 := rfl
 apply EvC.s1
 ·apply Tr.run
  ·simp only [go_sem] <;> rfl
  ·simp
  apply Tr.cons
  ·exact .ca (q)
  apply Tr.done
  ·simp only [go_sem] <;> rfl
  ·simp
 refine EvC.cs ?_
 rcases hk with rfl | rfl | rfl | rfl | rfl
 all_goals
  refine EvC.a ?_ (by simp only [go_sem, kindTab, kindN, n0, n1, n2, n3, n4, Nat.reduceMul] <;> rfl)
  apply EvC.seq
  apply EvC.trd
  ·simp only [go_sem] <;> rfl
  ·simp
  refine EvC.rz ?_
  simp only [go_sem]
  unfold plainB
  by_cases e1 : t = 0 <;> by_cases e2 : a = 0 <;> by_cases e3 : o = 0 <;> simp [e1, e2, e3]
def kindB (m : Mach) (f : FA) : Bool :=
 if f.kind = 0 then inN f.out m.outs && !decide (f.out = (stepM m f.state f.input).2)
 else if f.kind = 1 then inN f.to m.rows.length && !decide (f.to = (stepM m f.state f.input).1)
 else if f.kind = 2 then true
 else if f.kind = 3 then inN f.to m.rows.length
 else inN f.out m.outs && (definedB m (stepM m f.state f.input).1 f.at' && !decide (f.out = (stepM m (stepM m f.state f.input).1 f.at').2))
def faultB (m : Mach) (f : FA) : Bool := plainB f && (definedB m f.state f.input && kindB m f)
def checkF (m : Mach) (f : FA) : Int := if faultB m f = true then (if 3 ≤ f.kind ∧ m.rows.length = 64 then 3 else 0) else 1
theorem definedB_iff {m : Mach} {s i : Int} : definedB m s i = true ↔ (0 ≤ s ∧ s < m.rows.length) ∧ (0 ≤ i ∧ i < m.ins) ∧ (stepM m s i).1 ≠ -1 := by
 unfold definedB
 simp only [Bool.and_eq_true, decide_eq_true_eq, Bool.not_eq_true', decide_eq_false_iff_not]
 constructor
 ·rintro ⟨a, b, c, d, e⟩; exact ⟨⟨a, b⟩, ⟨c, d⟩, e⟩
 ·rintro ⟨⟨a, b⟩, ⟨c, d⟩, e⟩; exact ⟨a, b, c, d, e⟩
theorem step_in {m : Mach} (hv : Valid m) {s i : Int} (hd : definedB m s i = true) : ∃ r, m.rows[s.toNat]? = some r ∧ r.2[i.toNat]? = some (stepM m s i) ∧ (0 ≤ (stepM m s i).1 ∧ (stepM m s i).1 < m.rows.length) := by
 obtain ⟨h1, h2, h3⟩ := definedB_iff.1 hd
 obtain ⟨r, k1, k2, k3⟩ := stepM_get hv h1 h2
 refine ⟨r, k1, k2, ?_⟩
 unfold fitsR at k3
 simp only [Bool.or_eq_true, Bool.and_eq_true, decide_eq_true_eq] at k3
 omega
theorem plainB_kind {f : FA} (h : plainB f = true) : f.kind = 0 ∨ f.kind = 1 ∨ f.kind = 2 ∨ f.kind = 3 ∨ f.kind = 4 := by
 unfold plainB at h
 by_cases h0 : f.kind = 0
 ·exact .inl h0
 by_cases h1 : f.kind = 1
 ·exact .inr (.inl h1)
 by_cases h2 : f.kind = 2
 ·exact .inr (.inr (.inl h2))
 by_cases h3 : f.kind = 3
 ·exact .inr (.inr (.inr (.inl h3)))
 by_cases h4 : f.kind = 4
 ·exact .inr (.inr (.inr (.inr h4)))
 simp [h0, h1, h2, h3, h4] at h
theorem plainB_at {f : FA} (h : plainB f = true) (hk : f.kind ≠ 4) : f.at' = 0 := by
 unfold plainB at h
 by_cases h0 : f.kind = 0
 ·simp [h0] at h; exact h.2
 by_cases h1 : f.kind = 1
 ·simp [h1] at h; exact h.1
 by_cases h2 : f.kind = 2
 ·simp [h2] at h; exact h.2.1
 by_cases h3 : f.kind = 3
 ·simp [h3] at h; exact h.1
 simp [h0, h1, h2, h3, hk] at h
set_option maxHeartbeats 4000000 in
theorem check78_is {m : Mach} (hv : Valid m) (hc0 : checkM m = 0) (f : FA) : PureIs prog 75 [.ag m.cells, .ag f.cells] (.sc (.int .i64 (checkF m f))) := by
 have q0 := check_is m fun r hr => by have := (hv.row r hr).1; have := hv.ins; omega
 rw [hc0] at q0
 obtain ⟨kd, s, i, t, a, o⟩ := f
 refine PureIs.of1 8 [11, 24, 74, 117, 126] func75 ntmps75 results75 fun _ => ?_
 refine EvC.a ?_ (by simp only [go_sem, Mach.cells, FA.cells] <;> rfl)
 refine EvC.z 0 ?_
 refine EvC.z 1 ?_
 refine EvC.seq ?_
 apply EvC.s1
 ·apply Tr.run
  ·simp only [go_sem, Mach.cells] <;> rfl
  ·simp
  apply Tr.cons
  ·exact .ca (q0)
  apply Tr.done
  ·simp only [go_sem] <;> rfl
  ·simp
 refine EvC.a ?_
 refine EvC.cs ?_
 refine EvC.seq ?_
 have qp := plain83_is ⟨kd, s, i, t, a, o⟩
 cases hp : plainB ⟨kd, s, i, t, a, o⟩ with
 | false =>
   rw [hp] at qp
   have hres : checkF m ⟨kd, s, i, t, a, o⟩ = 1 := by unfold checkF faultB; rw [hp]; rfl
   rw [hres]
   apply EvC.s1
   ·apply Tr.run
    ·simp only [go_sem, FA.cells, Mach.cells] <;> rfl
    ·simp
    apply Tr.cons
    ·exact .ca (qp)
    apply Tr.run
    ·simp only [go_sem, FA.cells, Mach.cells] <;> rfl
    ·simp
    apply Tr.cons
    ·exact .skipv (.sc (.bool false)) rfl rfl (by simp only [go_sem] <;> rfl) (by simp only [go_sem] <;> rfl)
    apply Tr.done
    ·simp only [go_sem] <;> rfl
    ·simp
   refine EvC.ct ?_
   refine EvC.a ?_
   refine EvC.rz ?_
   simp only [go_sem]
 | true =>
 rw [hp] at qp
 have qd := defined84_is hv s i
 cases hd : definedB m s i with
 | false =>
   rw [hd] at qd
   have hres : checkF m ⟨kd, s, i, t, a, o⟩ = 1 := by unfold checkF faultB; simp only; rw [hp, hd]; rfl
   rw [hres]
   apply EvC.s1
   ·apply Tr.run
    ·simp only [go_sem, FA.cells, Mach.cells] <;> rfl
    ·simp
    apply Tr.cons
    ·exact .ca (qp)
    apply Tr.run
    ·simp only [go_sem, FA.cells, Mach.cells] <;> rfl
    ·simp
    apply Tr.cons
    ·exact .cg (qd)
    apply Tr.done
    ·simp only [go_sem] <;> rfl
    ·simp
   refine EvC.ct ?_
   refine EvC.a ?_
   refine EvC.rz ?_
   simp only [go_sem]
 | true =>
 rw [hd] at qd
 have hck : checkF m ⟨kd, s, i, t, a, o⟩ = if kindB m ⟨kd, s, i, t, a, o⟩ = true then (if 3 ≤ kd ∧ m.rows.length = 64 then 3 else 0) else 1 := by unfold checkF faultB; simp only; rw [hp, hd]; rfl
 rw [hck]
 clear hck
 apply EvC.s1
 ·apply Tr.run
  ·simp only [go_sem, FA.cells, Mach.cells] <;> rfl
  ·simp
  apply Tr.cons
  ·exact .ca (qp)
  apply Tr.run
  ·simp only [go_sem, FA.cells, Mach.cells] <;> rfl
  ·simp
  apply Tr.cons
  ·exact .cg (qd)
  apply Tr.done
  ·simp only [go_sem] <;> rfl
  ·simp
 refine EvC.cs ?_
 obtain ⟨r, h1, h2, he⟩ := step_in hv hd
 obtain ⟨b1, b2, _⟩ := definedB_iff.1 hd
 have hkd := plainB_kind hp
 have hat : kd ≠ 4 → a = 0 := fun h => plainB_at hp h
 simp only at hkd
 unfold kindB
 simp only
 generalize stepM m s i = e at *
 have h3 : m.rows[e.1.toNat]? = some (m.rows[e.1.toNat]'(by omega)) := List.getElem?_eq_getElem (by omega)
 have hrl := (hv.row _ (List.getElem_mem (show e.1.toNat < m.rows.length by omega))).1
 generalize m.rows[e.1.toNat]'(by omega) = r3 at h3 hrl
 have hsm : stepM m e.1 a = (r3.2[a.toNat]?).getD (-1, -1) := by rw [stepM, h3]; rfl
 have hi1 := hv.ins
 have hro1 := hv.rows
 apply EvC.seq
 apply EvC.drd mixed
 ·simp only [go_sem, h1, h2, rowC, edgeC, List.length_map] <;> rfl
 ·simp; try omega
 ·kernel_rfl
 refine EvC.z 30 ?_
 have n2 : (2 : Int).toNat = 2 := rfl
 have n3 : (3 : Int).toNat = 3 := rfl
 have n4 : (4 : Int).toNat = 4 := rfl
 have n1 : (1 : Int).toNat = 1 := rfl
 have n0 : (0 : Int).toNat = 0 := rfl
 have qt := within85_is t m.rows.length
 have qo := within85_is o m.outs
 have d64 : decide ((m.rows.length : Int) = 64) = decide (m.rows.length = 64) := decide_eq_decide.2 (by omega)
 rcases hkd with rfl | rfl | rfl | rfl | rfl
 ·
  obtain rfl := hat (by decide)
  have h4 : r3.2[0]? = some (r3.2[0]'(by omega)) := List.getElem?_eq_getElem (by omega)
  generalize r3.2[0]'(by omega) = e4 at h4
  rw [if_pos rfl]
  refine EvC.a ?_ (by simp only [go_sem, kindTab, kindN, n0, n1, n2, n3, n4, Nat.reduceMul] <;> rfl)
  refine EvC.z 36 ?_
  refine EvC.seq ?_
  cases hq : inN o m.outs with
  | false =>
    rw [hq] at qo
    apply EvC.s1
    ·apply Tr.run
     ·simp only [go_sem, FA.cells, Mach.cells, List.length_map] <;> rfl
     ·simp
     apply Tr.cons
     ·exact .skipv (.sc (.bool false)) rfl rfl (by simp only [go_sem] <;> rfl) (by simp only [go_sem] <;> rfl)
     apply Tr.run
     ·simp only [go_sem, FA.cells, Mach.cells, List.length_map] <;> rfl
     ·simp
     apply Tr.cons
     ·exact .cg (qo)
     apply Tr.run
     ·simp only [go_sem, FA.cells, Mach.cells, List.length_map] <;> rfl
     ·simp
     apply Tr.cons
     ·exact .skipv (.sc (.bool false)) rfl rfl (by simp only [go_sem] <;> rfl) (by simp only [go_sem] <;> rfl)
     apply Tr.done
     ·simp only [go_sem] <;> rfl
     ·simp
    refine EvC.ct ?_
    refine EvC.a ?_
    refine EvC.rz ?_
    simp only [go_sem]
  | true =>
  rw [hq] at qo
  apply EvC.s1
  ·apply Tr.run
   ·simp only [go_sem, FA.cells, Mach.cells, List.length_map] <;> rfl
   ·simp
   apply Tr.cons
   ·exact .skipv (.sc (.bool false)) rfl rfl (by simp only [go_sem] <;> rfl) (by simp only [go_sem] <;> rfl)
   apply Tr.run
   ·simp only [go_sem, FA.cells, Mach.cells, List.length_map] <;> rfl
   ·simp
   apply Tr.cons
   ·exact .cg (qo)
   apply Tr.run
   ·simp only [go_sem, FA.cells, Mach.cells, List.length_map] <;> rfl
   ·simp
   apply Tr.cons
   ·exact .skipv (.sc (.bool false)) rfl rfl (by simp only [go_sem] <;> rfl) (by simp only [go_sem] <;> rfl)
   apply Tr.done
   ·simp only [go_sem] <;> rfl
   ·simp
  refine EvC.cs ?_
  refine EvC.seq ?_
  apply EvC.seq
  apply EvC.drd mixed
  ·simp only [go_sem, h3, h4, rowC, edgeC, n0, List.length_map] <;> rfl
  ·simp; try omega
  ·kernel_rfl
  refine EvC.cond (by simp only [go_sem] <;> rfl) (fun hc => ?_) (fun hc => ?_)
  ·have hc' : o = e.2 := by simpa using hc
   refine EvC.a ?_
   refine EvC.rz ?_
   simp only [go_sem]
   simp [hc']
  have hc' : ¬ o = e.2 := by simpa using hc
  refine EvC.skip ?_
  refine EvC.seq ?_
  apply EvC.seq
  apply EvC.trd
  ·simp only [go_sem, List.length_map] <;> rfl
  ·simp
  refine EvC.cs ?_
  refine EvC.a ?_
  refine EvC.rz ?_
  simp only [go_sem]
  simp [hc']
 ·
  obtain rfl := hat (by decide)
  have h4 : r3.2[0]? = some (r3.2[0]'(by omega)) := List.getElem?_eq_getElem (by omega)
  generalize r3.2[0]'(by omega) = e4 at h4
  rw [if_neg (show ¬ (1 : Int) = 0 by decide), if_pos (show (1 : Int) = 1 from rfl)]
  refine EvC.a ?_ (by simp only [go_sem, kindTab, kindN, n0, n1, n2, n3, n4, Nat.reduceMul] <;> rfl)
  refine EvC.z 36 ?_
  refine EvC.seq ?_
  cases hq : inN t m.rows.length with
  | false =>
    rw [hq] at qt
    apply EvC.s1
    ·apply Tr.run
     ·simp only [go_sem, FA.cells, Mach.cells, List.length_map] <;> rfl
     ·simp
     apply Tr.cons
     ·exact .cg (qt)
     apply Tr.run
     ·simp only [go_sem, FA.cells, Mach.cells, List.length_map] <;> rfl
     ·simp
     apply Tr.cons
     ·exact .skipv (.sc (.bool false)) rfl rfl (by simp only [go_sem] <;> rfl) (by simp only [go_sem] <;> rfl)
     apply Tr.run
     ·simp only [go_sem, FA.cells, Mach.cells, List.length_map] <;> rfl
     ·simp
     apply Tr.cons
     ·exact .skipv (.sc (.bool false)) rfl rfl (by simp only [go_sem] <;> rfl) (by simp only [go_sem] <;> rfl)
     apply Tr.done
     ·simp only [go_sem] <;> rfl
     ·simp
    refine EvC.ct ?_
    refine EvC.a ?_
    refine EvC.rz ?_
    simp only [go_sem]
  | true =>
  rw [hq] at qt
  apply EvC.s1
  ·apply Tr.run
   ·simp only [go_sem, FA.cells, Mach.cells, List.length_map] <;> rfl
   ·simp
   apply Tr.cons
   ·exact .cg (qt)
   apply Tr.run
   ·simp only [go_sem, FA.cells, Mach.cells, List.length_map] <;> rfl
   ·simp
   apply Tr.cons
   ·exact .skipv (.sc (.bool false)) rfl rfl (by simp only [go_sem] <;> rfl) (by simp only [go_sem] <;> rfl)
   apply Tr.run
   ·simp only [go_sem, FA.cells, Mach.cells, List.length_map] <;> rfl
   ·simp
   apply Tr.cons
   ·exact .skipv (.sc (.bool false)) rfl rfl (by simp only [go_sem] <;> rfl) (by simp only [go_sem] <;> rfl)
   apply Tr.done
   ·simp only [go_sem] <;> rfl
   ·simp
  refine EvC.cs ?_
  refine EvC.seq ?_
  apply EvC.seq
  apply EvC.drd mixed
  ·simp only [go_sem, h3, h4, rowC, edgeC, n0, List.length_map] <;> rfl
  ·simp; try omega
  ·kernel_rfl
  refine EvC.cond (by simp only [go_sem] <;> rfl) (fun hc => ?_) (fun hc => ?_)
  ·have hc' : t = e.1 := by simpa using hc
   refine EvC.a ?_
   refine EvC.rz ?_
   simp only [go_sem]
   simp [hc']
  have hc' : ¬ t = e.1 := by simpa using hc
  refine EvC.skip ?_
  refine EvC.seq ?_
  apply EvC.seq
  apply EvC.trd
  ·simp only [go_sem, List.length_map] <;> rfl
  ·simp
  refine EvC.cs ?_
  refine EvC.a ?_
  refine EvC.rz ?_
  simp only [go_sem]
  simp [hc']
 ·
  obtain rfl := hat (by decide)
  have h4 : r3.2[0]? = some (r3.2[0]'(by omega)) := List.getElem?_eq_getElem (by omega)
  generalize r3.2[0]'(by omega) = e4 at h4
  rw [if_neg (show ¬ (2 : Int) = 0 by decide), if_neg (show ¬ (2 : Int) = 1 by decide), if_pos (show (2 : Int) = 2 from rfl)]
  refine EvC.a ?_ (by simp only [go_sem, kindTab, kindN, n0, n1, n2, n3, n4, Nat.reduceMul] <;> rfl)
  refine EvC.z 36 ?_
  refine EvC.seq ?_
  apply EvC.s1
  ·apply Tr.run
   ·simp only [go_sem, FA.cells, Mach.cells, List.length_map] <;> rfl
   ·simp
   apply Tr.cons
   ·exact .skipv (.sc (.bool false)) rfl rfl (by simp only [go_sem] <;> rfl) (by simp only [go_sem] <;> rfl)
   apply Tr.run
   ·simp only [go_sem, FA.cells, Mach.cells, List.length_map] <;> rfl
   ·simp
   apply Tr.cons
   ·exact .skipv (.sc (.bool false)) rfl rfl (by simp only [go_sem] <;> rfl) (by simp only [go_sem] <;> rfl)
   apply Tr.run
   ·simp only [go_sem, FA.cells, Mach.cells, List.length_map] <;> rfl
   ·simp
   apply Tr.cons
   ·exact .skipv (.sc (.bool false)) rfl rfl (by simp only [go_sem] <;> rfl) (by simp only [go_sem] <;> rfl)
   apply Tr.done
   ·simp only [go_sem] <;> rfl
   ·simp
  refine EvC.cs ?_
  refine EvC.seq ?_
  apply EvC.seq
  apply EvC.drd mixed
  ·simp only [go_sem, h3, h4, rowC, edgeC, n0, List.length_map] <;> rfl
  ·simp; try omega
  ·kernel_rfl
  refine EvC.cs ?_
  refine EvC.seq ?_
  apply EvC.seq
  apply EvC.trd
  ·simp only [go_sem, List.length_map] <;> rfl
  ·simp
  refine EvC.cs ?_
  refine EvC.a ?_
  refine EvC.rz ?_
  simp only [go_sem]
  simp
 ·
  obtain rfl := hat (by decide)
  have h4 : r3.2[0]? = some (r3.2[0]'(by omega)) := List.getElem?_eq_getElem (by omega)
  generalize r3.2[0]'(by omega) = e4 at h4
  rw [if_neg (show ¬ (3 : Int) = 0 by decide), if_neg (show ¬ (3 : Int) = 1 by decide), if_neg (show ¬ (3 : Int) = 2 by decide), if_pos (show (3 : Int) = 3 from rfl)]
  refine EvC.a ?_ (by simp only [go_sem, kindTab, kindN, n0, n1, n2, n3, n4, Nat.reduceMul] <;> rfl)
  refine EvC.z 36 ?_
  refine EvC.seq ?_
  cases hq : inN t m.rows.length with
  | false =>
    rw [hq] at qt
    apply EvC.s1
    ·apply Tr.run
     ·simp only [go_sem, FA.cells, Mach.cells, List.length_map] <;> rfl
     ·simp
     apply Tr.cons
     ·exact .cg (qt)
     apply Tr.run
     ·simp only [go_sem, FA.cells, Mach.cells, List.length_map] <;> rfl
     ·simp
     apply Tr.cons
     ·exact .skipv (.sc (.bool false)) rfl rfl (by simp only [go_sem] <;> rfl) (by simp only [go_sem] <;> rfl)
     apply Tr.run
     ·simp only [go_sem, FA.cells, Mach.cells, List.length_map] <;> rfl
     ·simp
     apply Tr.cons
     ·exact .skipv (.sc (.bool false)) rfl rfl (by simp only [go_sem] <;> rfl) (by simp only [go_sem] <;> rfl)
     apply Tr.done
     ·simp only [go_sem] <;> rfl
     ·simp
    refine EvC.ct ?_
    refine EvC.a ?_
    refine EvC.rz ?_
    simp only [go_sem]
  | true =>
  rw [hq] at qt
  apply EvC.s1
  ·apply Tr.run
   ·simp only [go_sem, FA.cells, Mach.cells, List.length_map] <;> rfl
   ·simp
   apply Tr.cons
   ·exact .cg (qt)
   apply Tr.run
   ·simp only [go_sem, FA.cells, Mach.cells, List.length_map] <;> rfl
   ·simp
   apply Tr.cons
   ·exact .skipv (.sc (.bool false)) rfl rfl (by simp only [go_sem] <;> rfl) (by simp only [go_sem] <;> rfl)
   apply Tr.run
   ·simp only [go_sem, FA.cells, Mach.cells, List.length_map] <;> rfl
   ·simp
   apply Tr.cons
   ·exact .skipv (.sc (.bool false)) rfl rfl (by simp only [go_sem] <;> rfl) (by simp only [go_sem] <;> rfl)
   apply Tr.done
   ·simp only [go_sem] <;> rfl
   ·simp
  refine EvC.cs ?_
  refine EvC.seq ?_
  apply EvC.seq
  apply EvC.drd mixed
  ·simp only [go_sem, h3, h4, rowC, edgeC, n0, List.length_map] <;> rfl
  ·simp; try omega
  ·kernel_rfl
  refine EvC.cs ?_
  refine EvC.seq ?_
  by_cases h64 : m.rows.length = 64
  ·have d : decide ((m.rows.length : Int) = 64) = true := decide_eq_true (by omega)
   apply EvC.seq
   apply EvC.trd
   ·simp only [go_sem, List.length_map, d] <;> rfl
   ·simp
   refine EvC.ct ?_
   refine EvC.a ?_
   refine EvC.rz ?_
   simp only [go_sem]
   simp [h64]
  ·have d : decide ((m.rows.length : Int) = 64) = false := decide_eq_false (by omega)
   apply EvC.seq
   apply EvC.trd
   ·simp only [go_sem, List.length_map, d] <;> rfl
   ·simp
   refine EvC.cs ?_
   refine EvC.a ?_
   refine EvC.rz ?_
   simp only [go_sem]
   simp [h64]
 ·
  rw [if_neg (show ¬ (4 : Int) = 0 by decide), if_neg (show ¬ (4 : Int) = 1 by decide), if_neg (show ¬ (4 : Int) = 2 by decide), if_neg (show ¬ (4 : Int) = 3 by decide)]
  have qd2 := defined84_is hv e.1 a
  rw [hsm]
  refine EvC.a ?_ (by simp only [go_sem, kindTab, kindN, n0, n1, n2, n3, n4, Nat.reduceMul] <;> rfl)
  refine EvC.z 36 ?_
  refine EvC.seq ?_
  cases hq : inN o m.outs with
  | false =>
    rw [hq] at qo
    apply EvC.s1
    ·apply Tr.run
     ·simp only [go_sem, FA.cells, Mach.cells, List.length_map] <;> rfl
     ·simp
     apply Tr.cons
     ·exact .skipv (.sc (.bool false)) rfl rfl (by simp only [go_sem] <;> rfl) (by simp only [go_sem] <;> rfl)
     apply Tr.run
     ·simp only [go_sem, FA.cells, Mach.cells, List.length_map] <;> rfl
     ·simp
     apply Tr.cons
     ·exact .cg (qo)
     apply Tr.run
     ·simp only [go_sem, FA.cells, Mach.cells, List.length_map] <;> rfl
     ·simp
     apply Tr.cons
     ·exact .skipv (.sc (.bool false)) rfl rfl (by simp only [go_sem] <;> rfl) (by simp only [go_sem] <;> rfl)
     apply Tr.done
     ·simp only [go_sem] <;> rfl
     ·simp
    refine EvC.ct ?_
    refine EvC.a ?_
    refine EvC.rz ?_
    simp only [go_sem]
  | true =>
  rw [hq] at qo
  cases hq2 : definedB m e.1 a with
  | false =>
    rw [hq2] at qd2
    apply EvC.s1
    ·apply Tr.run
     ·simp only [go_sem, FA.cells, Mach.cells, List.length_map] <;> rfl
     ·simp
     apply Tr.cons
     ·exact .skipv (.sc (.bool false)) rfl rfl (by simp only [go_sem] <;> rfl) (by simp only [go_sem] <;> rfl)
     apply Tr.run
     ·simp only [go_sem, FA.cells, Mach.cells, List.length_map] <;> rfl
     ·simp
     apply Tr.cons
     ·exact .cg (qo)
     apply Tr.run
     ·simp only [go_sem, FA.cells, Mach.cells, List.length_map] <;> rfl
     ·simp
     apply Tr.cons
     ·exact .cg (qd2)
     apply Tr.done
     ·simp only [go_sem] <;> rfl
     ·simp
    refine EvC.ct ?_
    refine EvC.a ?_
    refine EvC.rz ?_
    simp only [go_sem]
  | true =>
  rw [hq2] at qd2
  obtain ⟨r4, k1, k2, _⟩ := step_in hv hq2
  have hr34 : r4 = r3 := by rw [h3] at k1; exact (Option.some.inj k1).symm
  subst hr34
  rw [hsm] at k2
  generalize (r4.2[a.toNat]?).getD (-1, -1) = e4 at k2
  obtain ⟨_, b3, _⟩ := definedB_iff.1 hq2
  apply EvC.s1
  ·apply Tr.run
   ·simp only [go_sem, FA.cells, Mach.cells, List.length_map] <;> rfl
   ·simp
   apply Tr.cons
   ·exact .skipv (.sc (.bool false)) rfl rfl (by simp only [go_sem] <;> rfl) (by simp only [go_sem] <;> rfl)
   apply Tr.run
   ·simp only [go_sem, FA.cells, Mach.cells, List.length_map] <;> rfl
   ·simp
   apply Tr.cons
   ·exact .cg (qo)
   apply Tr.run
   ·simp only [go_sem, FA.cells, Mach.cells, List.length_map] <;> rfl
   ·simp
   apply Tr.cons
   ·exact .cg (qd2)
   apply Tr.done
   ·simp only [go_sem] <;> rfl
   ·simp
  refine EvC.cs ?_
  refine EvC.seq ?_
  apply EvC.seq
  apply EvC.drd mixed
  ·simp only [go_sem, h3, k2, rowC, edgeC, n0, List.length_map] <;> rfl
  ·simp; try omega
  ·kernel_rfl
  refine EvC.cond (by simp only [go_sem] <;> rfl) (fun hc => ?_) (fun hc => ?_)
  ·have hc' : o = e4.2 := by simpa using hc
   refine EvC.a ?_
   refine EvC.rz ?_
   simp only [go_sem]
   simp [hc']
  have hc' : ¬ o = e4.2 := by simpa using hc
  refine EvC.skip ?_
  refine EvC.seq ?_
  by_cases h64 : m.rows.length = 64
  ·have d : decide ((m.rows.length : Int) = 64) = true := decide_eq_true (by omega)
   apply EvC.seq
   apply EvC.trd
   ·simp only [go_sem, List.length_map, d] <;> rfl
   ·simp
   refine EvC.ct ?_
   refine EvC.a ?_
   refine EvC.rz ?_
   simp only [go_sem]
   simp [h64, hc']
  ·have d : decide ((m.rows.length : Int) = 64) = false := decide_eq_false (by omega)
   apply EvC.seq
   apply EvC.trd
   ·simp only [go_sem, List.length_map, d] <;> rfl
   ·simp
   refine EvC.cs ?_
   refine EvC.a ?_
   refine EvC.rz ?_
   simp only [go_sem]
   simp [h64, hc']
theorem clone80_is (es : List (Int × Int)) (c : Cp) (hl : es.length < 1000000) : PureIs prog 77 [.sl false (es.map edgeC) c] (.sl false (es.map edgeC) .unk) := by
 refine PureIs.of1 1 [2, 4] func77 ntmps77 results77 fun _ => ?_
 refine EvC.a ?_
 refine EvC.seq ?_
 refine EvC.a ?_
 refine EvC.cs ?_
 have hr1 : room es.length 16 = true := by simp only [room_eq, decide_eq_true_eq]; omega
 have hr3 : ∀ a b : Int, (a, b) ∈ es → (edgeC (a, b)).length = 2 := fun _ _ _ => rfl
 refine EvC.a ?_ (by simp only [go_sem, List.length_map] <;> rfl) (by simp [hr1]; try exact hr3)
 refine EvC.frz 5 (by simp only [go_sem, List.length_map] <;> rfl) ?_
 refine EvC.ret ⟨.inl rfl, _, (by simp only [go_sem, List.length_map] <;> rfl), ?_, by simp [AV.noref, norefs_edges]⟩
 simp only [go_sem, List.length_map]
theorem clone80_new (es : List (Int × Int)) (c : Cp) (hl : es.length < 1000000) (h0 : es.length ≠ 0) : PureNew prog 77 [.sl false (es.map edgeC) c] 2 (es.map edgeC) := by
 refine PureNew.of (nv := 1) (hid := [2, 4]) func77 rfl (by kernel_rfl) (by simp [ntmps77]) fun _ => ?_
 rw [ntmps77, results77]
 refine EvC.a ?_
 refine EvC.seq ?_
 refine EvC.a ?_
 refine EvC.cs ?_
 have hr1 : room es.length 16 = true := by simp only [room_eq, decide_eq_true_eq]; omega
 have hr3 : ∀ a b : Int, (a, b) ∈ es → (edgeC (a, b)).length = 2 := fun _ _ _ => rfl
 refine EvC.a ?_ (by simp only [go_sem, List.length_map] <;> rfl) (by simp [hr1]; try exact hr3)
 refine EvC.ret ⟨.inl rfl, _, 5, (by simp only [go_sem, List.length_map] <;> rfl), .inl ?_, ?_, by simpa using h0, norefs_edges es⟩
 ·simp only [List.length_map]
 ·rfl
theorem clip79_is (es : List (Int × Int)) (c : Cp) : PureIs prog 76 [.sl false (es.map edgeC) c] (.sl false (es.map edgeC) .unk) := by
 have hr3 : ∀ a b : Int, (a, b) ∈ es → (edgeC (a, b)).length = 2 := fun _ _ _ => rfl
 have key : PureIs prog 76 [.sl false (es.map edgeC) c] (.sl false (es.map edgeC) .full) := by
  refine PureIs.of1 1 [2] func76 ntmps76 results76 fun _ => ?_
  refine EvC.a ?_
  refine EvC.a ?_ (by simp only [go_sem, List.length_map, Int.toNat_natCast, List.drop_zero] <;> rfl) (by simp; try exact hr3)
  refine EvC.ret ⟨.inl rfl, _, (by simp only [go_sem] <;> rfl), ?_, by simp [AV.noref, norefs_edges]⟩
  simp only [go_sem]
  rw [List.take_of_length_le (by simp)]
 have h := key.weakR
 rwa [show (AV.sl false (es.map edgeC) Cp.full).unk = .sl false (es.map edgeC) .unk from by
  simp only [AV.unk]; congr 1; exact unkss_map edgeC (fun x => rfl) es] at h
theorem clip79_clips : Clips prog 76 := fun a n c h hlt => by
 refine PureIs.of1 1 [2] func76 ntmps76 results76 fun _ => ?_
 refine EvC.a ?_
 refine EvC.a ?_ (by simp only [go_sem, Int.toNat_natCast] <;> rfl) (by simp; try omega)
 refine EvC.rz ?_
 simp only [go_sem]
def rowAt (m : Mach) (s : Int) : List (Int × Int) := ((m.rows[s.toNat]?).map (·.2)).getD []
def copyR (m : Mach) : List Row := m.rows.map fun r => (false, r.2)
def putR (m : Mach) (s i : Int) (e : Int × Int) : List Row := (copyR m).set s.toNat (false, (rowAt m s).set i.toNat e)
def mutRows (m : Mach) (f : FA) : List Row :=
 if f.kind = 0 then putR m f.state f.input ((stepM m f.state f.input).1, f.out)
 else if f.kind = 1 then putR m f.state f.input (f.to, (stepM m f.state f.input).2)
 else if f.kind = 2 then putR m f.state f.input (-1, -1)
 else if f.kind = 3 then putR m f.state f.input ((m.rows.length : Int), (stepM m f.state f.input).2) ++ [(false, rowAt m f.to)]
 else putR m f.state f.input ((m.rows.length : Int), (stepM m f.state f.input).2) ++ [(false, (rowAt m (stepM m f.state f.input).1).set f.at'.toNat ((stepM m (stepM m f.state f.input).1 f.at').1, f.out))]
def mutF (m : Mach) (f : FA) : Mach := ⟨m.ins, m.outs, false, mutRows m f⟩
def putRaw (m : Mach) (s i : Int) (e : Int × Int) : List (List AV) := ((copyR m).map rowC).set s.toNat [.sl false (((rowAt m s).set i.toNat e).map edgeC) .full]
def rawRows (m : Mach) (f : FA) : List (List AV) :=
 if f.kind = 0 then putRaw m f.state f.input ((stepM m f.state f.input).1, f.out)
 else if f.kind = 1 then putRaw m f.state f.input (f.to, (stepM m f.state f.input).2)
 else if f.kind = 2 then putRaw m f.state f.input (-1, -1)
 else if f.kind = 3 then putRaw m f.state f.input ((m.rows.length : Int), (stepM m f.state f.input).2) ++ [[.sl false ((rowAt m f.to).map edgeC) .unk]]
 else putRaw m f.state f.input ((m.rows.length : Int), (stepM m f.state f.input).2) ++ [[.sl false (((rowAt m (stepM m f.state f.input).1).set f.at'.toNat ((stepM m (stepM m f.state f.input).1 f.at').1, f.out)).map edgeC) .full]]
theorem unk_edges (b : Bool) (es : List (Int × Int)) (c : Cp) : AV.unks [.sl b (es.map edgeC) c] = rowC (b, es) := by
 have h : AV.unkss (es.map edgeC) = es.map edgeC := unkss_map edgeC (fun x => rfl) es
 simp only [AV.unks, AV.unk, h]; rfl
theorem unkss_rows (l : List Row) : AV.unkss (l.map rowC) = l.map rowC := unkss_map rowC (fun x => unk_edges x.1 x.2 .unk) l
theorem putRaw_unk (m : Mach) (s i : Int) (e : Int × Int) : AV.unkss (putRaw m s i e) = (putR m s i e).map rowC := by
 unfold putRaw putR
 rw [unkss_eq, List.map_set, unk_edges, ← unkss_eq, unkss_rows, List.map_set]
theorem rawRows_unk (m : Mach) (f : FA) : AV.unkss (rawRows m f) = (mutRows m f).map rowC := by
 have app : ∀ (A B : List (List AV)), AV.unkss (A ++ B) = AV.unkss A ++ AV.unkss B := fun A B => by simp [unkss_eq]
 unfold rawRows mutRows
 split
 ·exact putRaw_unk _ _ _ _
 split
 ·exact putRaw_unk _ _ _ _
 split
 ·exact putRaw_unk _ _ _ _
 split
 ·rw [app, putRaw_unk, List.map_append]
  congr 1
  simp only [AV.unkss, unk_edges]; rfl
 ·rw [app, putRaw_unk, List.map_append]
  congr 1
  simp only [AV.unkss, unk_edges]; rfl
def applyRaw (m : Mach) (f : FA) : AV :=
 if checkF m f = 0 then .tu [.ag [.sc (.int .i64 m.ins), .sc (.int .i64 m.outs), .sl false (rawRows m f) .full], .sc (.int .i64 0)] else .tu [.ag [.sc (.int .i64 0), .sc (.int .i64 0), .sl true [] .zer], .sc (.int .i64 (checkF m f))]
def applyR (m : Mach) (f : FA) : AV :=
 if checkF m f = 0 then .tu [.ag (mutF m f).cells, .sc (.int .i64 0)] else .tu [.ag [.sc (.int .i64 0), .sc (.int .i64 0), .sl true [] .unk], .sc (.int .i64 (checkF m f))]
theorem applyRaw_unk (m : Mach) (f : FA) : (applyRaw m f).unk = applyR m f := by
 unfold applyRaw applyR
 split
 ·simp only [AV.unk, AV.unks, rawRows_unk]; rfl
 ·simp only [AV.unk, AV.unks, AV.unkss]
def NoNil (m : Mach) : Prop := ∀ r ∈ m.rows, r.1 = true → r.2 = []
theorem NoNil.row {m : Mach} (hv : Valid m) (h : NoNil m) {r : Row} (hr : r ∈ m.rows) : r = (false, r.2) := by
 obtain ⟨b, l⟩ := r
 cases b with
 | false => rfl
 | true =>
   have h1 := h _ hr rfl
   have h2 := (hv.row _ hr).1
   have h3 := hv.ins
   simp only at h1 h2
   rw [h1] at h2
   simp at h2
   omega
def rowsK (m : Mach) (k S : Nat) (v : AV) : List (List AV) := (((m.rows.take k).map fun r => (false, r.2)).map rowC).set S [v]
theorem rowsK_len {m : Mach} {k S : Nat} {v : AV} (h : k ≤ m.rows.length) : (rowsK m k S v).length = k := by simp [rowsK]; omega
theorem rowsK_other {m : Mach} {k S : Nat} {v : AV} {r : Row} (h : m.rows[k]? = some r) (hk : k ≠ S) : rowsK m k S v ++ [rowC (false, r.2)] = rowsK m (k + 1) S v := by
 obtain ⟨hi, he⟩ := List.getElem?_eq_some_iff.1 h
 have hl : (((m.rows.take k).map fun r => ((false, r.2) : Row)).map rowC).length = k := by simp; omega
 unfold rowsK
 rw [List.take_succ_eq_append_getElem hi, he, List.map_append, List.map_append]
 generalize ((m.rows.take k).map fun r => ((false, r.2) : Row)).map rowC = A at hl
 by_cases hS : S < k
 ·rw [List.set_append_left _ _ (by omega)]; rfl
 ·rw [List.set_append_right _ _ (by omega), List.set_eq_of_length_le (by omega : A.length ≤ S), List.set_eq_of_length_le (by simp; omega)]; rfl
theorem rowsK_self {m : Mach} {S : Nat} {v w : AV} {r : Row} (h : m.rows[S]? = some r) : rowsK m S S w ++ [[v]] = rowsK m (S + 1) S v := by
 obtain ⟨hi, he⟩ := List.getElem?_eq_some_iff.1 h
 have hl : (((m.rows.take S).map fun r => ((false, r.2) : Row)).map rowC).length = S := by simp; omega
 unfold rowsK
 rw [List.take_succ_eq_append_getElem hi, he, List.map_append, List.map_append]
 generalize ((m.rows.take S).map fun r => ((false, r.2) : Row)).map rowC = A at hl
 rw [List.set_append_right _ _ (by omega), List.set_eq_of_length_le (by omega : A.length ≤ S), hl, Nat.sub_self]
 rfl
theorem rowC_norefs (r : Row) : AV.norefs (rowC r) = true := by simp [rowC, AV.norefs, AV.noref, norefs_edges]
theorem rowsK_get {m : Mach} {k S : Nat} {v : AV} (h : S < k) (hk : k ≤ m.rows.length) : (rowsK m k S v)[S]? = some [v] := by
 unfold rowsK
 rw [List.getElem?_set_self (by simp; omega)]
theorem rowsK_norefs {m : Mach} {k S : Nat} {v : AV} (h : S < k) (hk : k ≤ m.rows.length) (hv : v.noref = false) : (rowsK m k S v).all AV.norefs = false := by
 rw [List.all_eq_false]
 exact ⟨[v], List.mem_of_getElem? (rowsK_get h hk), by simp [AV.norefs, hv]⟩
theorem rowC_ren (K : List (Nat × Nat)) (r : Row) : (rowC r).map (AV.ren K) = rowC r := by
 have h : (AV.sl r.1 (r.2.map edgeC) Cp.unk).noref = true := by simp [AV.noref, norefs_edges]
 simp [rowC, AV.ren, h]
theorem rowsK_ren (m : Mach) (k S : Nat) (v : AV) (K : List (Nat × Nat)) : (rowsK m k S v).map (fun c => c.map (AV.ren K)) = rowsK m k S (v.ren K) := by
 unfold rowsK
 rw [List.map_set, List.map_map]
 have e : List.map ((fun c => c.map (AV.ren K)) ∘ rowC) ((m.rows.take k).map fun r => ((false, r.2) : Row)) = List.map rowC ((m.rows.take k).map fun r => ((false, r.2) : Row)) := List.map_congr_left fun r _ => rowC_ren K r
 rw [e]; rfl
theorem clip81r_is (es : List (List AV)) (c : Cp) (h1 : ∀ c ∈ es, c.length = 1) (hn : es.all AV.norefs = true) : PureIs prog 78 [.sl false es c] (.sl false es .full) := by
 refine PureIs.of1 1 [2] func78 ntmps78 results78 fun _ => ?_
 refine EvC.a ?_
 refine EvC.a ?_ (by simp only [go_sem, Int.toNat_natCast, List.drop_zero, List.take_length] <;> rfl) (by simp; exact h1)
 refine EvC.ret ⟨.inl rfl, _, (by simp only [go_sem] <;> rfl), ?_, by simp [AV.noref, hn]⟩
 simp only [go_sem]
set_option maxHeartbeats 8000000 in
theorem apply71_is {m : Mach} (hv : Valid m) (hc0 : checkM m = 0) (hnn : NoNil m) (f : FA) : PureIs prog 38 [.ag m.cells, .ag f.cells] (applyR m f) := by
 rw [← applyRaw_unk]
 refine PureIs.weakR ?_
 have q0 := check78_is hv hc0 f
 have hkf : checkF m f = 0 → faultB m f = true := fun h => by
  unfold checkF at h
  split at h
  ·assumption
  ·cases h
 unfold applyRaw
 obtain ⟨kd, s, i, t, a, o⟩ := f
 refine PureIs.of1 8 [9, 10, 11, 12, 17, 23, 24, 25, 26, 34, 48, 53, 67, 87, 94, 101] func38 ntmps38 results38 fun _ => ?_
 refine EvC.a ?_ (by simp only [go_sem, Mach.cells, FA.cells] <;> rfl)
 refine EvC.z 0 ?_
 refine EvC.z 1 ?_
 refine EvC.seq ?_
 apply EvC.s1
 ·apply Tr.run
  ·simp only [go_sem, Mach.cells, FA.cells] <;> rfl
  ·simp
  apply Tr.cons
  ·exact .ca (q0)
  apply Tr.done
  ·simp only [go_sem] <;> rfl
  ·simp
 refine EvC.a ?_
 refine EvC.cond (by simp only [go_sem] <;> rfl) (fun hc => ?_) (fun hc => ?_)
 ·
  have hc' : ¬ checkF m ⟨kd, s, i, t, a, o⟩ = 0 := by simpa using hc
  refine EvC.a ?_
  rw [if_neg hc']
  refine EvC.rz ?_
  simp only [go_sem]
 have hc' : checkF m ⟨kd, s, i, t, a, o⟩ = 0 := by simpa using hc
 rw [if_pos hc']
 have hfb := hkf hc'
 clear hc hkf
 unfold faultB at hfb
 simp only [Bool.and_eq_true] at hfb
 obtain ⟨hp, hd, hkb⟩ := hfb
 obtain ⟨r, h1, h2, he⟩ := step_in hv hd
 obtain ⟨b1, b2, _⟩ := definedB_iff.1 hd
 have hkd := plainB_kind hp
 simp only at hkd
 obtain ⟨S, hS⟩ : ∃ S : Nat, S = s.toNat := ⟨_, rfl⟩
 have hSl : S < m.rows.length := by omega
 rw [← hS] at h1
 have hn1 := hv.rows
 have hro := hnn.row hv (List.mem_of_getElem? h1)
 have hrl := (hv.row _ (List.mem_of_getElem? h1)).1
 have hi1 := hv.ins
 refine EvC.skip ?_
 refine EvC.a ?_
 refine EvC.a ?_
 refine EvC.ownC 11 2 1 (by simp only [go_sem] <;> rfl) ?_
 refine EvC.thaw 15 (by simp only [go_sem] <;> rfl) ?_
 refine EvC.seq ?_
 refine EvC.a ?_ (by simp only [go_sem, List.length_map] <;> rfl)
 refine EvC.block ?_
 obtain ⟨n, hn⟩ : ∃ n, n = r.2.length := ⟨_, rfl⟩
 have hn0 : n ≠ 0 := by omega
 obtain ⟨memK, hmK⟩ : ∃ memK : Nat → Mem, memK = fun k => (0, RObj.cells [.sc (.int .i64 0), .sc (.int .i64 0), .sl true [] .zer]) :: (1, .cells [.sc (.int .i64 m.ins), .sc (.int .i64 m.outs), .tl 2 k (decide (k = 0))]) :: (2, .arr 1 (rowsK m k S (.tv 3 n 0 n (.val n))) false) :: (if S < k then [(3, .arr 2 (r.2.map edgeC) false)] else []) := ⟨_, rfl⟩
 have hlo : ∀ k, k ≤ S → memK k = [(0, RObj.cells [.sc (.int .i64 0), .sc (.int .i64 0), .sl true [] .zer]), (1, .cells [.sc (.int .i64 m.ins), .sc (.int .i64 m.outs), .tl 2 k (decide (k = 0))]), (2, .arr 1 (((m.rows.take k).map fun r => ((false, r.2) : Row)).map rowC) false)] := fun k hk => by
  rw [hmK]
  simp only
  rw [if_neg (by omega), rowsK, List.set_eq_of_length_le (by simp; omega)]
 have hhi : ∀ k, S < k → memK k = [(0, RObj.cells [.sc (.int .i64 0), .sc (.int .i64 0), .sl true [] .zer]), (1, .cells [.sc (.int .i64 m.ins), .sc (.int .i64 m.outs), .tl 2 k (decide (k = 0))]), (2, .arr 1 (rowsK m k S (.tv 3 n 0 n (.val n))) false), (3, .arr 2 (r.2.map edgeC) false)] := fun k hk => by
  rw [hmK]
  simp only
  rw [if_pos hk]
 refine EvC.loopS (σ := Nat) (fun k => ⟨[(2, .ia [.sc (.int .i64 m.ins), .sc (.int .i64 m.outs), .sl m.nl (m.rows.map rowC) .unk]), (3, .ia [.sc (.int .i64 kd), .sc (.int .i64 s), .sc (.int .i64 i), .sc (.int .i64 t), .sc (.int .i64 a), .sc (.int .i64 o)]), (4, .rf 0 0), (7, .rf 1 0), (23, .sl m.nl (m.rows.map rowC) .unk), (24, .sc (.int .i64 m.rows.length)), (25, .sc (.int .i64 k))], [], memK k, 4⟩) (fun k => m.rows.length - k) (fun k => k ≤ m.rows.length) [2, 3, 4, 7, 23, 24, 25] 4 ?_ ?_
 ·exact ⟨[(2, 0), (11, 1), (15, 2)], 0, rfl, (by rw [hlo 0 (by omega)]; simp only [go_sem, Int.natCast_zero, List.take_zero, List.map_nil] <;> rfl), Nat.zero_le _⟩
 intro k hk1
 by_cases hkl : k < m.rows.length
 rotate_left
 ·
  obtain rfl : k = m.rows.length := by omega
  rw [hhi m.rows.length hSl]
  have dk : decide ((m.rows.length : Int) < m.rows.length) = false := decide_eq_false (by omega)
  refine EvC.a ?_
  refine EvC.seq ?_
  refine EvC.cf ?_ (by simp only [go_sem, dk] <;> rfl)
  refine EvC.exit ?_
  have hNd : decide (m.rows.length = 0) = false := decide_eq_false (by omega)
  have hg := rowsK_get (v := .tv 3 n 0 n (.val n)) hSl (Nat.le_refl m.rows.length)
  have hRl := rowsK_len (S := S) (v := .tv 3 n 0 n (.val n)) (Nat.le_refl m.rows.length)
  have hel : (r.2.map edgeC).length = n := by rw [List.length_map]; exact hn.symm
  have hin : i.toNat < n := by omega
  apply EvC.seq
  apply EvC.drd mixed
  ·simp only [go_sem, hg, hRl, hel, ← hS, hNd] <;> rfl
  ·simp; try omega
  ·kernel_rfl
  have hrowAt : rowAt m s = r.2 := by unfold rowAt; rw [← hS, h1]; rfl
  refine EvC.mergeC (α := List (Int × Int) × List (List AV)) (fun p => ⟨[(4, .rf 0 0), (7, .rf 1 0)], [], [(0, .cells [.sc (.int .i64 0), .sc (.int .i64 0), .sl true [] .zer]), (1, .cells [.sc (.int .i64 m.ins), .sc (.int .i64 m.outs), .tl 2 (m.rows.length + p.2.length) false]), (2, .arr 1 (rowsK m m.rows.length S (.tv 3 n 0 n (.val n)) ++ p.2) false), (3, .arr 2 (p.1.map edgeC) false)], 4⟩)
   (fun p => p.1.length = n ∧ p.2.all AV.norefs = true ∧ (∀ c ∈ p.2, c.length = 1) ∧ rowsK m m.rows.length S (.sl false (p.1.map edgeC) .full) ++ p.2 = rawRows m ⟨kd, s, i, t, a, o⟩) ?_ ?_
  rotate_left
  ·
   rintro ⟨es, ex⟩ ⟨hes, hex1, hex2, hraw⟩
   simp only at hes hex1 hex2 hraw ⊢
   have hel2 : (es.map edgeC).length = n := by rw [List.length_map]; exact hes
   have hRe : (rowsK m m.rows.length S (.tv 3 n 0 n (.val n)) ++ ex).length = m.rows.length + ex.length := by rw [List.length_append, hRl]
   have hge : (rowsK m m.rows.length S (.tv 3 n 0 n (.val n)) ++ ex)[S]? = some [.tv 3 n 0 n (.val n)] := by rw [List.getElem?_append_left (by rw [hRl]; exact hSl)]; exact hg
   have hse : (rowsK m m.rows.length S (.tv 3 n 0 n (.val n)) ++ ex).set S [.sl false (es.map edgeC) .full] = rawRows m ⟨kd, s, i, t, a, o⟩ := by
    rw [← hraw, List.set_append_left _ _ (by rw [hRl]; exact hSl)]
    unfold rowsK
    rw [List.set_set]
   generalize rowsK m m.rows.length S (.tv 3 n 0 n (.val n)) ++ ex = RW at hRe hge hse
   have hraw1 : (rawRows m ⟨kd, s, i, t, a, o⟩).all AV.norefs = true := by
    rw [← hraw, List.all_append, hex1, Bool.and_true, List.all_eq_true]
    intro c hc
    rcases List.mem_or_eq_of_mem_set hc with h | rfl
    ·obtain ⟨r, _, rfl⟩ := List.mem_map.1 h
     exact rowC_norefs r
    ·simp [AV.norefs, AV.noref, norefs_edges]
   have hraw2 : ∀ c ∈ rawRows m ⟨kd, s, i, t, a, o⟩, c.length = 1 := by
    rw [← hraw]
    intro c hc
    rcases List.mem_append.1 hc with h | h
    ·rcases List.mem_or_eq_of_mem_set h with h | rfl
     ·obtain ⟨r, _, rfl⟩ := List.mem_map.1 h
      rfl
     ·rfl
    ·exact hex2 c h
   have hraw3 : (rawRows m ⟨kd, s, i, t, a, o⟩).length = m.rows.length + ex.length := by
    rw [← hraw, List.length_append, rowsK_len (Nat.le_refl _)]
   have qc := clip81r_is (rawRows m ⟨kd, s, i, t, a, o⟩) .unk hraw2 hraw1
   clear hraw
   generalize rawRows m ⟨kd, s, i, t, a, o⟩ = RR at *
   refine EvC.frz 3 (by simp only [go_sem, hel2] <;> rfl) ?_
   refine EvC.snapE 2 S (by simp only [go_sem, hge, hel2, hse] <;> rfl) ?_
   refine EvC.frzD 2 (by simp only [go_sem, hraw1, hraw3] <;> rfl) ?_
   apply EvC.s1
   ·apply Tr.run
    ·simp only [go_sem] <;> rfl
    ·simp
    apply Tr.cons
    ·exact .call rfl rfl (by simp only [go_sem] <;> rfl) (by simp only [go_sem] <;> rfl) (by simp only [go_sem, hraw1] <;> rfl) (by simp only [go_sem] <;> rfl) (by simp only [go_sem] <;> rfl) (qc)
    apply Tr.done
    ·simp only [go_sem] <;> rfl
    ·simp
   refine EvC.a ?_
   refine EvC.ret ⟨.inl rfl, _, (by simp only [go_sem] <;> rfl), ?_, by simp [AV.noref, AV.norefs, hraw1]⟩
   simp only [go_sem]
  ·
   have hfin : ∀ (es : List (Int × Int)) (ex : List (List AV)), es.length = n → rowsK m m.rows.length S (.sl false (es.map edgeC) .full) = ((copyR m).map rowC).set s.toNat [.sl false (es.map edgeC) .full] := fun es ex _ => by
    unfold rowsK copyR
    rw [List.take_length, ← hS]
   have hge : (r.2.map edgeC)[i.toNat]? = some (edgeC (stepM m s i)) := by rw [List.getElem?_map, h2]; rfl
   have hsetE : ∀ x y : Int, (r.2.map edgeC).set i.toNat [.sc (.int .i64 x), .sc (.int .i64 y)] = (r.2.set i.toNat (x, y)).map edgeC := fun x y => by rw [List.map_set]; rfl
   have hset2 : ∀ x : Int × Int, (r.2.set i.toNat x).length = n := fun x => by rw [List.length_set]; exact hn.symm
   have hnr : (rowsK m m.rows.length S (.tv 3 n 0 n (.val n))).all AV.norefs = false := rowsK_norefs hSl (Nat.le_refl _) rfl
   have hrn := rowsK_ren m m.rows.length S (.tv 3 n 0 n (.val n)) [(0, 0), (1, 1), (2, 2), (3, 3)]
   refine EvC.a ?_
   refine EvC.block ?_
   have hraw : ∀ e' : Int × Int, rowsK m m.rows.length S (.sl false ((r.2.set i.toNat e').map edgeC) .full) = putRaw m s i e' := fun e' => by
    unfold putRaw
    rw [hfin _ [] (hset2 e'), hrowAt]
   generalize hE : stepM m s i = e at *
   rcases hkd with rfl | rfl | rfl | rfl | rfl
   ·
    refine EvC.a ?_
    refine EvC.ct ?_
    refine EvC.b ?_ (by simp only [go_sem, hge, edgeC, hel, hsetE] <;> rfl) (by simp [edgeC])
    refine ⟨rfl, (r.2.set i.toNat (e.1, o), []), ⟨hset2 _, rfl, (fun _ h => by cases h), ?_⟩, fun c Q h => ?_⟩
    ·rw [List.append_nil, hraw, rawRows, if_pos rfl, hE]
    refine EvC.gcE [4, 7] [(0, 0), (1, 1), (2, 2), (3, 3)] 4 rfl (by simp only [go_sem, hnr, hrn, Bool.and_false, List.append_nil, List.length_nil] <;> rfl) h
   ·
    refine EvC.a ?_
    refine EvC.cf ?_
    refine EvC.a ?_
    refine EvC.ct ?_
    refine EvC.b ?_ (by simp only [go_sem, hge, edgeC, hel, hsetE] <;> rfl) (by simp [edgeC])
    refine ⟨rfl, (r.2.set i.toNat (t, e.2), []), ⟨hset2 _, rfl, (fun _ h => by cases h), ?_⟩, fun c Q h => ?_⟩
    ·rw [List.append_nil, hraw, rawRows, if_neg (show ¬ (1 : Int) = 0 by decide), if_pos (show (1 : Int) = 1 from rfl), hE]
    refine EvC.gcE [4, 7] [(0, 0), (1, 1), (2, 2), (3, 3)] 4 rfl (by simp only [go_sem, hnr, hrn, Bool.and_false, List.append_nil, List.length_nil] <;> rfl) h
   ·
    refine EvC.a ?_
    refine EvC.cf ?_
    refine EvC.a ?_
    refine EvC.cf ?_
    refine EvC.a ?_
    refine EvC.ct ?_
    refine EvC.b ?_ (by simp only [go_sem, hge, edgeC, hel, hsetE] <;> rfl) (by simp [edgeC])
    refine ⟨rfl, (r.2.set i.toNat (-1, -1), []), ⟨hset2 _, rfl, (fun _ h => by cases h), ?_⟩, fun c Q h => ?_⟩
    ·rw [List.append_nil, hraw, rawRows, if_neg (show ¬ (2 : Int) = 0 by decide), if_neg (show ¬ (2 : Int) = 1 by decide), if_pos (show (2 : Int) = 2 from rfl)]
    refine EvC.gcE [4, 7] [(0, 0), (1, 1), (2, 2), (3, 3)] 4 rfl (by simp only [go_sem, hnr, hrn, Bool.and_false, List.append_nil, List.length_nil] <;> rfl) h
   ·
    have htn : 0 ≤ t ∧ t < m.rows.length := by
     unfold kindB at hkb
     rw [if_neg (show ¬ (3 : Int) = 0 by decide), if_neg (show ¬ (3 : Int) = 1 by decide), if_neg (show ¬ (3 : Int) = 2 by decide), if_pos (show (3 : Int) = 3 from rfl)] at hkb
     simpa [inN] using hkb
    have h5 : m.rows[t.toNat]? = some (m.rows[t.toNat]'(by omega)) := List.getElem?_eq_getElem (by omega)
    have h5m := List.getElem_mem (show t.toNat < m.rows.length by omega)
    have h5n := hnn.row hv h5m
    have h5r := (hv.row _ h5m).1
    have hrt : rowAt m t = (m.rows[t.toNat]'(by omega)).2 := by unfold rowAt; rw [h5]; rfl
    generalize m.rows[t.toNat]'(by omega) = r5 at h5 h5n h5r hrt
    obtain ⟨b5, e5⟩ := r5
    simp only [Prod.mk.injEq] at h5n h5r hrt
    obtain ⟨rfl, _⟩ := h5n
    have p1 := clone80_is e5 .unk (by omega)
    have p2 := clip79_is e5 .unk
    have hr8 : room (m.rows.length + 1) 24 = true := by simp only [room_eq, decide_eq_true_eq]; omega
    refine EvC.a ?_
    refine EvC.cf ?_
    refine EvC.a ?_
    refine EvC.cf ?_
    refine EvC.a ?_
    refine EvC.cf ?_
    refine EvC.a ?_
    refine EvC.seq ?_
    refine EvC.a ?_
    refine EvC.cs ?_
    apply EvC.s1
    ·apply Tr.run
     ·simp only [go_sem, h5, rowC, List.length_map] <;> rfl
     ·simp; try omega
     apply Tr.cons
     ·exact .ca (p1)
     apply Tr.run
     ·simp only [go_sem, h5, rowC, List.length_map] <;> rfl
     ·simp; try omega
     apply Tr.cons
     ·exact .ca (p2)
     apply Tr.done
     ·simp only [go_sem] <;> rfl
     ·simp
    refine EvC.seq ?_
    refine EvC.a ?_
    refine EvC.cs ?_
    refine EvC.a ?_ (by simp only [go_sem, hge, edgeC, hel, hsetE, List.length_map] <;> rfl) (by simp [edgeC])
    refine EvC.b ?_ (by simp only [go_sem, hRl, hr8] <;> rfl)
    have hex1 : ([[.sl false (e5.map edgeC) .unk]] : List (List AV)).all AV.norefs = true := by simp [AV.norefs, AV.noref, norefs_edges]
    have hex3 : ([[.sl false (e5.map edgeC) .unk]] : List (List AV)).map (fun c => c.map (AV.ren [(0, 0), (1, 1), (2, 2), (3, 3)])) = [[.sl false (e5.map edgeC) .unk]] := by simp [AV.ren, AV.noref, norefs_edges]
    generalize hXX : ([[.sl false (e5.map edgeC) .unk]] : List (List AV)) = XX at hex1 hex3 ⊢
    have hXl : XX.length = 1 := by rw [← hXX]; rfl
    refine ⟨rfl, (r.2.set i.toNat ((m.rows.length : Int), e.2), XX), ⟨hset2 _, hex1, (fun c hc => by subst hXX; simp only [List.mem_singleton] at hc; rw [hc]; rfl), ?_⟩, fun c Q h => ?_⟩
    ·rw [hraw, rawRows, if_neg (show ¬ (3 : Int) = 0 by decide), if_neg (show ¬ (3 : Int) = 1 by decide), if_neg (show ¬ (3 : Int) = 2 by decide), if_pos (show (3 : Int) = 3 from rfl), hE, hrt, hXX]
    rw [hXl] at h
    refine EvC.gcE [4, 7] [(0, 0), (1, 1), (2, 2), (3, 3)] 4 rfl (by simp only [go_sem, hnr, hrn, List.all_append, Bool.false_and, hex1, hex3, List.map_append] <;> rfl) h
   ·
    have hd2 : definedB m e.1 a = true := by
     unfold kindB at hkb
     rw [if_neg (show ¬ (4 : Int) = 0 by decide), if_neg (show ¬ (4 : Int) = 1 by decide), if_neg (show ¬ (4 : Int) = 2 by decide), if_neg (show ¬ (4 : Int) = 3 by decide)] at hkb
     simp only [Bool.and_eq_true] at hkb
     rw [hE] at hkb
     exact hkb.2.1
    obtain ⟨r5, h5, h5i, _⟩ := step_in hv hd2
    obtain ⟨c1, c2, _⟩ := definedB_iff.1 hd2
    have h5m := List.mem_of_getElem? h5
    have h5n := hnn.row hv h5m
    have h5r := (hv.row _ h5m).1
    have hrt : rowAt m e.1 = r5.2 := by unfold rowAt; rw [h5]; rfl
    obtain ⟨b5, e5⟩ := r5
    simp only [Prod.mk.injEq] at h5n h5r hrt h5i
    obtain ⟨rfl, _⟩ := h5n
    obtain ⟨q, hq⟩ : ∃ q, q = e5.length := ⟨_, rfl⟩
    have q1 := clone80_new e5 .unk (by omega) (by omega)
    have hr8 : room (m.rows.length + 1) 24 = true := by simp only [room_eq, decide_eq_true_eq]; omega
    refine EvC.a ?_
    refine EvC.cf ?_
    refine EvC.a ?_
    refine EvC.cf ?_
    refine EvC.a ?_
    refine EvC.cf ?_
    refine EvC.a ?_
    refine EvC.seq ?_
    refine EvC.a ?_
    refine EvC.ct ?_
    refine EvC.b ?_ (by simp only [go_sem, hge, edgeC, hel] <;> rfl)
    refine EvC.seq ?_
    apply EvC.tr
    ·apply Tr.run
     ·simp only [go_sem, h5, rowC] <;> rfl
     ·simp; try omega
     apply Tr.cons
     ·exact .callN rfl rfl (by simp only [go_sem] <;> rfl) (by simp only [go_sem] <;> rfl) (by simp only [go_sem] <;> rfl) (by simp only [go_sem] <;> rfl) (by simp only [go_sem] <;> rfl) q1
     apply Tr.cons
     ·exact .clip (i := 39) (n := e5.length) rfl rfl (by simp only [go_sem] <;> rfl) (by simp only [go_sem] <;> rfl) (by simp only [go_sem, List.length_map] <;> rfl) (by simp only [go_sem] <;> rfl) (by rw [List.length_map]) (by omega) (by omega) (by simp only [go_sem] <;> rfl) clip79_clips
     apply Tr.done
     ·simp only [go_sem] <;> rfl
     ·simp
    have h5g : (e5.map edgeC)[a.toNat]? = some (edgeC (stepM m e.1 a)) := by rw [List.getElem?_map, h5i]; rfl
    have h5s : ∀ x y : Int, (e5.map edgeC).set a.toNat [.sc (.int .i64 x), .sc (.int .i64 y)] = (e5.set a.toNat (x, y)).map edgeC := fun x y => by rw [List.map_set]; rfl
    have h5l : (e5.set a.toNat ((stepM m e.1 a).1, o)).length = e5.length := List.length_set
    refine EvC.seq ?_
    refine EvC.a ?_
    refine EvC.ct ?_
    refine EvC.b ?_ (by simp only [go_sem, h5g, edgeC, List.length_map, h5s] <;> rfl) (by simp; try omega)
    refine EvC.a ?_ (by simp only [go_sem, hge, edgeC, hel, hsetE, List.length_map] <;> rfl) (by simp [edgeC])
    refine EvC.frz 39 (by simp only [go_sem, List.length_map, h5l] <;> rfl) ?_
    refine EvC.b ?_ (by simp only [go_sem, hRl, hr8] <;> rfl)
    have hex1 : ([[.sl false ((e5.set a.toNat ((stepM m e.1 a).1, o)).map edgeC) .full]] : List (List AV)).all AV.norefs = true := by simp [AV.norefs, AV.noref, norefs_edges]
    have hex3 : ([[.sl false ((e5.set a.toNat ((stepM m e.1 a).1, o)).map edgeC) .full]] : List (List AV)).map (fun c => c.map (AV.ren [(0, 0), (1, 1), (2, 2), (3, 3)])) = [[.sl false ((e5.set a.toNat ((stepM m e.1 a).1, o)).map edgeC) .full]] := by simp [AV.ren, AV.noref, norefs_edges]
    generalize hXX : ([[.sl false ((e5.set a.toNat ((stepM m e.1 a).1, o)).map edgeC) .full]] : List (List AV)) = XX at hex1 hex3 ⊢
    have hXl : XX.length = 1 := by rw [← hXX]; rfl
    refine ⟨rfl, (r.2.set i.toNat ((m.rows.length : Int), e.2), XX), ⟨hset2 _, hex1, (fun c hc => by subst hXX; simp only [List.mem_singleton] at hc; rw [hc]; rfl), ?_⟩, fun c Q h => ?_⟩
    ·rw [hraw, rawRows, if_neg (show ¬ (4 : Int) = 0 by decide), if_neg (show ¬ (4 : Int) = 1 by decide), if_neg (show ¬ (4 : Int) = 2 by decide), if_neg (show ¬ (4 : Int) = 3 by decide), hE, hrt, hXX]
    rw [hXl] at h
    refine EvC.gcE [4, 7] [(0, 0), (1, 1), (2, 2), (3, 3)] 4 rfl (by simp only [go_sem, hnr, hrn, List.all_append, Bool.false_and, hex1, hex3, List.map_append] <;> rfl) h
 have dk : decide ((k : Int) < m.rows.length) = true := decide_eq_true (by omega)
 have hk : m.rows[k]? = some (m.rows[k]'hkl) := List.getElem?_eq_getElem hkl
 have hkm := List.getElem_mem hkl
 have hkn := hnn.row hv hkm
 have hkr := (hv.row _ hkm).1
 generalize m.rows[k]'hkl = rk at hk hkn hkr
 obtain ⟨bk, es⟩ := rk
 simp only [Prod.mk.injEq] at hkn hkr
 obtain ⟨rfl, _⟩ := hkn
 have hin : (k : Int).toNat = k := Int.toNat_natCast k
 have hr8 : room (k + 1) 24 = true := by simp only [room_eq, decide_eq_true_eq]; omega
 have hk1d : decide (k + 1 = 0) = false := decide_eq_false (by omega)
 have hel : (es.map edgeC).length = es.length := List.length_map _
 by_cases hkS : k = S
 ·subst hkS
  have hre : r = (false, es) := by rw [hk] at h1; exact (Option.some.inj h1).symm
  subst hre
  have hsn := rowsK_self (m := m) (S := k) (v := .tv 3 n 0 n (.val n)) (w := .tv 3 n 0 n (.val n)) hk
  have hl0 : rowsK m k k (.tv 3 n 0 n (.val n)) = ((m.rows.take k).map fun r => ((false, r.2) : Row)).map rowC := by rw [rowsK, List.set_eq_of_length_le (by simp; omega)]
  rw [hlo k (by omega)]
  refine EvC.a ?_
  refine EvC.seq ?_
  refine EvC.cr ?_ (by simp only [go_sem, dk] <;> rfl)
  refine EvC.seq ?_
  refine EvC.block ?_
  refine EvC.a ?_ (by simp only [go_sem, hk, hin, rowC] <;> rfl)
  have hsn := rowsK_self (m := m) (S := k) (v := .tv 11 n 0 n (.val n)) (w := .tv 3 n 0 n (.val n)) hk
  rw [hl0] at hsn
  have q1 := clone80_new es .unk (by omega) (by omega)
  have hnl : n = es.length := hn
  have hRl4 : (rowsK m (k + 1) k (.tv 11 n 0 n (.val n))).length = k + 1 := rowsK_len (by omega)
  have hRl : (((m.rows.take k).map fun r => ((false, r.2) : Row)).map rowC).length = k := by simp; omega
  apply EvC.drwA mixed
  ·apply Tr.run
   ·simp only [go_sem] <;> rfl
   ·simp
   apply Tr.cons
   ·exact .callN rfl rfl (by simp only [go_sem] <;> rfl) (by simp only [go_sem] <;> rfl) (by simp only [go_sem] <;> rfl) (by simp only [go_sem] <;> rfl) (by simp only [go_sem] <;> rfl) q1
   apply Tr.cons
   ·exact .clip (i := 11) (n := es.length) rfl rfl (by simp only [go_sem] <;> rfl) (by simp only [go_sem] <;> rfl) (by simp only [go_sem, hel] <;> rfl) (by simp only [go_sem] <;> rfl) (by rw [hel]) (by omega) (by omega) (by simp only [go_sem] <;> rfl) clip79_clips
   apply Tr.done
   ·simp only [go_sem, hRl, hel, ← hnl, hsn, hRl4] <;> rfl
   ·simp [hr8]
  ·kernel_rfl
  have hkk : k + 1 ≤ m.rows.length := hkl
  have hnr : (rowsK m (k + 1) k (.tv 11 n 0 n (.val n))).all AV.norefs = false := rowsK_norefs (by omega) hkk rfl
  have hrn := rowsK_ren m (k + 1) k (.tv 11 n 0 n (.val n)) [(0, 0), (1, 1), (2, 2), (11, 3)]
  refine EvC.b ?_ (hok := by exact inI64_of (by omega) (by omega))
  exact ⟨[(0, 0), (1, 1), (2, 2), (11, 3)], k + 1, rfl, (by rw [hhi (k + 1) (by omega)]; simp only [go_sem, hnr, hrn, hk1d, Bool.and_false, Int.natCast_add, Int.natCast_one] <;> rfl), hkk, by omega⟩
 ·have hsn := rowsK_other (v := .tv 3 n 0 n (.val n)) hk hkS
  simp only at hsn
  have hkk : k + 1 ≤ m.rows.length := hkl
  have hRl : (((m.rows.take k).map fun r => ((false, r.2) : Row)).map rowC).length = k := by simp; omega
  have hRl2 : (rowsK m k S (.tv 3 n 0 n (.val n))).length = k := rowsK_len (by omega)
  have hRl3 : (rowsK m (k + 1) S (.tv 3 n 0 n (.val n))).length = k + 1 := rowsK_len (by omega)
  have hRl5 : (List.take (k + 1) m.rows).length = k + 1 := by simp; omega
  have q1 := clone80_is es .unk (by omega)
  have q2 := clip79_is es .unk
  rcases Nat.lt_or_ge k S with hlt | hge
  ·have hl0 : rowsK m k S (.tv 3 n 0 n (.val n)) = ((m.rows.take k).map fun r => ((false, r.2) : Row)).map rowC := by rw [rowsK, List.set_eq_of_length_le (by simp; omega)]
   have hl1 : rowsK m (k + 1) S (.tv 3 n 0 n (.val n)) = ((m.rows.take (k + 1)).map fun r => ((false, r.2) : Row)).map rowC := by rw [rowsK, List.set_eq_of_length_le (by simp; omega)]
   rw [hl0, hl1] at hsn
   have hsn : List.map rowC (List.map (fun r => (false, r.snd)) (List.take k m.rows)) ++ [[.sl false (es.map edgeC) .unk]] = List.map rowC (List.map (fun r => (false, r.snd)) (List.take (k + 1) m.rows)) := hsn
   rw [hlo k (by omega)]
   refine EvC.a ?_
   refine EvC.seq ?_
   refine EvC.cr ?_ (by simp only [go_sem, dk] <;> rfl)
   refine EvC.seq ?_
   refine EvC.block ?_
   refine EvC.a ?_ (by simp only [go_sem, hk, hin, rowC] <;> rfl)
   apply EvC.drwA mixed
   ·apply Tr.run
    ·simp only [go_sem] <;> rfl
    ·simp
    apply Tr.cons
    ·exact .call rfl rfl (by simp only [go_sem] <;> rfl) (by simp only [go_sem] <;> rfl) (by simp only [go_sem] <;> rfl) (by simp only [go_sem] <;> rfl) (by simp only [go_sem] <;> rfl) q1
    apply Tr.cons
    ·exact .call rfl rfl (by simp only [go_sem] <;> rfl) (by simp only [go_sem] <;> rfl) (by simp only [go_sem] <;> rfl) (by simp only [go_sem] <;> rfl) (by simp only [go_sem] <;> rfl) q2
    apply Tr.done
    ·simp only [go_sem, hRl, hsn, List.length_map, hRl5] <;> rfl
    ·simp [hr8]
   ·kernel_rfl
   refine EvC.b ?_ (hok := by exact inI64_of (by omega) (by omega))
   have hnr : (List.map rowC (List.map (fun r => ((false, r.snd) : Row)) (List.take (k + 1) m.rows))).all AV.norefs = true := by
    simp only [List.all_eq_true]
    intro c hc
    obtain ⟨r, _, rfl⟩ := List.mem_map.1 hc
    exact rowC_norefs r
   exact ⟨[(0, 0), (1, 1), (2, 2)], k + 1, rfl, (by rw [hlo (k + 1) (by omega)]; simp only [go_sem, hnr, hk1d, Bool.and_false, Int.natCast_add, Int.natCast_one] <;> rfl), hkk, by omega⟩
  ·have hsn : rowsK m k S (.tv 3 n 0 n (.val n)) ++ [[.sl false (es.map edgeC) .unk]] = rowsK m (k + 1) S (.tv 3 n 0 n (.val n)) := hsn
   rw [hhi k (by omega)]
   refine EvC.a ?_
   refine EvC.seq ?_
   refine EvC.cr ?_ (by simp only [go_sem, dk] <;> rfl)
   refine EvC.seq ?_
   refine EvC.block ?_
   refine EvC.a ?_ (by simp only [go_sem, hk, hin, rowC] <;> rfl)
   apply EvC.drwA mixed
   ·apply Tr.run
    ·simp only [go_sem] <;> rfl
    ·simp
    apply Tr.cons
    ·exact .call rfl rfl (by simp only [go_sem] <;> rfl) (by simp only [go_sem] <;> rfl) (by simp only [go_sem] <;> rfl) (by simp only [go_sem] <;> rfl) (by simp only [go_sem] <;> rfl) q1
    apply Tr.cons
    ·exact .call rfl rfl (by simp only [go_sem] <;> rfl) (by simp only [go_sem] <;> rfl) (by simp only [go_sem] <;> rfl) (by simp only [go_sem] <;> rfl) (by simp only [go_sem] <;> rfl) q2
    apply Tr.done
    ·simp only [go_sem, hRl2, hsn, hRl3] <;> rfl
    ·simp [hr8]
   ·kernel_rfl
   have hnr : (rowsK m (k + 1) S (.tv 3 n 0 n (.val n))).all AV.norefs = false := rowsK_norefs (by omega) hkk rfl
   have hrn := rowsK_ren m (k + 1) S (.tv 3 n 0 n (.val n)) [(0, 0), (1, 1), (2, 2), (3, 3)]
   refine EvC.b ?_ (hok := by exact inI64_of (by omega) (by omega))
   exact ⟨[(0, 0), (1, 1), (2, 2), (3, 3)], k + 1, rfl, (by rw [hhi (k + 1) (by omega)]; simp only [go_sem, hnr, hrn, hk1d, Bool.and_false, Int.natCast_add, Int.natCast_one] <;> rfl), hkk, by omega⟩
theorem list_step {α : Type} {a : List α} {i : Nat} {x : α} (h : a[i]? = some x) : a.drop i = x :: a.drop (i + 1) := by
 obtain ⟨hi, he⟩ := List.getElem?_eq_some_iff.1 h
 rw [List.drop_eq_getElem_cons hi, he]
theorem clipI_is (nl : Bool) (es : List (List AV)) (c : Cp) (h : (es.all fun y => decide (y.length = 1)) = true) : PureIs prog 47 [.sl nl es c] (.sl nl es .full) := by
 refine PureIs.of1 3 [] func47 ntmps47 results47 fun _ => ?_
 refine EvC.seq (EvC.rg (by simp only [go_sem] <;> rfl) rfl ?_)
 refine EvC.a ?_ (hok := by simp [h])
 refine EvC.ret ⟨.inl rfl, _, (by simp only [go_sem] <;> rfl), rfl, rfl⟩
def togM : Mach := ⟨2, 2, false, [(false, [(1, 0), (0, 0)]), (false, [(0, 1), (1, 0)])]⟩
theorem toggle_is : PureIs prog 32 [] (.ag togM.cells) := by
 have key : PureIs prog 32 [] (.ag [.sc (.int .i64 2), .sc (.int .i64 2), .sl false [[.sl false ([(1, 0), (0, 0)].map edgeC) .full], [.sl false ([(0, 1), (1, 0)].map edgeC) .full]] .full]) := by
  refine PureIs.of1 1 [] func32 ntmps32 results32 fun _ => ?_
  refine EvC.a ?_
  refine EvC.a ?_
  refine EvC.rz ?_
  simp only [go_sem]
  rfl
 have h := key.weakR
 exact h
def cmpI : List Int → List Int → Int
 | x :: a, y :: b => if x < y then -1 else if y < x then 1 else cmpI a b
 | _, _ => 0
def cmpL (a b : List Int) : Int := if a.length = b.length then cmpI a b else if a.length < b.length then -1 else 1
theorem cmpI_zero : ∀ {a b : List Int}, a.length = b.length → (cmpI a b = 0 ↔ a = b)
 | [], [], _ => by simp [cmpI]
 | x :: a, y :: b, h => by
   unfold cmpI
   split
   ·simp; omega
   split
   ·simp; omega
   ·rw [cmpI_zero (by simpa using h)]
    simp; omega
theorem cmpL_zero {a b : List Int} : cmpL a b = 0 ↔ a = b := by
 unfold cmpL
 split
 ·rename_i h; exact cmpI_zero h
 ·rename_i h
  have : a ≠ b := fun e => h (by rw [e])
  split <;> simp [this]
theorem compare65_is (na nb : Bool) (a b : List Int) (ca cb : Cp) (hl : a.length < 1000000) :
  PureIs prog 48 [.sl na (a.map intC) ca, .sl nb (b.map intC) cb] (.sc (.int .i64 (cmpL a b))) := by
 refine PureIs.of1 2 [4, 5, 10, 15, 19, 30, 39] func48 ntmps48 results48 fun _ => ?_
 refine EvC.a ?_
 refine EvC.seq ?_
 refine EvC.a ?_ (by simp only [go_sem, List.length_map] <;> rfl)
 unfold cmpL
 by_cases hlen : a.length = b.length
 rotate_left
 ·have hd : decide ((a.length : Int) = (b.length : Int)) = false := decide_eq_false (by omega)
  rw [if_neg hlen]
  refine EvC.ct ?_ (by simp only [go_sem, hd] <;> rfl)
  refine EvC.seq ?_
  refine EvC.a ?_ (by simp only [go_sem, List.length_map] <;> rfl)
  by_cases hlt : a.length < b.length
  ·have h2 : decide ((a.length : Int) < (b.length : Int)) = true := decide_eq_true (by omega)
   refine EvC.ct ?_ (by simp only [go_sem, h2] <;> rfl)
   refine EvC.a ?_
   rw [if_pos hlt]
   refine EvC.rz ?_
   simp only [go_sem]
  ·have h2 : decide ((a.length : Int) < (b.length : Int)) = false := decide_eq_false (by omega)
   refine EvC.cs ?_ (by simp only [go_sem, h2] <;> rfl)
   refine EvC.a ?_
   rw [if_neg hlt]
   refine EvC.rz ?_
   simp only [go_sem]
 have hd : decide ((a.length : Int) = (b.length : Int)) = true := decide_eq_true (by omega)
 rw [if_pos hlen]
 refine EvC.cs ?_ (by simp only [go_sem, hd] <;> rfl)
 refine EvC.seq ?_
 refine EvC.a ?_
 refine EvC.block ?_
 refine EvC.loopS (σ := Nat) (fun i => ⟨[(0, .sl na (a.map intC) ca), (1, .sl nb (b.map intC) cb), (5, .sc (.int .i64 i))], [], [], 0⟩) (fun i => a.length - i) (fun i => i ≤ a.length ∧ cmpI a b = cmpI (a.drop i) (b.drop i)) [0, 1, 5] 0 ?_ ?_
 ·exact ⟨[], 0, rfl, (by simp only [go_sem, Int.natCast_zero] <;> rfl), Nat.zero_le _, rfl⟩
 rintro i ⟨hi, hinv⟩
 refine EvC.seq ?_
 refine EvC.a ?_ (by simp only [go_sem, List.length_map] <;> rfl)
 refine EvC.cond (by simp only [go_sem] <;> rfl) (fun hc => ?_) (fun hc => ?_)
 rotate_left
 ·
  refine EvC.exit ?_
  obtain rfl : a.length = i := by have : ¬ i < a.length := by simpa using hc
                                  omega
  have h0 : cmpI a b = 0 := by rw [hinv, List.drop_length, hlen, List.drop_length]; rfl
  rw [h0]
  refine EvC.a ?_
  refine EvC.rz ?_
  simp only [go_sem]
 have hil : i < a.length := by simpa using hc
 clear hc
 have he : a[i]? = some (a[i]'hil) := List.getElem?_eq_getElem hil
 have hf : b[i]? = some (b[i]'(by omega)) := List.getElem?_eq_getElem (by omega)
 generalize a[i]'hil = x at he
 generalize b[i]'(by omega) = y at hf
 rw [list_step he, list_step hf, cmpI] at hinv
 have hin : (i : Int).toNat = i := Int.toNat_natCast i
 refine EvC.skip ?_
 refine EvC.seq ?_
 refine EvC.block ?_
 refine EvC.seq ?_
 apply EvC.seq
 apply EvC.drd mixed
 ·simp only [go_sem, he, hf, intC, hin, List.length_map] <;> rfl
 ·simp; try omega
 ·kernel_rfl
 by_cases hxy : x < y
 ·have d1 : decide (x < y) = true := decide_eq_true hxy
  refine EvC.ct ?_ (by simp only [go_sem, d1] <;> rfl)
  refine EvC.a ?_
  rw [hinv, if_pos hxy]
  refine EvC.rz ?_
  simp only [go_sem]
 have d1 : decide (x < y) = false := decide_eq_false hxy
 refine EvC.cs ?_ (by simp only [go_sem, d1] <;> rfl)
 apply EvC.seq
 apply EvC.drd mixed
 ·simp only [go_sem, he, hf, intC, hin, List.length_map] <;> rfl
 ·simp; try omega
 ·kernel_rfl
 by_cases hyx : y < x
 ·have d2 : decide (y < x) = true := decide_eq_true hyx
  refine EvC.ct ?_ (by simp only [go_sem, d2] <;> rfl)
  refine EvC.a ?_
  rw [hinv, if_neg hxy, if_pos hyx]
  refine EvC.rz ?_
  simp only [go_sem]
 have d2 : decide (y < x) = false := decide_eq_false hyx
 refine EvC.cs ?_ (by simp only [go_sem, d2] <;> rfl)
 refine EvC.b ?_ (hok := by exact inI64_of (by omega) (by omega))
 exact ⟨[], i + 1, rfl, (by simp only [go_sem, Int.natCast_add, Int.natCast_one] <;> rfl), ⟨hil, by rw [hinv, if_neg hxy, if_neg hyx]⟩, by omega⟩
abbrev RW := Bool × List Int × Cp
def rwC (r : RW) : List AV := [.sl r.1 (r.2.1.map intC) r.2.2]
def sameW : List RW → List RW → Bool
 | [], [] => true
 | x :: a, y :: b => decide (x.2.1 = y.2.1) && sameW a b
 | _, _ => false
theorem sameW_eq : ∀ {a b : List RW}, sameW a b = decide (a.map (·.2.1) = b.map (·.2.1))
 | [], [] => by simp [sameW]
 | x :: a, [] => by simp [sameW]
 | [], y :: b => by simp [sameW]
 | x :: a, y :: b => by simp [sameW, sameW_eq (a := a) (b := b)]
theorem sameW_len {a b : List RW} (h : sameW a b = true) : a.length = b.length := by
 rw [sameW_eq, decide_eq_true_eq] at h
 simpa using congrArg List.length h
theorem sameW_refl (a : List RW) : sameW a a = true := by rw [sameW_eq]; simp
theorem same37_is (na nb : Bool) (a b : List RW) (ca cb : Cp) (hl : a.length < 1000000) (hk : ∀ x ∈ a, x.2.1.length < 1000000) :
  PureIs prog 17 [.sl na (a.map rwC) ca, .sl nb (b.map rwC) cb] (.sc (.bool (sameW a b))) := by
 refine PureIs.of1 2 [4, 5, 10, 14, 26] func17 ntmps17 results17 fun _ => ?_
 refine EvC.a ?_
 refine EvC.seq ?_
 refine EvC.a ?_ (by simp only [go_sem, List.length_map] <;> rfl)
 by_cases hlen : a.length = b.length
 rotate_left
 ·have hd : decide ((a.length : Int) = (b.length : Int)) = false := decide_eq_false (by omega)
  have hab : sameW a b = false := by
   cases h : sameW a b with
   | false => rfl
   | true => exact absurd (sameW_len h) hlen
  rw [hab]
  refine EvC.ct ?_ (by simp only [go_sem, hd] <;> rfl)
  refine EvC.a ?_
  refine EvC.rz ?_
  simp only [go_sem]
 have hd : decide ((a.length : Int) = (b.length : Int)) = true := decide_eq_true (by omega)
 refine EvC.cs ?_ (by simp only [go_sem, hd] <;> rfl)
 refine EvC.seq ?_
 refine EvC.a ?_
 refine EvC.block ?_
 refine EvC.loopS (σ := Nat) (fun i => ⟨[(0, .sl na (a.map rwC) ca), (1, .sl nb (b.map rwC) cb), (5, .sc (.int .i64 i))], [], [], 0⟩) (fun i => a.length - i) (fun i => i ≤ a.length ∧ sameW a b = sameW (a.drop i) (b.drop i)) [0, 1, 5] 0 ?_ ?_
 ·exact ⟨[], 0, rfl, (by simp only [go_sem, Int.natCast_zero] <;> rfl), Nat.zero_le _, rfl⟩
 rintro i ⟨hi, hinv⟩
 refine EvC.seq ?_
 refine EvC.a ?_ (by simp only [go_sem, List.length_map] <;> rfl)
 refine EvC.cond (by simp only [go_sem] <;> rfl) (fun hc => ?_) (fun hc => ?_)
 rotate_left
 ·
  refine EvC.exit ?_
  obtain rfl : a.length = i := by have : ¬ i < a.length := by simpa using hc
                                  omega
  have h0 : sameW a b = true := by rw [hinv, List.drop_length, hlen, List.drop_length]; rfl
  rw [h0]
  refine EvC.a ?_
  refine EvC.rz ?_
  simp only [go_sem]
 have hil : i < a.length := by simpa using hc
 clear hc
 have he : a[i]? = some (a[i]'hil) := List.getElem?_eq_getElem hil
 have hf : b[i]? = some (b[i]'(by omega)) := List.getElem?_eq_getElem (by omega)
 have hx := hk _ (List.getElem_mem hil)
 generalize a[i]'hil = x at he hx
 generalize b[i]'(by omega) = y at hf
 rw [list_step he, list_step hf, sameW] at hinv
 have hin : (i : Int).toNat = i := Int.toNat_natCast i
 have q := compare65_is x.1 y.1 x.2.1 y.2.1 x.2.2 y.2.2 hx
 have hz := cmpL_zero (a := x.2.1) (b := y.2.1)
 generalize cmpL x.2.1 y.2.1 = z at q hz
 refine EvC.skip ?_
 refine EvC.seq ?_
 refine EvC.block ?_
 apply EvC.seq
 apply EvC.drw mixed
 ·apply Tr.run
  ·simp only [go_sem, he, hf, rwC, hin, List.length_map] <;> rfl
  ·simp; try omega
  apply Tr.cons
  ·exact .ca (q)
  apply Tr.done
  ·simp only [go_sem] <;> rfl
  ·simp
 ·kernel_rfl
 by_cases hxy : x.2.1 = y.2.1
 ·have d1 : z = 0 := hz.2 hxy
  refine EvC.cs ?_ (by simp only [go_sem, d1] <;> rfl)
  refine EvC.b ?_ (hok := by exact inI64_of (by omega) (by omega))
  exact ⟨[], i + 1, rfl, (by simp only [go_sem, Int.natCast_add, Int.natCast_one] <;> rfl), ⟨hil, by rw [hinv, decide_eq_true hxy, Bool.true_and]⟩, by omega⟩
 ·have d1 : decide (z = 0) = false := decide_eq_false fun h => hxy (hz.1 h)
  refine EvC.ct ?_ (by simp only [go_sem, d1] <;> rfl)
  refine EvC.a ?_
  rw [hinv, decide_eq_false hxy, Bool.false_and]
  refine EvC.rz ?_
  simp only [go_sem]
end Go.Avl
