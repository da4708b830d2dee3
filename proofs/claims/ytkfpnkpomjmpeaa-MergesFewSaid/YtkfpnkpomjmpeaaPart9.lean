/-
  Lemmas.
  Lemmas.
  Lemmas.
  Lemmas.
  Lemmas.
  From a law's row to its contract: arguments opened, and read again behind the call.
  How the arguments of the merges' laws read.
-/
import Derived.ProofKit
import Derived.OpenShut
import Derived.Test.YtkfpnkpomjmpeaaRows
import Derived.Test.YtkfpnkpomjmpeaaPart8
set_option linter.unusedSimpArgs false
set_option linter.unusedVariables false
set_option linter.unnecessarySimpa false
set_option linter.deprecated false
namespace Go.Avl
open Go Go.Proofs.Try
set_option maxRecDepth 10000
set_option linter.unusedSimpArgs false
inductive SR
 | found (c : List Nat) (fuel : Nat)
 | fail (fuel : Nat)
 | spent
def stepS (t : Mach) (rec : List Nat → Nat → Nat → SR) (c : List Nat) (used : Nat) (acc : SR) (number : Nat) : SR :=
 match acc with
 | .fail f => if f = 0 then .spent else if possB t c number = true then rec (c ++ [number]) (max used (number + 1)) (f - 1) else .fail (f - 1)
 | r => r
def srch (t : Mach) (k : Nat) : Nat → List Nat → Nat → Nat → SR
 | 0, c, _, fuel => .found c fuel
 | d + 1, c, used, fuel => (List.range (min k (used + 1))).foldl (stepS t (srch t k d) c used) (.fail fuel)
def SR.more : SR → Bool
 | .fail _ => true
 | _ => false
theorem foldl_stop {t : Mach} {rec : List Nat → Nat → Nat → SR} {c : List Nat} {used : Nat} {r : SR} (h : r.more = false) : ∀ l : List Nat, l.foldl (stepS t rec c used) r = r
 | [] => rfl
 | x :: l => by
   rw [List.foldl_cons]
   have : stepS t rec c used r x = r := by
    unfold stepS
    cases r with
    | fail f => cases h
    | _ => rfl
   rw [this]
   exact foldl_stop h l
theorem foldl_at {t : Mach} {rec : List Nat → Nat → Nat → SR} {c : List Nat} {used n i : Nat} {r0 r : SR} (hi : i < n) (h : stepS t rec c used ((List.range i).foldl (stepS t rec c used) r0) i = r) (hr : r.more = false) : (List.range n).foldl (stepS t rec c used) r0 = r := by
 have : List.range n = List.range i ++ (i :: (List.range n).drop (i + 1)) := by
  conv => lhs; rw [← List.take_append_drop i (List.range n)]
  rw [List.drop_eq_getElem_cons (by simpa using hi)]
  congr 1
  ·rw [List.take_range, Nat.min_eq_left (by omega)]
  ·simp
 rw [this, List.foldl_append, List.foldl_cons, h]
 exact foldl_stop hr _
theorem foldl_next {t : Mach} {rec : List Nat → Nat → Nat → SR} {c : List Nat} {used i : Nat} {r0 : SR} : (List.range (i + 1)).foldl (stepS t rec c used) r0 = stepS t rec c used ((List.range i).foldl (stepS t rec c used) r0) i := by
 rw [List.range_succ, List.foldl_append]; rfl
def SR.le (n : Nat) : SR → Prop
 | .found _ f => f ≤ n
 | .fail f => f ≤ n
 | .spent => True
theorem SR.le_mono {n m : Nat} (h : n ≤ m) : ∀ {r : SR}, r.le n → r.le m
 | .found _ _, h1 => Nat.le_trans h1 h
 | .fail _, h1 => Nat.le_trans h1 h
 | .spent, _ => trivial
theorem srch_fuel (t : Mach) (k : Nat) : ∀ (d : Nat) (c : List Nat) (used fuel : Nat), (srch t k d c used fuel).le fuel
 | 0, _, _, _ => Nat.le_refl _
 | d + 1, c, used, fuel => by
   rw [srch]
   have key : ∀ (l : List Nat) (r : SR), r.le fuel → (l.foldl (stepS t (srch t k d) c used) r).le fuel := fun l => by
    induction l with
    | nil => intro r h; exact h
    | cons x l ih =>
      intro r h
      rw [List.foldl_cons]
      refine ih _ ?_
      unfold stepS
      cases r with
      | found _ _ => exact h
      | spent => exact h
      | fail f =>
        simp only
        have h : f ≤ fuel := h
        split
        ·trivial
        ·split
         ·exact SR.le_mono (by omega) (srch_fuel t k d _ _ _)
         ·show f - 1 ≤ fuel; omega
   exact key _ _ (Nat.le_refl _)
def SROk (t : Mach) (c : List Nat) (r : SR) (b : Bool) (cv : AV) (E : List Nat) (f : Nat) (sp : Bool) : Prop :=
 E.length ≤ t.rows.length ∧ match r with
 | .found c' f' => b = true ∧ ColOk cv E c' ∧ f = f' ∧ sp = false
 | .fail f' => b = false ∧ ColOk cv E c ∧ f = f' ∧ sp = false
 | .spent => b = false ∧ sp = true ∧ (∃ c', ColOk cv E c') ∧ f = 0
theorem ColOk.ren {cv : AV} {E c : List Nat} (h : ColOk cv E c) : AV.deep (renLeaf [(0, 0), (1, 1)]) cv = cv := by
 rcases h with ⟨_, _, rfl⟩ | ⟨rfl, _⟩ <;> rfl
theorem ColOk.noref {cv : AV} {E c : List Nat} (h : ColOk cv E c) : cv.noref = false := by
 rcases h with ⟨_, _, rfl⟩ | ⟨rfl, _⟩ <;> rfl
set_option maxHeartbeats 8000000 in
theorem search64_body {t : Mach} (v : TV t) (tp : TP t) (k : Nat) (hk : k ≤ 64) : ∀ (d : Nat) (c E : List Nat) (cv : AV) (used fuel : Nat) {R : AV → Mem → Nat → Prop}, c.length + d = t.rows.length → ColOk cv E c → E.length ≤ t.rows.length → used ≤ 64 → fuel ≤ 1000000 →
  (∀ b cv' E' f' sp', SROk t c (srch t k d c used fuel) b cv' E' f' sp' → R (.sc (.bool b)) (coM t cv' E' f' sp') 3) →
  BodyIs prog 64 [.rf 0 0, .sc (.int .i64 k), .sc (.int .i64 used)] (coM t cv E fuel false) 3 R := by
 intro d
 induction d with
 | zero =>
   intro c E cv used fuel R hd hv hE _ _ hR
   have hrw := v.rows
   refine BodyIs.of (nv := 3) (hid := [6, 7, 19, 27, 34, 45, 46, 48, 59, 60, 64, 65, 69]) func64 rfl (by kernel_rfl) (by simp [ntmps64]) fun h0 => ?_
   rw [ntmps64, results64]
   unfold coM coO
   have hRR := hR true cv E fuel false ⟨hE, rfl, hv, rfl, rfl⟩
   refine EvC.seq (EvC.rg (by simp only [go_sem] <;> rfl) (by simp) ?_)
   refine EvC.seq ?_
   refine EvC.mergeC (α := Unit) (fun _ => ⟨[(0, .rf 0 0), (1, .sc (.int .i64 k)), (2, .sc (.int .i64 used)), (6, .sc (.bool false)), (19, .sc (.bool true))], [], coM t cv E fuel false, 3⟩) (fun _ => True) ?_ ?_
   ·have d1 := decide_eq_true (show (c.length : Int) = (t.rows.length : Int) by omega)
    rcases hv with ⟨rfl, rfl, rfl⟩ | ⟨rfl, hE1, hE2, hE3⟩
    ·simp at hd; omega
    ·have hElen : ((E.map natC).take c.length).length = c.length := by simp; omega
     apply EvC.drd mixed
     ·simp only [go_sem, List.length_map, hElen, d1] <;> rfl
     ·simp
     ·kernel_rfl
     exact ⟨rfl, (), trivial, fun c Q h => EvC.gcE [0, 1, 2, 6, 19] [(0, 0), (1, 1)] 3 rfl (by simp only [go_sem, coM, coO, norefs_natC] <;> rfl) h⟩
   intro _ _
   have hren := hv.ren
   have hnr := hv.noref
   refine EvC.cond_true (by simp only [go_sem] <;> rfl) ?_
   refine EvC.seq (EvC.rg (by simp only [go_sem] <;> rfl) (by simp) ?_)
   refine EvC.gcE (st2 := ⟨[(6, .sc (.bool true))], [], coM t cv E fuel false, 3⟩) [6] [(0, 0), (1, 1)] 3 rfl (by simp only [go_sem, coM, coO, norefs_natC, hnr, hren] <;> rfl) ?_
   refine EvC.ret ⟨.inl rfl, _, (by simp only [go_sem] <;> rfl), ?_⟩
   exact hRR
 | succ d ih =>
 intro c E cv used fuel R hd hv hE hu hfu hR
 have hrw := v.rows
 have hin := v.ins
 refine BodyIs.of (nv := 3) (hid := [6, 7, 19, 27, 34, 45, 46, 48, 59, 60, 64, 65, 69]) func64 rfl (by kernel_rfl) (by simp [ntmps64]) fun h0 => ?_
 rw [ntmps64, results64]
 unfold coM coO
 obtain ⟨N, hNd⟩ : ∃ N, N = t.rows.length := ⟨_, rfl⟩
 have hren := hv.ren
 have hnr := hv.noref
 refine EvC.seq (EvC.rg (by simp only [go_sem] <;> rfl) (by simp) ?_)
 refine EvC.seq ?_
 refine EvC.mergeC (α := Unit) (fun _ => ⟨[(0, .rf 0 0), (1, .sc (.int .i64 k)), (2, .sc (.int .i64 used)), (6, .sc (.bool false)), (19, .sc (.bool false))], [], coM t cv E fuel false, 3⟩) (fun _ => True) ?_ ?_
 ·have d1 := decide_eq_false (show ¬ (c.length : Int) = (t.rows.length : Int) by omega)
  rcases hv with ⟨rfl, rfl, rfl⟩ | ⟨rfl, hE1, hE2, hE3⟩
  ·have d1 := decide_eq_false (show ¬ (0 : Int) = (t.rows.length : Int) by omega)
   apply EvC.drd mixed
   ·simp only [go_sem, List.length_map, d1] <;> rfl
   ·simp
   ·kernel_rfl
   exact ⟨rfl, (), trivial, fun c Q h => EvC.gcE [0, 1, 2, 6, 19] [(0, 0), (1, 1)] 3 rfl (by simp only [go_sem, coM, coO] <;> rfl) h⟩
  ·have hElen : ((E.map natC).take c.length).length = c.length := by simp; omega
   apply EvC.drd mixed
   ·simp only [go_sem, List.length_map, hElen, d1] <;> rfl
   ·simp
   ·kernel_rfl
   exact ⟨rfl, (), trivial, fun c Q h => EvC.gcE [0, 1, 2, 6, 19] [(0, 0), (1, 1)] 3 rfl (by simp only [go_sem, coM, coO, norefs_natC] <;> rfl) h⟩
 intro _ _
 refine EvC.cond_false (by simp only [go_sem] <;> rfl) ?_
 refine EvC.skip ?_
 refine EvC.seq ?_
 refine EvC.seq (EvC.rg (by simp only [go_sem] <;> rfl) (by simp) ?_)
 refine EvC.block ?_
 obtain ⟨res, hres⟩ : ∃ r, r = srch t k (d + 1) c used fuel := ⟨_, rfl⟩
 rw [← hres] at hR
 have hfold : srch t k (d + 1) c used fuel = (List.range (min k (used + 1))).foldl (stepS t (srch t k d) c used) (.fail fuel) := rfl
 rw [hfold] at hres
 refine EvC.loopS (σ := Nat × AV × List Nat × Nat) (fun g => ⟨[(0, .rf 0 0), (1, .sc (.int .i64 k)), (2, .sc (.int .i64 used)), (7, .sc (.int .i64 g.1))], [], coM t g.2.1 g.2.2.1 g.2.2.2 false, 3⟩) (fun g => k - g.1)
  (fun g => g.1 ≤ min k (used + 1) ∧ ColOk g.2.1 g.2.2.1 c ∧ g.2.2.1.length ≤ N ∧ g.2.2.2 ≤ 1000000 ∧ (List.range g.1).foldl (stepS t (srch t k d) c used) (.fail fuel) = .fail g.2.2.2) [0, 1, 2, 7] 3 ?_ ?_
 ·exact ⟨[(0, 0), (1, 1)], (0, cv, E, fuel), rfl, (by simp only [go_sem, coM, coO, norefs_natC, hnr, hren, Int.natCast_zero] <;> rfl), Nat.zero_le _, hv, by rw [hNd]; exact hE, hfu, rfl⟩
 clear hv hren hnr hE hfold hfu cv E
 rintro ⟨i, cv, E, f⟩ ⟨h1, hv, hE, hfu, h2⟩
 simp only at h1 hv hE hfu h2 ⊢
 have hren := hv.ren
 have hnr := hv.noref
 have hlt1 : ((i : Int) < (k : Int)) ↔ i < k := by omega
 have hlt2 : ((i : Int) ≤ (used : Int)) ↔ i ≤ used := by omega
 have hend : ¬ (i < k ∧ i ≤ used) → res = .fail f := fun h => by
  rw [hres, ← h2, show i = min k (used + 1) by omega]
 refine EvC.seq ?_
 by_cases hg1 : i < k
 rotate_left
 ·apply EvC.seq
  apply EvC.trd
  ·simp only [go_sem, decide_eq_false (fun h => hg1 (hlt1.1 h))] <;> rfl
  ·simp
  refine EvC.cond_false (by simp only [go_sem] <;> rfl) ?_
  refine EvC.exit ?_
  refine EvC.seq (EvC.rg (by simp only [go_sem] <;> rfl) (by simp) ?_)
  have hRR := hR false cv E f false
  rw [hend fun h => hg1 h.1] at hRR
  refine EvC.gcE (st2 := ⟨[(6, .sc (.bool false))], [], coM t cv E f false, 3⟩) [6] [(0, 0), (1, 1)] 3 rfl (by simp only [go_sem, coM, coO, norefs_natC, hnr, hren] <;> rfl) ?_
  refine EvC.ret ⟨.inl rfl, _, (by simp only [go_sem] <;> rfl), ?_⟩
  exact hRR ⟨by omega, rfl, hv, rfl, rfl⟩
 have d1 := decide_eq_true (hlt1.2 hg1)
 by_cases hg2 : i ≤ used
 rotate_left
 ·apply EvC.seq
  apply EvC.trd
  ·simp only [go_sem, d1, decide_eq_false (fun h => hg2 (hlt2.1 h))] <;> rfl
  ·simp
  refine EvC.cond_false (by simp only [go_sem] <;> rfl) ?_
  refine EvC.exit ?_
  refine EvC.seq (EvC.rg (by simp only [go_sem] <;> rfl) (by simp) ?_)
  have hRR := hR false cv E f false
  rw [hend fun h => hg2 h.2] at hRR
  refine EvC.gcE (st2 := ⟨[(6, .sc (.bool false))], [], coM t cv E f false, 3⟩) [6] [(0, 0), (1, 1)] 3 rfl (by simp only [go_sem, coM, coO, norefs_natC, hnr, hren] <;> rfl) ?_
  refine EvC.ret ⟨.inl rfl, _, (by simp only [go_sem] <;> rfl), ?_⟩
  exact hRR ⟨by omega, rfl, hv, rfl, rfl⟩
 have d2 := decide_eq_true (hlt2.2 hg2)
 apply EvC.seq
 apply EvC.trd
 ·simp only [go_sem, d1, d2] <;> rfl
 ·simp
 refine EvC.cond_true (by simp only [go_sem] <;> rfl) ?_
 refine EvC.skip ?_
 refine EvC.seq ?_
 refine EvC.block ?_
 refine EvC.seq ?_
 refine EvC.seq (EvC.rg (by simp only [go_sem, coM, coO] <;> rfl) (by simp) ?_)
 have him : i < min k (used + 1) := by omega
 by_cases hf0 : f = 0
 ·subst hf0
  refine EvC.cond_true (by simp only [go_sem] <;> rfl) ?_
  have hst : res = .spent := by
   rw [hres]
   exact foldl_at him (by rw [h2]; rfl) rfl
  refine EvC.seq (EvC.rg (by simp only [go_sem] <;> rfl) (by simp) ?_)
  refine EvC.seq (EvC.rg (by simp only [go_sem] <;> rfl) (by simp) ?_)
  have hRR := hR false cv E 0 true
  rw [hst] at hRR
  refine EvC.gcE (st2 := ⟨[(6, .sc (.bool false))], [], coM t cv E 0 true, 3⟩) [6] [(0, 0), (1, 1)] 3 rfl (by simp only [go_sem, coM, coO, norefs_natC, hnr, hren] <;> rfl) ?_
  refine EvC.ret ⟨.inl rfl, _, (by simp only [go_sem] <;> rfl), ?_⟩
  exact hRR ⟨by omega, rfl, rfl, ⟨c, hv⟩, rfl⟩
 have dz := decide_eq_false (show ¬ (f : Int) = 0 by omega)
 refine EvC.cond_false (by simp only [go_sem, dz] <;> rfl) ?_
 refine EvC.skip ?_
 obtain ⟨f, rfl⟩ : ∃ g, f = g + 1 := ⟨f - 1, by omega⟩
 have hfs : ((f + 1 : Nat) : Int) - 1 = f := by omega
 have hfs2 : (f : Int) + ((1 : Nat) : Int) - 1 = f := by omega
 refine EvC.seq (EvC.rg (by simp only [go_sem, hfs, hfs2] <;> rfl) (by simp; exact inI64_of (by omega) (by omega)) ?_)
 have hstep : ∀ r, stepS t (srch t k d) c used (.fail (f + 1)) i = r → r.more = false → res = r := fun r h1 h3 => by
  rw [hres]
  exact foldl_at him (by rw [h2]; exact h1) h3
 have hnextf : ∀ f', stepS t (srch t k d) c used (.fail (f + 1)) i = .fail f' → (List.range (i + 1)).foldl (stepS t (srch t k d) c used) (.fail fuel) = .fail f' := fun f' h => by
  rw [foldl_next, h2, h]
 have hstv : stepS t (srch t k d) c used (.fail (f + 1)) i = if possB t c i = true then srch t k d (c ++ [i]) (max used (i + 1)) f else .fail f := by
  unfold stepS
  simp only
  rw [if_neg (by omega)]
  rfl
 clear h2
 refine EvC.seq ?_
 apply EvC.seq
 apply EvC.rs
 ·simp only [go_sem] <;> rfl
 ·simp
 refine XR.gcTo ⟨[(0, .rf 0 0), (1, .sc (.int .i64 k)), (2, .sc (.int .i64 used)), (7, .sc (.int .i64 i)), (45, .rf 0 0), (46, .sc (.int .i64 i))], [], coM t cv E f false, 3⟩ [0, 1, 2, 7, 45, 46] [(0, 0), (1, 1)] rfl (by simp only [go_sem, coM, coO, norefs_natC, hnr, hren] <;> rfl) ?_
 apply XR.callI rfl rfl (by simp only [go_sem] <;> rfl) (by simp only [go_sem] <;> rfl) (by simp only [go_sem] <;> rfl)
 refine possible77_body v tp hv (by omega) i f false ?_
 apply XR.done
 ·simp only [go_sem] <;> rfl
 ·simp
 cases hpb : possB t c i with
 | false =>
   rw [hpb, if_neg (by simp)] at hstv
   refine EvC.cond_true (by simp only [go_sem, hpb] <;> rfl) ?_
   refine EvC.exit ?_
   refine EvC.rg (by simp only [go_sem] <;> rfl) (by exact inI64_of (by omega) (by omega)) ?_
   exact ⟨[(0, 0), (1, 1)], (i + 1, cv, E, f), rfl, (by simp only [go_sem, coM, coO, norefs_natC, hnr, hren, Int.natCast_add, Int.natCast_one] <;> rfl), ⟨by simp only; omega, hv, hE, by simp only; omega, hnextf f hstv⟩, by simp only; omega⟩
 | true =>
 rw [hpb, if_pos rfl] at hstv
 refine EvC.cond_false (by simp only [go_sem, hpb] <;> rfl) ?_
 refine EvC.skip ?_
 have hcN : c.length < N := by omega
 refine EvC.mergeC (α := List Nat) (fun E' => ⟨[(0, .rf 0 0), (1, .sc (.int .i64 k)), (2, .sc (.int .i64 used)), (7, .sc (.int .i64 i))], [], coM t (.tv 1 E'.length 0 (c.length + 1) .rest) E' f false, 3⟩)
  (fun E' => E'.take (c.length + 1) = c ++ [i] ∧ E' ≠ [] ∧ c.length + 1 ≤ E'.length ∧ E'.length ≤ N) ?_ ?_
 ·rcases hv with ⟨rfl, rfl, rfl⟩ | ⟨rfl, hE1, hE2, hE3⟩
  ·have hr2 : room 1 8 = true := by simp only [room_eq]; decide
   refine EvC.rg (by simp only [go_sem, coM, coO] <;> rfl) (by simp [hr2]) ?_
   refine ⟨rfl, [i], ⟨rfl, by simp, by simp, by simp; omega⟩, fun c Q h => ?_⟩
   refine EvC.toTv 1 ?_
   refine EvC.gcE [0, 1, 2, 7] [(0, 0), (1, 1)] 3 rfl (by simp only [go_sem, coM, coO, norefs_natC, natC, List.map_cons, List.map_nil] <;> rfl) h
  ·have hElen : (E.map natC).length = E.length := List.length_map _
   by_cases hfull : c.length = E.length
   ·have hEc : E = c := by rw [← hE1, List.take_of_length_le (by omega)]
    have hr2 : room (E.length + 1) 8 = true := by simp only [room_eq, decide_eq_true_eq]; omega
    obtain ⟨E1, hE1d⟩ : ∃ E1, E1 = E ++ [i] := ⟨_, rfl⟩
    have hsn : E.map natC ++ [[.sc (.int .i64 (i : Int))]] = E1.map natC := by rw [hE1d]; simp [natC]
    have hl2 : E1.length = E.length + 1 := by rw [hE1d]; simp
    have ht2 : E1.take (c.length + 1) = c ++ [i] := by rw [hE1d, hEc, List.take_of_length_le (by simp)]
    refine EvC.rg (by simp only [go_sem, coM, coO, hfull, hElen, hsn] <;> rfl) (by simp [hr2]; try exact hE2) ?_
    exact ⟨rfl, E1, ⟨ht2, fun h => by rw [h] at hl2; simp at hl2, by omega, by omega⟩, fun c Q h => EvC.gcE [0, 1, 2, 7] [(0, 0), (1, 1)] 3 rfl (by simp only [go_sem, coM, coO, norefs_natC, hfull, hl2] <;> rfl) h⟩
   ·obtain ⟨E1, hE1d⟩ : ∃ E1, E1 = E.take c.length ++ i :: E.drop (c.length + 1) := ⟨_, rfl⟩
    have hsn : List.take c.length (E.map natC) ++ [.sc (.int .i64 (i : Int))] :: List.drop (c.length + 1) (E.map natC) = E1.map natC := by rw [hE1d]; simp [natC, List.map_take, List.map_drop]
    have hl2 : E1.length = E.length := by rw [hE1d]; simp; omega
    have ht2 : E1.take (c.length + 1) = c ++ [i] := by
     rw [hE1d, hE1, List.take_append]
     simp [List.take_of_length_le]
    refine EvC.rg (by simp only [go_sem, coM, coO, hfull, hElen, hsn] <;> rfl) (by simp; try omega) ?_
    exact ⟨rfl, E1, ⟨ht2, fun h => by rw [h] at hl2; exact hE2 (List.length_eq_zero_iff.1 hl2.symm), by omega, by omega⟩, fun c Q h => EvC.gcE [0, 1, 2, 7] [(0, 0), (1, 1)] 3 rfl (by simp only [go_sem, coM, coO, norefs_natC, hl2] <;> rfl) h⟩
 clear hv hE hren hnr cv E
 rintro E ⟨hE1, hE2, hE3, hE4⟩
 have hlast : (c ++ [i]).length = c.length + 1 := by simp
 have hv : ColOk (.tv 1 E.length 0 (c.length + 1) .rest) E (c ++ [i]) := .inr ⟨by rw [hlast], by rw [hlast]; exact hE1, hE2, by rw [hlast]; exact hE3⟩
 refine EvC.seq ?_
 apply EvC.seq
 apply EvC.rs
 ·simp only [go_sem, coM, coO] <;> rfl
 ·exact inI64_of (by omega) (by omega)
 have hmx : (if (used : Int) ≤ (i : Int) + 1 then (i : Int) + 1 else (used : Int)) = ((max used (i + 1) : Nat) : Int) := by
  split <;> omega
 refine XR.gcTo ⟨[(0, .rf 0 0), (1, .sc (.int .i64 k)), (2, .sc (.int .i64 used)), (7, .sc (.int .i64 i)), (59, .rf 0 0), (60, .sc (.int .i64 k)), (64, .sc (.int .i64 ((max used (i + 1) : Nat) : Int)))], [], coM t (.tv 1 E.length 0 (c.length + 1) .rest) E f false, 3⟩ [0, 1, 2, 7, 59, 60, 64] [(0, 0), (1, 1)] rfl (by rw [hmx]; simp only [go_sem, coM, coO, norefs_natC] <;> rfl) ?_
 apply XR.callI rfl rfl (by simp only [go_sem] <;> rfl) (by simp only [go_sem] <;> rfl) (by simp only [go_sem] <;> rfl)
 refine ih (c ++ [i]) E _ _ f (by rw [hlast]; omega) hv (by omega) (by omega) (by omega) ?_
 clear hv
 intro b cv E2 f' sp hok
 refine XR.nil ?_
 obtain ⟨hE, hok⟩ := hok
 cases hsr : srch t k d (c ++ [i]) (max used (i + 1)) f with
 | found c' fu =>
   rw [hsr] at hok hstv
   obtain ⟨rfl, hv, rfl, rfl⟩ := hok
   have hres := hstep _ hstv rfl
   have hren := hv.ren
   have hnr := hv.noref
   refine EvC.cond_true (by simp only [go_sem] <;> rfl) ?_
   refine EvC.seq (EvC.rg (by simp only [go_sem] <;> rfl) (by simp) ?_)
   have hRR := hR true cv E2 f' false
   rw [hres] at hRR
   refine EvC.gcE (st2 := ⟨[(6, .sc (.bool true))], [], coM t cv E2 f' false, 3⟩) [6] [(0, 0), (1, 1)] 3 rfl (by simp only [go_sem, coM, coO, norefs_natC, hnr, hren] <;> rfl) ?_
   refine EvC.ret ⟨.inl rfl, _, (by simp only [go_sem] <;> rfl), ?_⟩
   exact hRR ⟨hE, rfl, hv, rfl, rfl⟩
 | spent =>
   rw [hsr] at hok hstv
   obtain ⟨rfl, rfl, ⟨c', hv⟩, rfl⟩ := hok
   have hres := hstep _ hstv rfl
   have hren := hv.ren
   have hnr := hv.noref
   refine EvC.cond_false (by simp only [go_sem] <;> rfl) ?_
   refine EvC.skip ?_
   refine EvC.seq ?_
   refine EvC.seq (EvC.rg (by simp only [go_sem, coM, coO] <;> rfl) (by simp) ?_)
   refine EvC.cond_true (by simp only [go_sem] <;> rfl) ?_
   refine EvC.seq (EvC.rg (by simp only [go_sem] <;> rfl) (by simp) ?_)
   have hRR := hR false cv E2 0 true
   rw [hres] at hRR
   refine EvC.gcE (st2 := ⟨[(6, .sc (.bool false))], [], coM t cv E2 0 true, 3⟩) [6] [(0, 0), (1, 1)] 3 rfl (by simp only [go_sem, coM, coO, norefs_natC, hnr, hren] <;> rfl) ?_
   refine EvC.ret ⟨.inl rfl, _, (by simp only [go_sem] <;> rfl), ?_⟩
   exact hRR ⟨hE, rfl, rfl, ⟨c', hv⟩, rfl⟩
 | fail fu =>
   rw [hsr] at hok hstv
   obtain ⟨rfl, hv, rfl, rfl⟩ := hok
   refine EvC.cond_false (by simp only [go_sem] <;> rfl) ?_
   refine EvC.skip ?_
   refine EvC.seq ?_
   refine EvC.seq (EvC.rg (by simp only [go_sem, coM, coO] <;> rfl) (by simp) ?_)
   refine EvC.cond_false (by simp only [go_sem] <;> rfl) ?_
   refine EvC.skip ?_
   rcases hv with ⟨h, _⟩ | ⟨rfl, hF, hF0, hF1⟩
   ·simp at h
   rw [hlast] at hF hF1 ⊢
   have hcl1 : ((c.length : Int) + 1 - 1).toNat = c.length := by omega
   have hcl3 : ((c.length : Int) + ((1 : Nat) : Int) - 1) = c.length := by omega
   have hcl4 : (c.length : Int).toNat = c.length := Int.toNat_natCast _
   have hcl2 : ((E2.map natC).take (c.length + 1)).length = c.length + 1 := by simp; omega
   have hF3 : E2.take c.length = c := by
    have := congrArg (List.take c.length) hF
    rw [List.take_take, Nat.min_eq_left (by omega)] at this
    rw [this]; simp
   apply EvC.drd mixed
   ·simp only [go_sem, coM, coO, hcl1, hcl2, hcl3, hcl4, Int.natCast_add, Int.natCast_one] <;> rfl
   ·simp [inI64_of (x := (c.length : Int)) (by omega) (by omega)]; try exact hF0
   ·kernel_rfl
   refine EvC.rg (by simp only [go_sem] <;> rfl) (by exact inI64_of (by omega) (by omega)) ?_
   exact ⟨[(0, 0), (1, 1)], (i + 1, .tv 1 E2.length 0 c.length .rest, E2, f'), rfl, (by simp only [go_sem, coM, coO, norefs_natC, Int.natCast_add, Int.natCast_one] <;> rfl), ⟨by simp only; omega, .inr ⟨rfl, hF3, hF0, Nat.le_trans (Nat.le_succ _) hF1⟩, by rw [hNd]; exact hE, by simp only; have := srch_fuel t k d (c ++ [i]) (max used (i + 1)) f; rw [hsr] at this; exact Nat.le_trans this (by omega), hnextf f' hstv⟩, by simp only; omega⟩
end Go.Avl
namespace Go.Avl
open Go Go.Proofs.Try
set_option maxRecDepth 10000
set_option linter.unusedSimpArgs false
def edgeK (t : Mach) (c : List Nat) (s i : Nat) : Nat → Int × Int
 | 0 => (-1, -1)
 | n + 1 => if stN c n = s ∧ (eT t n i).1 ≠ -1 then ((stN c (eT t n i).1.toNat : Nat), (eT t n i).2) else edgeK t c s i n
def colW (t : Mach) (c : List Nat) (n i : Nat) (s j : Nat) : Int × Int := if j < i then edgeK t c s j (n + 1) else edgeK t c s j n
def initW (s i a b : Nat) : Int × Int := if a < s ∨ b < i then (-1, -1) else (0, 0)
theorem otab_congr {α : Type} (e : Nat) (C : α → List AV) {W W' : Nat → Nat → α} {n m : Nat} (h : ∀ s i, s < n → i < m → W s i = W' s i) : otab e C W n m = otab e C W' n m := by
 unfold otab
 congr 1
 refine List.map_congr_left fun s hs => ?_
 have hs := List.mem_range.1 hs
 unfold grow gcells
 congr 1
 refine List.map_congr_left fun i hi => ?_
 rw [h s i hs (List.mem_range.1 hi)]
theorem initW_set {s i n m : Nat} (hn : n = s + 1) : otab 2 edgeC (upd2 (initW s i) s i (-1, -1)) n m = otab 2 edgeC (initW s (i + 1)) n m := by
 refine otab_congr 2 edgeC fun a b ha hb => ?_
 unfold upd2 initW
 by_cases h : a = s ∧ b = i
 ·rw [if_pos h, if_pos (by omega)]
 ·rw [if_neg h]
  by_cases h2 : a < s ∨ b < i
  ·rw [if_pos h2, if_pos (by omega)]
  ·rw [if_neg h2, if_neg (by omega)]
theorem initW_next {s m : Nat} : otab 2 edgeC (initW s m) (s + 1) m = otab 2 edgeC (initW (s + 1) 0) (s + 1) m := by
 refine otab_congr 2 edgeC fun a b ha hb => ?_
 unfold initW
 rw [if_pos (by omega), if_pos (by omega)]
theorem initW_all {t : Mach} {c : List Nat} {s m : Nat} : otab 2 edgeC (initW s 0) s m = otab 2 edgeC (colW t c 0 0) s m := by
 refine otab_congr 2 edgeC fun a b ha hb => ?_
 unfold initW colW
 rw [if_pos (by omega), if_neg (by omega)]; rfl
theorem colW_next {t : Mach} {c : List Nat} {n k m : Nat} : otab 2 edgeC (colW t c n m) k m = otab 2 edgeC (colW t c (n + 1) 0) k m := by
 refine otab_congr 2 edgeC fun a b ha hb => ?_
 unfold colW
 rw [if_pos hb, if_neg (by omega)]
theorem colW_set {t : Mach} {c : List Nat} {n i k m : Nat} (he : (eT t n i).1 ≠ -1) : otab 2 edgeC (upd2 (colW t c n i) (stN c n) i ((stN c (eT t n i).1.toNat : Nat), (eT t n i).2)) k m = otab 2 edgeC (colW t c n (i + 1)) k m := by
 refine otab_congr 2 edgeC fun a b ha hb => ?_
 unfold upd2 colW
 by_cases h : a = stN c n ∧ b = i
 ·rw [if_pos h, if_pos (by omega), edgeK, if_pos (by rw [h.2]; exact ⟨h.1.symm, he⟩), h.2]
 ·rw [if_neg h]
  by_cases h2 : b < i
  ·rw [if_pos h2, if_pos (by omega)]
  ·rw [if_neg h2]
   by_cases h3 : b = i
   ·rw [if_pos (by omega), edgeK, if_neg (fun h4 => h ⟨h4.1.symm, h3⟩)]
   ·rw [if_neg (by omega)]
theorem colW_keep {t : Mach} {c : List Nat} {n i k m : Nat} (he : (eT t n i).1 = -1) : otab 2 edgeC (colW t c n i) k m = otab 2 edgeC (colW t c n (i + 1)) k m := by
 refine otab_congr 2 edgeC fun a b ha hb => ?_
 unfold colW
 by_cases h2 : b < i
 ·rw [if_pos h2, if_pos (by omega)]
 ·rw [if_neg h2]
  by_cases h3 : b = i
  ·rw [if_pos (by omega), edgeK, if_neg (fun h4 => h4.2 (by rw [h3]; exact he))]
  ·rw [if_neg (by omega)]
def colRes (t : Mach) (c : List Nat) (k : Nat) : AV := .ag [.sc (.int .i64 t.ins), .sc (.int .i64 t.outs), .sl false (rowsV (fun s i => edgeK t c s i t.rows.length) k t.ins.toNat) .full]
def colA (t : Mach) (c : List Nat) (fuel : Int) (sp : Bool) : AV := .ia [.sc (.int .i64 t.ins), .sc (.int .i64 t.outs), .sl t.nl (t.rows.map rowC) .unk, .sl false ((frT t).map prC) .full, .sl false (c.map natC) .unk, .sc (.int .i64 fuel), .sc (.bool sp)]
set_option maxHeartbeats 8000000 in
theorem machine65_is {t : Mach} (v : TV t) {c : List Nat} (hl : c.length = t.rows.length) {k : Nat} (hk : 1 ≤ k ∧ k ≤ 64) (hck : ∀ x ∈ c, x < k) (fuel : Int) (sp : Bool) : PureIs prog 65 [colA t c fuel sp, .sc (.int .i64 k)] (colRes t c k) := by
 have hrw := v.rows
 have hin := v.ins
 obtain ⟨I, hId⟩ : ∃ I, I = t.ins.toNat := ⟨_, rfl⟩
 have hI : t.ins = (I : Int) := by omega
 have hkin : (k : Int).toNat = k := Int.toNat_natCast k
 unfold colA colRes
 rw [← hId]
 refine PureIs.of (nv := 5) (hid := [4, 5, 6, 7, 8, 9, 10, 11, 23, 25, 26, 27, 28, 29, 44, 45, 46, 47, 48, 63, 64, 65, 66, 77, 78, 79, 80, 86]) func65 rfl (by kernel_rfl) (by simp [ntmps65]) fun _ => ?_
 rw [ntmps65, results65]
 refine EvC.seq (EvC.rg (by simp only [go_sem] <;> rfl) (by simp) ?_)
 have hrlz : (List.replicate k [AV.sl true [] .zer]).length = k := List.length_replicate
 apply EvC.seq
 apply EvC.drwA mixed
 ·apply Tr.done
  ·simp only [go_sem, hkin, hrlz] <;> rfl
  ·simp [room_eq]; omega
 ·kernel_rfl
 refine EvC.seq ?_
 have hzt : ((List.replicate k [AV.sl true [] .zer]).take k).length = k := by simp
 refine EvC.seq (EvC.rg (by simp only [go_sem, hrlz, hzt] <;> rfl) (by simp) ?_)
 refine EvC.block ?_
 have hk6 : k ≤ 1000000 := by omega
 have hz2 : (List.replicate k [AV.sl true [] .zer]).all AV.norefs = true := by simp [List.all_eq_true, AV.norefs, AV.noref]
 refine EvC.loopS (σ := Nat) (fun s => ⟨[(0, .ia [.sc (.int .i64 t.ins), .sc (.int .i64 t.outs), .sl t.nl (t.rows.map rowC) .unk, .sl false ((frT t).map prC) .full, .sl false (c.map natC) .unk, .sc (.int .i64 fuel), .sc (.bool sp)]), (4, .rf 1000200 0), (5, .rf 1000201 0), (27, .sc (.int .i64 k)), (28, .sc (.int .i64 s))], [],
  (1000200, .cells [.sc (.int .i64 0), .sc (.int .i64 0), .sl true [] .zer]) :: (1000201, .cells [.sc (.int .i64 t.ins), .sc (.int .i64 t.outs), .tv 1000202 k 0 k (.val k)]) :: (1000202, .arr 1 (opart I k s) false) :: otab 2 edgeC (initW s 0) s I, 3000000⟩) (fun s => k - s) (fun s => s ≤ k) [0, 4, 5, 27, 28] 3000000 ?_ ?_
 ·exact ⟨[(0, 1000200), (14, 1000201), (12, 1000202)], 0, rfl, (by simp only [go_sem, opart_zero, otab_zero, Int.natCast_zero, hz2, if_true] <;> rfl), Nat.zero_le _⟩
 intro s hs
 have hs6 : s ≤ 1000000 := by omega
 have htl := opart_len (m := I) hs
 have hsin : (s : Int).toNat = s := Int.toNat_natCast s
 refine EvC.seq (EvC.rg (by simp only [go_sem] <;> rfl) (by simp) ?_)
 refine EvC.seq ?_
 refine EvC.cond (by simp only [go_sem] <;> rfl) (fun hc => ?_) (fun hc => ?_)
 rotate_left
 ·
  obtain rfl : k = s := by have : ¬ s < k := by simpa using hc
                           omega
  refine EvC.exit ?_
  clear hs6 hsin
  rw [opart_all, initW_all (t := t) (c := c)]
  have hor : (ocell I k).map (fun c => c.map (AV.ren (osegK [(1000200, 1000200), (1000201, 1000201), (1000202, 1000202)] (k) []))) = ocell I k := ocell_ren (fun j hj => rlook_osegK_lo hj hk6 (A := [(1000200, 1000200), (1000201, 1000201), (1000202, 1000202)]) rfl)
  have hol := ocell_len I k
  have hotz : (ocell I k).take k = ocell I k := List.take_of_length_le (by omega)
  have hcl : (c.map natC).length = t.rows.length := by rw [List.length_map, hl]
  obtain ⟨N, hNd⟩ : ∃ N, N = t.rows.length := ⟨_, rfl⟩
  rw [← hNd] at hl hcl hrw
  refine EvC.seq ?_
  refine EvC.seq (EvC.rg (by simp only [go_sem, hcl] <;> rfl) (by simp) ?_)
  refine EvC.block ?_
  refine EvC.loopS (σ := Nat) (fun n => ⟨[(0, .ia [.sc (.int .i64 t.ins), .sc (.int .i64 t.outs), .sl t.nl (t.rows.map rowC) .unk, .sl false ((frT t).map prC) .full, .sl false (c.map natC) .unk, .sc (.int .i64 fuel), .sc (.bool sp)]), (4, .rf 1000200 0), (5, .rf 1000201 0), (63, .sl false (c.map natC) .unk), (64, .sc (.int .i64 N)), (65, .sc (.int .i64 n))], [],
   (1000200, .cells [.sc (.int .i64 0), .sc (.int .i64 0), .sl true [] .zer]) :: (1000201, .cells [.sc (.int .i64 t.ins), .sc (.int .i64 t.outs), .tv 1000202 k 0 k (.val k)]) :: (1000202, .arr 1 (ocell I k) false) :: otab 2 edgeC (colW t c n 0) k I, 3000000⟩) (fun n => N - n) (fun n => n ≤ N) [0, 4, 5, 63, 64, 65] 3000000 ?_ ?_
  ·exact ⟨(osegK [(1000200, 1000200), (1000201, 1000201), (1000202, 1000202)] (k) []), 0, (osegK_ok (A := [(1000200, 1000200), (1000201, 1000201), (1000202, 1000202)]) rfl rfl rfl hk6 (by omega)), (by simp only [go_sem, hI, rlook_osegK_hi hk6, List.cons_append, List.nil_append, List.append_nil, renMem_oK_cons hk6, otab_ren 2 norefs_edgeC, hor, ite_self, Int.natCast_add, Int.natCast_one, Int.natCast_zero] <;> rfl), Nat.zero_le _⟩
  intro n hn
  have hnin : (n : Int).toNat = n := Int.toNat_natCast n
  refine EvC.seq (EvC.rg (by simp only [go_sem] <;> rfl) (by simp) ?_)
  refine EvC.seq ?_
  refine EvC.cond (by simp only [go_sem] <;> rfl) (fun hc => ?_) (fun hc => ?_)
  rotate_left
  ·
   obtain rfl : n = N := by have : ¬ n < N := by simpa using hc
                            omega
   refine EvC.exit ?_
   obtain ⟨W, hW⟩ : ∃ W, W = colW t c n 0 := ⟨_, rfl⟩
   have hWe : rowsV (fun s i => edgeK t c s i n) k I = rowsV W k I := by
    rw [hW]
    unfold rowsV
    refine List.map_congr_left fun s _ => ?_
    have : gcells edgeC (fun i => edgeK t c s i n) I = gcells edgeC (colW t c n 0 s) I := by
     unfold gcells
     refine List.map_congr_left fun i _ => ?_
     unfold colW
     rw [if_neg (Nat.not_lt_zero _)]
    rw [this]
   rw [← hW]
   refine EvC.ofzAll k (fun i hi => ⟨2, gcells edgeC (W i) I, false, by simp only [mlook, o_ne (show i < 1000000 by omega), if_false, otab_look 2 edgeC W hi, go_sem], gcells_norefs norefs_edgeC _ _⟩) ?_
   have hfz := otab_fz 2 edgeC W k I
   obtain ⟨MM, hMM⟩ : ∃ MM : Mem, MM = (1000200, .cells [.sc (.int .i64 0), .sc (.int .i64 0), .sl true [] .zer]) :: (1000201, .cells [.sc (.int .i64 t.ins), .sc (.int .i64 t.outs), .tv 1000202 k 0 k (.val k)]) :: (1000202, .arr 1 (ocell I k) false) :: otabF 2 edgeC W k I := ⟨_, rfl⟩
   have hsn : (ocell I k).map (fun c => c.map (AV.deep (snap MM))) = rowsV W k I := ocell_snap (e := 2) (row := fun s => gcells edgeC (W s) I) (fun s hs => by
    rw [hMM]
    simp only [mlook, o_ne (show s < 1000000 by omega), if_false, otabF_look 2 edgeC W hs, go_sem]) (fun s _ => gcells_len _ _ _)
   rw [hMM] at hsn
   have hvl := rowsV_len W k I
   have hvn : (rowsV W k I).all AV.norefs = true := by simp [rowsV, List.all_eq_true, AV.norefs, AV.noref]
   have hmF : ∀ f, memMap f (otabF 2 edgeC W k I) = otabF 2 edgeC W k I := fun f => by rw [otabF, memMap_msegA, List.map_map]; rfl
   refine EvC.snapA 1000202 (by simp only [go_sem, ofzAll_cons hk6, hfz, hsn] <;> rfl) ?_
   refine EvC.frzD 1000202 (by simp only [go_sem, hvn, hvl, hmF] <;> rfl) ?_
   refine EvC.seq (EvC.rg (by simp only [go_sem] <;> rfl) (by simp) ?_)
   rw [← hNd, hWe]
   refine EvC.ret ⟨.inl rfl, _, (by simp only [go_sem] <;> rfl), ?_, rfl⟩
   simp only [go_sem]
  have hnN : n < N := by simpa using hc
  clear hc
  refine EvC.skip ?_
  refine EvC.seq ?_
  refine EvC.block ?_
  have hgn := stN_get (c := c) (m := n) (by omega)
  have hck1 : stN c n < k := hck _ (List.mem_of_getElem? hgn)
  have hsin : ((stN c n : Nat) : Int).toNat = stN c n := Int.toNat_natCast _
  obtain ⟨A, hA, hAl⟩ : ∃ A : Row, t.rows[n]? = some A ∧ (A.2.length : Int) = t.ins := by
   obtain ⟨A, h1, h2, _⟩ := row_get v (n := n) (i := 0) (by omega) (by omega)
   exact ⟨A, h1, h2⟩
  have hAI : A.2.length = I := by omega
  refine EvC.seq (EvC.rg (by simp only [go_sem, hgn, hnin, natC, hcl] <;> rfl) (by simp; try omega) ?_)
  refine EvC.seq (EvC.rg (by simp only [go_sem, hA, hnin, rowC, List.length_map, hAI] <;> rfl) (by simp; try omega) ?_)
  refine EvC.block ?_
  refine EvC.loopS (σ := Nat) (fun i => ⟨[(0, .ia [.sc (.int .i64 t.ins), .sc (.int .i64 t.outs), .sl t.nl (t.rows.map rowC) .unk, .sl false ((frT t).map prC) .full, .sl false (c.map natC) .unk, .sc (.int .i64 fuel), .sc (.bool sp)]), (4, .rf 1000200 0), (5, .rf 1000201 0), (8, .sc (.int .i64 n)), (9, .sc (.int .i64 (stN c n))), (63, .sl false (c.map natC) .unk), (64, .sc (.int .i64 N)), (65, .sc (.int .i64 n)), (77, .sl A.1 (A.2.map edgeC) .unk), (78, .sc (.int .i64 I)), (79, .sc (.int .i64 i))], [],
   (1000200, .cells [.sc (.int .i64 0), .sc (.int .i64 0), .sl true [] .zer]) :: (1000201, .cells [.sc (.int .i64 t.ins), .sc (.int .i64 t.outs), .tv 1000202 k 0 k (.val k)]) :: (1000202, .arr 1 (ocell I k) false) :: otab 2 edgeC (colW t c n i) k I, 3000000⟩) (fun i => I - i) (fun i => i ≤ I) [0, 4, 5, 8, 9, 63, 64, 65, 77, 78, 79] 3000000 ?_ ?_
  ·exact ⟨(osegK [(1000200, 1000200), (1000201, 1000201), (1000202, 1000202)] (k) []), 0, (osegK_ok (A := [(1000200, 1000200), (1000201, 1000201), (1000202, 1000202)]) rfl rfl rfl hk6 (by omega)), (by simp only [go_sem, hI, rlook_osegK_hi hk6, List.cons_append, List.nil_append, List.append_nil, renMem_oK_cons hk6, otab_ren 2 norefs_edgeC, hor, ite_self, Int.natCast_add, Int.natCast_one, Int.natCast_zero] <;> rfl), Nat.zero_le _⟩
  intro i hi
  have hiin : (i : Int).toNat = i := Int.toNat_natCast i
  refine EvC.seq (EvC.rg (by simp only [go_sem] <;> rfl) (by simp) ?_)
  refine EvC.seq ?_
  refine EvC.cond (by simp only [go_sem] <;> rfl) (fun hc => ?_) (fun hc => ?_)
  rotate_left
  ·
   obtain rfl : i = I := by have : ¬ i < I := by simpa using hc
                            omega
   refine EvC.exit ?_
   refine EvC.rg (by simp only [go_sem] <;> rfl) (by exact inI64_of (by omega) (by omega)) ?_
   exact ⟨(osegK [(1000200, 1000200), (1000201, 1000201), (1000202, 1000202)] (k) []), n + 1, (osegK_ok (A := [(1000200, 1000200), (1000201, 1000201), (1000202, 1000202)]) rfl rfl rfl hk6 (by omega)), (by simp only [go_sem, hI, rlook_osegK_hi hk6, List.cons_append, List.nil_append, List.append_nil, renMem_oK_cons hk6, otab_ren 2 norefs_edgeC, hor, ite_self, Int.natCast_add, Int.natCast_one, Int.natCast_zero, colW_next] <;> rfl), hnN, by omega⟩
  have hiI : i < I := by simpa using hc
  clear hc
  refine EvC.skip ?_
  refine EvC.seq ?_
  refine EvC.block ?_
  have hAi : A.2[i]? = some (eT t n i) := by
   obtain ⟨A', h1, _, h2⟩ := row_get v (n := n) (i := i) (by omega) (by omega)
   rw [hA] at h1; cases h1; exact h2
  have eA := v.edge (n := n) (i := i) (by omega) (by omega)
  have hkeep := fun h => colW_keep (t := t) (c := c) (n := n) (i := i) (k := k) (m := I) h
  have hcs := fun h => colW_set (t := t) (c := c) (n := n) (i := i) (k := k) (m := I) h
  generalize eT t n i = e at hAi eA hkeep hcs
  obtain ⟨e1, e2⟩ := e
  simp only at eA hkeep hcs
  refine EvC.seq (EvC.rg (by simp only [go_sem, hAi, hiin, edgeC, List.length_map] <;> rfl) (by simp; try omega) ?_)
  have hmd : ∀ j, notO j = true → mdel (otab 2 edgeC (colW t c n i) k I) j = otab 2 edgeC (colW t c n i) k I := fun j hj => mdel_otab _ _ _ hk6 j hj
  refine EvC.frzB 3000004 (by simp only [go_sem, hmd 3000004 rfl] <;> rfl) ?_
  refine EvC.seq (EvC.rg (by simp only [go_sem] <;> rfl) (by simp) ?_)
  by_cases he : e1 = -1
  ·refine EvC.cond_false (by simp only [go_sem, decide_eq_true he] <;> rfl) ?_
   refine EvC.skip ?_
   refine EvC.rg (by simp only [go_sem] <;> rfl) (by exact inI64_of (by omega) (by omega)) ?_
   exact ⟨(osegK [(1000200, 1000200), (1000201, 1000201), (1000202, 1000202)] (k) []), i + 1, (osegK_ok (A := [(1000200, 1000200), (1000201, 1000201), (1000202, 1000202)]) rfl rfl rfl hk6 (by omega)), (by simp only [go_sem, hI, rlook_osegK_hi hk6, List.cons_append, List.nil_append, List.append_nil, renMem_oK_cons hk6, otab_ren 2 norefs_edgeC, hor, ite_self, Int.natCast_add, Int.natCast_one, Int.natCast_zero, hkeep he] <;> rfl), by omega, by omega⟩
  refine EvC.cond_true (by simp only [go_sem, decide_eq_false he] <;> rfl) ?_
  obtain ⟨q, rfl⟩ : ∃ q : Nat, e1 = q := ⟨e1.toNat, by omega⟩
  have hqin : (q : Int).toNat = q := Int.toNat_natCast q
  have hgq := stN_get (c := c) (m := q) (by omega)
  have hocg := ocell_get (m := I) hck1
  have hlk := otab_look 2 edgeC (colW t c n i) (m := I) hck1
  have hgi := gcells_get edgeC (colW t c n i (stN c n)) hiI
  have hcs := hcs he
  rw [hqin] at hcs
  have hset : mset (otab 2 edgeC (colW t c n i) k I) (2000000 + stN c n) (.arr 2 ((gcells edgeC (colW t c n i (stN c n)) I).set i [.sc (.int .i64 (stN c q)), .sc (.int .i64 e2)]) false) = otab 2 edgeC (colW t c n (i + 1)) k I := by
   rw [← hcs]; exact otab_set 2 edgeC (colW t c n i) ((stN c q : Nat), e2) hck1 hiI
  apply EvC.drd mixed
  ·simp only [go_sem, hotz, hol, hocg, hsin, hiin, hqin, hgq, natC, hcl, o_ne (show stN c n < 1000000 by omega), hlk, gcells_len, hgi, hset, edgeC, List.drop_succ_cons, List.drop_zero] <;> rfl
  ·simp [hol]; try omega
  ·exact confAll_slots (by simp [rdOk, slotsOf, opSlots, memless, Op.operands]) (by kernel_rfl)
  refine EvC.rg (by simp only [go_sem] <;> rfl) (by exact inI64_of (by omega) (by omega)) ?_
  exact ⟨(osegK [(1000200, 1000200), (1000201, 1000201), (1000202, 1000202)] (k) []), i + 1, (osegK_ok (A := [(1000200, 1000200), (1000201, 1000201), (1000202, 1000202)]) rfl rfl rfl hk6 (by omega)), (by simp only [go_sem, hI, rlook_osegK_hi hk6, List.cons_append, List.nil_append, List.append_nil, renMem_oK_cons hk6, otab_ren 2 norefs_edgeC, hor, ite_self, Int.natCast_add, Int.natCast_one, Int.natCast_zero] <;> rfl), by omega, by omega⟩
 have hsk : s < k := by simpa using hc
 clear hc
 refine EvC.skip ?_
 refine EvC.seq ?_
 refine EvC.block ?_
 have hti := opart_get (m := I) hsk
 have hIin : (I : Int).toNat = I := Int.toNat_natCast I
 have hrI : (List.replicate I [AV.sc (.int .i64 0), .sc (.int .i64 0)]).length = I := List.length_replicate
 refine EvC.seq (EvC.rg (by simp only [go_sem] <;> rfl) (by simp) ?_)
 apply EvC.seq
 apply EvC.drwA mixed
 ·apply Tr.done
  ·simp only [go_sem, hI, hIin, htl, hti, hsin, hrI, mlook_mset] <;> rfl
  ·simp [room_eq, htl]; omega
 ·kernel_rfl
 have hrow0 : gcells edgeC (initW s 0 s) I = List.replicate I [.sc (.int .i64 0), .sc (.int .i64 0)] := by
  unfold gcells
  rw [List.eq_replicate_iff]
  refine ⟨by simp, fun b hb => ?_⟩
  obtain ⟨j, _, rfl⟩ := List.mem_map.1 hb
  unfold initW
  rw [if_neg (by omega)]; rfl
 rw [← hrow0]
 have hlo : ∀ j, j < s → rlook (osegK [(1000200, 1000200), (1000201, 1000201), (1000202, 1000202)] s [(3000011, 2000000 + s)]) (2000000 + j) = some (2000000 + j) := fun j hj => rlook_osegK_lo hj hs6 (A := [(1000200, 1000200), (1000201, 1000201), (1000202, 1000202)]) rfl
 have hhi : rlook (osegK [(1000200, 1000200), (1000201, 1000201), (1000202, 1000202)] s [(3000011, 2000000 + s)]) 3000011 = some (2000000 + s) := rlook_osegK_hi hs6 _ _ _ rfl
 have hpr := opart_ren (m := I) hsk hhi hlo
 have hpn := opart_norefs (m := I) (k := 3000011) hsk
 refine EvC.gcE (st2 := ⟨[(0, .ia [.sc (.int .i64 t.ins), .sc (.int .i64 t.outs), .sl t.nl (t.rows.map rowC) .unk, .sl false ((frT t).map prC) .full, .sl false (c.map natC) .unk, .sc (.int .i64 fuel), .sc (.bool sp)]), (4, .rf 1000200 0), (5, .rf 1000201 0), (6, .sc (.int .i64 s)), (27, .sc (.int .i64 k)), (28, .sc (.int .i64 s))], [],
  (1000200, .cells [.sc (.int .i64 0), .sc (.int .i64 0), .sl true [] .zer]) :: (1000201, .cells [.sc (.int .i64 t.ins), .sc (.int .i64 t.outs), .tv 1000202 k 0 k (.val k)]) :: (1000202, .arr 1 (opart I k (s + 1)) false) :: otab 2 edgeC (initW s 0) (s + 1) I, 3000000⟩) [0, 4, 5, 6, 27, 28] (osegK [(1000200, 1000200), (1000201, 1000201), (1000202, 1000202)] s [(3000011, 2000000 + s)]) 3000000 (osegK_ok1 (A := [(1000200, 1000200), (1000201, 1000201), (1000202, 1000202)]) rfl rfl rfl rfl rfl (by decide) (by decide) (by omega) (by omega)) ?_ ?_
 ·simp only [go_sem, hI, rlook_osegK_hi hs6, List.cons_append, List.nil_append, renMem_oK_cons hs6, renMem_oK_mset hs6, mlook_mset, gcells_norefs norefs_edgeC, otab_ren 2 norefs_edgeC, otab_snoc, hpr, hpn] <;> rfl
 have hs7 : s + 1 ≤ 1000000 := by omega
 have htl1 := opart_len (m := I) (n := k) (s := s + 1) hsk
 have hgs1 : (opart I k (s + 1))[s]? = some [.tl (2000000 + s) I false] := by
  rw [opart, List.getElem?_append_left (by rw [ocell_len]; omega), ocell_get (by omega)]
 have htz1 : ((opart I k (s + 1)).take k).length = k := by rw [List.length_take, htl1, Nat.min_self]
 have htz2 : (opart I k (s + 1)).take k = opart I k (s + 1) := List.take_of_length_le (by omega)
 have hon := fun W => otab_look 2 edgeC W (n := s + 1) (m := I) (s := s) (by omega)
 refine EvC.seq (EvC.rg (by simp only [go_sem, htl1, htz2, hgs1, hsin, o_ne (show s < 1000000 by omega), hon, gcells_len] <;> rfl) (by simp [htl1]; try omega) ?_)
 have hor1 : (opart I k (s + 1)).map (fun c => c.map (AV.ren (osegK [(1000200, 1000200), (1000201, 1000201), (1000202, 1000202)] (s + 1) []))) = opart I k (s + 1) := by
  rw [opart, List.map_append, ocell_ren (fun j hj => rlook_osegK_lo hj hs7 (A := [(1000200, 1000200), (1000201, 1000201), (1000202, 1000202)]) rfl)]
  congr 1
  rw [List.map_replicate]; rfl
 refine EvC.block ?_
 refine EvC.loopS (σ := Nat) (fun i => ⟨[(0, .ia [.sc (.int .i64 t.ins), .sc (.int .i64 t.outs), .sl t.nl (t.rows.map rowC) .unk, .sl false ((frT t).map prC) .full, .sl false (c.map natC) .unk, .sc (.int .i64 fuel), .sc (.bool sp)]), (4, .rf 1000200 0), (5, .rf 1000201 0), (6, .sc (.int .i64 s)), (27, .sc (.int .i64 k)), (28, .sc (.int .i64 s)), (46, .sc (.int .i64 I)), (47, .sc (.int .i64 i))], [],
  (1000200, .cells [.sc (.int .i64 0), .sc (.int .i64 0), .sl true [] .zer]) :: (1000201, .cells [.sc (.int .i64 t.ins), .sc (.int .i64 t.outs), .tv 1000202 k 0 k (.val k)]) :: (1000202, .arr 1 (opart I k (s + 1)) false) :: otab 2 edgeC (initW s i) (s + 1) I, 3000000⟩) (fun i => I - i) (fun i => i ≤ I) [0, 4, 5, 6, 27, 28, 46, 47] 3000000 ?_ ?_
 ·exact ⟨(osegK [(1000200, 1000200), (1000201, 1000201), (1000202, 1000202)] (s + 1) []), 0, (osegK_ok (A := [(1000200, 1000200), (1000201, 1000201), (1000202, 1000202)]) rfl rfl rfl hs7 (by omega)), (by simp only [go_sem, hI, rlook_osegK_hi hs7, List.cons_append, List.nil_append, List.append_nil, renMem_oK_cons hs7, otab_ren 2 norefs_edgeC, hor1, ite_self, Int.natCast_add, Int.natCast_one, Int.natCast_zero] <;> rfl), Nat.zero_le _⟩
 intro i hi
 have hiin : (i : Int).toNat = i := Int.toNat_natCast i
 refine EvC.seq (EvC.rg (by simp only [go_sem] <;> rfl) (by simp) ?_)
 refine EvC.seq ?_
 refine EvC.cond (by simp only [go_sem] <;> rfl) (fun hc => ?_) (fun hc => ?_)
 rotate_left
 ·
  obtain rfl : i = I := by have : ¬ i < I := by simpa using hc
                           omega
  refine EvC.exit ?_
  refine EvC.rg (by simp only [go_sem] <;> rfl) (by exact inI64_of (by omega) (by omega)) ?_
  exact ⟨(osegK [(1000200, 1000200), (1000201, 1000201), (1000202, 1000202)] (s + 1) []), s + 1, (osegK_ok (A := [(1000200, 1000200), (1000201, 1000201), (1000202, 1000202)]) rfl rfl rfl hs7 (by omega)), (by simp only [go_sem, hI, rlook_osegK_hi hs7, List.cons_append, List.nil_append, List.append_nil, renMem_oK_cons hs7, otab_ren 2 norefs_edgeC, hor1, ite_self, Int.natCast_add, Int.natCast_one, Int.natCast_zero, initW_next] <;> rfl), hsk, by omega⟩
 have hiI : i < I := by simpa using hc
 clear hc
 refine EvC.skip ?_
 refine EvC.seq ?_
 refine EvC.block ?_
 have hgi := gcells_get edgeC (initW s i s) hiI
 have hset : mset (otab 2 edgeC (initW s i) (s + 1) I) (2000000 + s) (.arr 2 ((gcells edgeC (initW s i s) I).set i [.sc (.int .i64 (-1)), .sc (.int .i64 (-1))]) false) = otab 2 edgeC (initW s (i + 1)) (s + 1) I := by
  rw [← initW_set rfl]; exact otab_set 2 edgeC (initW s i) (-1, -1) (by omega) hiI
 refine EvC.seq (EvC.rg (by simp only [go_sem] <;> rfl) (by simp) ?_)
 refine EvC.rg (by simp only [go_sem, htl1, htz2, hgs1, hsin, hiin, o_ne (show s < 1000000 by omega), hon, gcells_len, hgi, hset, edgeC, List.drop_succ_cons, List.drop_zero] <;> rfl) (by simp [htl1]; try omega) ?_
 refine EvC.rg (by simp only [go_sem] <;> rfl) (by exact inI64_of (by omega) (by omega)) ?_
 exact ⟨(osegK [(1000200, 1000200), (1000201, 1000201), (1000202, 1000202)] (s + 1) []), i + 1, (osegK_ok (A := [(1000200, 1000200), (1000201, 1000201), (1000202, 1000202)]) rfl rfl rfl hs7 (by omega)), (by simp only [go_sem, hI, rlook_osegK_hi hs7, List.cons_append, List.nil_append, List.append_nil, renMem_oK_cons hs7, otab_ren 2 norefs_edgeC, hor1, ite_self, Int.natCast_add, Int.natCast_one, Int.natCast_zero] <;> rfl), by omega, by omega⟩
end Go.Avl
namespace Go.Avl
open Go Go.Proofs.Try
set_option maxRecDepth 10000
set_option linter.unusedSimpArgs false
inductive LR
 | done (c : List Nat) (k fuel : Nat)
 | spent
 | limit
def leastL (t : Mach) : Nat → Nat → Nat → LR
 | 0, _, _ => .limit
 | n + 1, k, fuel => match srch t k t.rows.length [] 0 fuel with
   | .found c f => .done c k f
   | .spent => .spent
   | .fail f => leastL t n (k + 1) f
def leastRes (t : Mach) (fuel : Int) : AV :=
 if nodesE t [] ≠ 0 then .tu [zeroM, .sc (.int .i64 0), .sc (.int .i64 (nodesE t []))]
 else if fuel < 1 then .tu [zeroM, .sc (.int .i64 0), .sc (.int .i64 17)]
 else match leastL t 64 1 fuel.toNat with
  | .done c k f => .tu [colRes t c k, .sc (.int .i64 f), .sc (.int .i64 0)]
  | .spent => .tu [zeroM, .sc (.int .i64 0), .sc (.int .i64 17)]
  | .limit => .tu [zeroM, .sc (.int .i64 0), .sc (.int .i64 3)]
def frW (t : Mach) (n i : Nat) (k : Nat) : Nat × Nat := if (parT t k).1 < n ∨ ((parT t k).1 = n ∧ (parT t k).2 < i) then parT t k else (0, 0)
def frP (t : Mach) (n i : Nat) : List (Nat × Nat) := (List.range t.rows.length).map (frW t n i)
theorem srch_spec (t : Mach) (k : Nat) : ∀ (d : Nat) (c : List Nat) (used fuel : Nat) (c' : List Nat) (f' : Nat), srch t k d c used fuel = .found c' f' → c'.length = c.length + d ∧ ((∀ x ∈ c, x < k) → ∀ x ∈ c', x < k)
 | 0, c, used, fuel, c', f', h => by
   rw [srch] at h; cases h
   exact ⟨rfl, id⟩
 | d + 1, c, used, fuel, c', f', h => by
   rw [srch] at h
   have key : ∀ (l : List Nat) (r : SR), (∀ x ∈ l, x < k) → (∀ c' f', r = .found c' f' → c'.length = c.length + (d + 1) ∧ ((∀ x ∈ c, x < k) → ∀ x ∈ c', x < k)) → ∀ c' f', l.foldl (stepS t (srch t k d) c used) r = .found c' f' → c'.length = c.length + (d + 1) ∧ ((∀ x ∈ c, x < k) → ∀ x ∈ c', x < k) := fun l => by
    induction l with
    | nil => intro r _ h; exact h
    | cons x l ih =>
      intro r hl h
      rw [List.foldl_cons]
      refine ih _ (fun y hy => hl y (List.mem_cons_of_mem _ hy)) fun c' f' he => ?_
      unfold stepS at he
      cases r with
      | found c2 f2 => exact h c' f' he
      | spent => cases he
      | fail f =>
        simp only at he
        split at he
        ·cases he
        ·split at he
         ·obtain ⟨h1, h2⟩ := srch_spec t k d _ _ _ _ _ he
          refine ⟨by rw [h1]; simp; omega, fun h3 => h2 fun y hy => ?_⟩
          rcases List.mem_append.1 hy with hy | hy
          ·exact h3 y hy
          ·rw [List.mem_singleton.1 hy]; exact hl x (by simp)
         ·cases he
   exact key _ _ (fun x hx => by have := List.mem_range.1 hx; omega) (fun c' f' he => by cases he) c' f' h
theorem ColOk.ren2 {cv : AV} {E c : List Nat} (h : ColOk cv E c) : AV.deep (renLeaf [(0, 0), (1, 1), (2, 2)]) cv = cv := by
 rcases h with ⟨_, _, rfl⟩ | ⟨rfl, _⟩ <;> rfl
theorem ColOk.framed {t : Mach} {cv : AV} {E c : List Nat} (h : ColOk cv E c) (fuel : Int) (sp b : Bool) (o : RObj) : Framed [(2, o)] (.sc (.bool b)) (coM t cv E fuel sp) 3 := by
 have hren := h.ren
 have hnr := h.noref
 exact ⟨[(0, 0), (1, 1)], rfl, by simp only [go_sem, coM, coO, norefs_natC, hnr, hren] <;> rfl, rfl, rfl⟩
theorem parT_edge {t : Mach} (tp : TP t) {k : Nat} (h1 : 1 ≤ k) (h2 : k < t.rows.length) : (eT t (parT t k).1 (parT t k).2).1 = (k : Int) := by
 obtain ⟨p, i, k1, k2, k3⟩ := tp.has k h1 h2
 rw [parT_eq tp k1 k2 k3]; exact k3
theorem frP_len (t : Mach) (n i : Nat) : (frP t n i).length = t.rows.length := by simp [frP]
theorem frP_get {t : Mach} {n i k : Nat} (h : k < t.rows.length) : (frP t n i)[k]? = some (frW t n i k) := by rw [frP, List.getElem?_map, List.getElem?_range h]; rfl
theorem frP_zero (t : Mach) : (frP t 0 0).map prC = List.replicate t.rows.length [.sc (.int .i64 0), .sc (.int .i64 0)] := by
 rw [List.eq_replicate_iff]
 refine ⟨by simp [frP], fun b hb => ?_⟩
 obtain ⟨x, hx, rfl⟩ := List.mem_map.1 hb
 obtain ⟨k, _, rfl⟩ := List.mem_map.1 hx
 unfold frW
 rw [if_neg (by omega)]; rfl
theorem frP_keep {t : Mach} (tp : TP t) {n i : Nat} (he : (eT t n i).1 = -1) : frP t n (i + 1) = frP t n i := by
 unfold frP
 refine List.map_congr_left fun k hk => ?_
 have hk := List.mem_range.1 hk
 unfold frW
 by_cases h0 : k = 0
 ·subst h0; rw [parT_zero]; split <;> split <;> rfl
 ·have h := parT_edge tp (by omega) hk
  by_cases h1 : (parT t k).1 < n ∨ (parT t k).1 = n ∧ (parT t k).2 < i
  ·rw [if_pos h1, if_pos (by omega)]
  ·rw [if_neg h1, if_neg]
   intro h2
   have h3 : (parT t k).1 = n ∧ (parT t k).2 = i := by omega
   rw [h3.1, h3.2, he] at h
   omega
theorem frP_set {t : Mach} (v : TV t) (tp : TP t) {n i q : Nat} (hn : n < t.rows.length) (hi : (i : Int) < t.ins) (he : (eT t n i).1 = (q : Int)) : (frP t n i).set q (n, i) = frP t n (i + 1) := by
 have hq : n < q ∧ q < t.rows.length := by have := v.edge hn hi; omega
 refine List.ext_getElem? fun k => ?_
 rw [List.getElem?_set]
 by_cases hkq : q = k
 ·subst hkq
  rw [if_pos rfl, if_pos (by rw [frP_len]; exact hq.2), frP_get hq.2, frW, parT_eq tp hq.1 hi he, if_pos (by simp)]
 ·rw [if_neg hkq]
  by_cases hk : k < t.rows.length
  ·rw [frP_get hk, frP_get hk]
   congr 1
   unfold frW
   by_cases h0 : k = 0
   ·subst h0; rw [parT_zero]; split <;> split <;> rfl
   ·have h := parT_edge tp (by omega) hk
    by_cases h1 : (parT t k).1 < n ∨ (parT t k).1 = n ∧ (parT t k).2 < i
    ·rw [if_pos h1, if_pos (by omega)]
    ·rw [if_neg h1, if_neg]
     intro h2
     have h3 : (parT t k).1 = n ∧ (parT t k).2 = i := by omega
     rw [h3.1, h3.2, he] at h
     omega
  ·rw [List.getElem?_eq_none (by rw [frP_len]; omega), List.getElem?_eq_none (by rw [frP_len]; omega)]
theorem frP_next {t : Mach} (v : TV t) (tp : TP t) {n i : Nat} (hi : (i : Int) = t.ins) : frP t n i = frP t (n + 1) 0 := by
 unfold frP
 refine List.map_congr_left fun k hk => ?_
 have hk := List.mem_range.1 hk
 have := parT_in v tp hk
 unfold frW
 by_cases h1 : (parT t k).1 < n ∨ (parT t k).1 = n ∧ (parT t k).2 < i
 ·rw [if_pos h1, if_pos (by omega)]
 ·rw [if_neg h1, if_neg (by omega)]
theorem frP_all {t : Mach} (v : TV t) (tp : TP t) : frP t t.rows.length 0 = frT t := by
 unfold frP frT
 refine List.map_congr_left fun k hk => ?_
 have hk := List.mem_range.1 hk
 have := parT_in v tp hk
 unfold frW
 rw [if_pos (by omega)]
set_option maxHeartbeats 8000000 in
theorem least31_is (t : Mach) (hr : ∀ r ∈ t.rows, r.2.length < 1000000) (fuel : Int) (hfu : fuel ≤ 1000000) : PureIs prog 31 [.ag t.cells, .sc (.int .i64 fuel)] (leastRes t fuel) := by
 have hN := nodes37_is t hr true [] .zer (by simp)
 rw [show ([] : List Int).map intC = [] from rfl] at hN
 unfold leastRes zeroM
 generalize hne : nodesE t [] = e at hN
 refine PureIs.of (nv := 3) (hid := [4, 5, 6, 7, 8, 9, 10, 11, 12, 13, 17, 21, 27, 32, 33, 34, 35, 39, 40, 41, 42, 48, 62, 65, 66, 67, 78]) func31 rfl (by kernel_rfl) (by simp [ntmps31]) fun _ => ?_
 rw [ntmps31, results31]
 refine EvC.seq (EvC.rg (by simp only [go_sem, Mach.cells] <;> rfl) (by simp) ?_)
 refine EvC.frzB 0 (by simp only [go_sem] <;> rfl) ?_
 rw [Mach.cells] at hN
 refine EvC.seq ?_
 apply EvC.seq
 apply EvC.tr
 ·apply Tr.run
  ·simp only [go_sem] <;> rfl
  ·simp
  apply Tr.cons
  ·exact .call rfl rfl (by simp only [go_sem] <;> rfl) (by simp only [go_sem] <;> rfl) (by simp only [go_sem] <;> rfl) (by simp only [go_sem] <;> rfl) (by simp only [go_sem] <;> rfl) (hN)
  apply Tr.done
  ·simp only [go_sem] <;> rfl
  ·simp
 refine EvC.seq (EvC.rg (by simp only [go_sem] <;> rfl) (by simp) ?_)
 by_cases he : e = 0
 rotate_left
 ·rw [if_pos he]
  refine EvC.cond_true (by simp only [go_sem, decide_eq_false he] <;> rfl) ?_
  refine EvC.seq (EvC.rg (by simp only [go_sem] <;> rfl) (by simp) ?_)
  refine EvC.ret ⟨.inl rfl, _, (by simp only [go_sem] <;> rfl), ?_, rfl⟩
  simp only [go_sem]
 rw [if_neg (fun h => h he)]
 subst he
 obtain ⟨v, _⟩ := nodesE_ok hne
 have hck : checkT t = 0 := by
  unfold nodesE at hne
  by_cases h : checkT t = 0
  ·exact h
  ·rw [if_pos h] at hne; exact absurd hne h
 have tp := TP.of hck
 have hin := v.ins
 have hrw := v.rows
 refine EvC.cond_false (by simp only [go_sem] <;> rfl) ?_
 refine EvC.skip ?_
 refine EvC.seq ?_
 refine EvC.seq (EvC.rg (by simp only [go_sem] <;> rfl) (by simp) ?_)
 by_cases hf1 : fuel < 1
 ·rw [if_pos hf1]
  refine EvC.cond_true (by simp only [go_sem, decide_eq_true hf1] <;> rfl) ?_
  refine EvC.seq (EvC.rg (by simp only [go_sem] <;> rfl) (by simp) ?_)
  refine EvC.ret ⟨.inl rfl, _, (by simp only [go_sem] <;> rfl), ?_, rfl⟩
  simp only [go_sem]
 rw [if_neg hf1]
 refine EvC.cond_false (by simp only [go_sem, decide_eq_false hf1] <;> rfl) ?_
 refine EvC.skip ?_
 obtain ⟨fu, rfl⟩ : ∃ f : Nat, fuel = f := ⟨fuel.toNat, by omega⟩
 rw [Int.toNat_natCast]
 obtain ⟨N, hNd⟩ : ∃ N, N = t.rows.length := ⟨_, rfl⟩
 have hNi : ((N : Int)).toNat = N := Int.toNat_natCast N
 have hrz : (List.replicate N [AV.sc (.int .i64 0), .sc (.int .i64 0)]).length = N := List.length_replicate
 apply EvC.seq
 apply EvC.drwA mixed
 ·apply Tr.done
  ·simp only [go_sem, List.length_map, hNd.symm, hNi, hrz] <;> rfl
  ·simp [room_eq]; omega
 ·kernel_rfl
 refine EvC.seq ?_
 refine EvC.seq (EvC.rg (by simp only [go_sem, List.length_map, hNd.symm] <;> rfl) (by simp) ?_)
 refine EvC.block ?_
 refine EvC.loopS (σ := Nat) (fun n => ⟨[(2, .ia [.sc (.int .i64 t.ins), .sc (.int .i64 t.outs), .sl t.nl (t.rows.map rowC) .unk]), (4, .rf 2 0), (8, .rf 0 0), (32, .sl t.nl (t.rows.map rowC) .unk), (33, .sc (.int .i64 N)), (34, .sc (.int .i64 n))], [], [(0, .cells [.sc (.int .i64 t.ins), .sc (.int .i64 t.outs), .sl t.nl (t.rows.map rowC) .unk, .tv 1 N 0 N (.val N), .sl true [] .zer, .sc (.int .i64 fu), .sc (.bool false)]), (1, .arr 2 ((frP t n 0).map prC) false), (2, .cells [.sc (.int .i64 0), .sc (.int .i64 0), .sl true [] .zer])], 3⟩) (fun n => N - n) (fun n => n ≤ N) [2, 4, 8, 32, 33, 34] 3 ?_ ?_
 ·have hz := frP_zero t
  rw [← hNd] at hz
  have hzn := prC_norefs (frP t 0 0)
  rw [hz] at hzn
  exact ⟨[(18, 0), (15, 1), (1, 2)], 0, rfl, (by simp only [go_sem, hz, hzn, Int.natCast_zero] <;> rfl), Nat.zero_le _⟩
 intro n hn
 have hnin : (n : Int).toNat = n := Int.toNat_natCast n
 refine EvC.seq (EvC.rg (by simp only [go_sem] <;> rfl) (by simp) ?_)
 refine EvC.seq ?_
 refine EvC.cond (by simp only [go_sem] <;> rfl) (fun hc => ?_) (fun hc => ?_)
 rotate_left
 ·
  obtain rfl : n = N := by have : ¬ n < N := by simpa using hc
                           omega
  refine EvC.exit ?_
  rw [show frP t n 0 = frT t by rw [hNd]; exact frP_all v tp]
  have hfrl : ((frT t).map prC).length = n := by simp [frT, hNd]
  refine EvC.frzD 1 (by simp only [go_sem, prC_norefs, hfrl] <;> rfl) ?_
  refine EvC.ownC 0 4 1 (by simp only [go_sem] <;> rfl) ?_
  refine EvC.thaw 4 (by simp only [go_sem] <;> rfl) ?_
  refine EvC.seq ?_
  refine EvC.seq (EvC.rg (by simp only [go_sem] <;> rfl) (by simp) ?_)
  refine EvC.block ?_
  obtain ⟨res, hres⟩ : ∃ r, r = leastL t 64 1 fu := ⟨_, rfl⟩
  rw [← hres]
  refine EvC.loopS (σ := Nat × AV × List Nat × Nat) (fun g => ⟨[(4, .rf 2 0), (8, .rf 0 0), (13, .sc (.int .i64 g.1))], [], coM t g.2.1 g.2.2.1 g.2.2.2 false ++ [(2, .cells [.sc (.int .i64 0), .sc (.int .i64 0), .sl true [] .zer])], 3⟩) (fun g => 65 - g.1)
   (fun g => 1 ≤ g.1 ∧ g.1 ≤ 65 ∧ ColOk g.2.1 g.2.2.1 [] ∧ g.2.2.1.length ≤ t.rows.length ∧ g.2.2.2 ≤ 1000000 ∧ leastL t (65 - g.1) g.1 g.2.2.2 = res) [4, 8, 13] 3 ?_ ?_
  ·exact ⟨[(0, 0), (4, 1), (2, 2)], (1, .tl 1 0 true, [], fu), rfl, (by simp only [go_sem, coM, coO, List.map_nil, List.cons_append, List.nil_append, Int.natCast_one] <;> rfl), by simp, by simp, .inl ⟨rfl, rfl, rfl⟩, by simp, by simp only; omega, hres.symm⟩
  rintro ⟨k, cv, E, f⟩ ⟨g1, g2, hv, hE, g4, g5⟩
  simp only at g1 g2 hv hE g4 g5 ⊢
  have hren := hv.ren2
  have hnr := hv.noref
  refine EvC.seq ?_
  refine EvC.seq (EvC.rg (by simp only [go_sem] <;> rfl) (by simp) ?_)
  refine EvC.cond (by simp only [go_sem] <;> rfl) (fun hc => ?_) (fun hc => ?_)
  rotate_left
  ·
   obtain rfl : k = 65 := by have : ¬ (k : Int) ≤ 64 := by simpa using hc
                             omega
   rw [show res = .limit from g5.symm]
   refine EvC.exit ?_
   refine EvC.seq (EvC.rg (by simp only [go_sem, coM, coO, List.cons_append, List.nil_append] <;> rfl) (by simp) ?_)
   refine EvC.ret ⟨.inl rfl, _, (by simp only [go_sem] <;> rfl), ?_, rfl⟩
   simp only [go_sem]
  have hk : k ≤ 64 := by have : (k : Int) ≤ 64 := by simpa using hc
                         omega
  clear hc
  refine EvC.skip ?_
  refine EvC.seq ?_
  refine EvC.block ?_
  obtain ⟨m, hm⟩ : ∃ m, 65 - k = m + 1 := ⟨64 - k, by omega⟩
  rw [hm, leastL] at g5
  refine EvC.seq ?_
  apply EvC.seq
  apply EvC.rs
  ·simp only [go_sem] <;> rfl
  ·simp
  refine XR.gcTo ⟨[(4, .rf 2 0), (8, .rf 0 0), (13, .sc (.int .i64 k)), (65, .rf 0 0), (66, .sc (.int .i64 k))], [], coM t cv E f false ++ [(2, .cells [.sc (.int .i64 0), .sc (.int .i64 0), .sl true [] .zer])], 3⟩ [4, 8, 13, 65, 66] [(0, 0), (1, 1), (2, 2)] rfl (by simp only [go_sem, coM, coO, norefs_natC, hnr, hren, List.cons_append, List.nil_append] <;> rfl) ?_
  refine XR.callF (coM t cv E f false) [(2, .cells [.sc (.int .i64 0), .sc (.int .i64 0), .sl true [] .zer])] (xs := [.rf 0 0, .sc (.int .i64 k), .sc (.int .i64 (0 : Nat))]) rfl rfl (by simp only [go_sem] <;> rfl) (by simp only [go_sem] <;> rfl) (by simp only [go_sem, coM, coO, Int.natCast_zero] <;> rfl) (by simp only [go_sem] <;> rfl) rfl ?_
  refine search64_body v tp k hk n [] E cv 0 f (by simp; omega) hv hE (by omega) g4 ?_
  clear hv hE hren hnr
  intro b cv E f' sp hok
  obtain ⟨hE, hok⟩ := hok
  have hfl := srch_fuel t k n [] 0 f
  have hsp := srch_spec t k n [] 0 f
  cases hsr : srch t k n [] 0 f with
  | found c f2 =>
    rw [show t.rows.length = n from hNd.symm, hsr] at g5
    rw [hsr] at hok hfl
    obtain ⟨rfl, hv, rfl, rfl⟩ := hok
    obtain ⟨l1, l2⟩ := hsp c f' hsr
    have l2 := l2 (fun x hx => by cases hx)
    have hcn : c.length = n := by rw [l1]; simp
    refine ⟨by simp, hv.framed _ _ _ _, ?_⟩
    rw [show res = .done c k f' from g5.symm]
    rcases hv with ⟨h0, _⟩ | ⟨rfl, hE1, hE2, hE3⟩
    ·rw [h0] at hcn; simp at hcn; omega
    refine XR.nil ?_
    refine EvC.cond_true (by simp only [go_sem] <;> rfl) ?_
    have hMc := machine65_is v (by omega) ⟨g1, hk⟩ l2 f' false
    have hElen : (E.map natC).length = E.length := List.length_map _
    have hEt : (if c.length = E.length then E.map natC else List.take c.length (E.map natC)) = c.map natC := by
     split
     ·rename_i h
      rw [← hE1, List.take_of_length_le (by omega)]
     ·rw [← List.map_take, hE1]
    refine EvC.frzD 1 (by simp only [go_sem, coM, coO, List.cons_append, List.nil_append, norefs_natC, hElen, hEt] <;> rfl) ?_
    refine EvC.frzB 0 (by simp only [go_sem] <;> rfl) ?_
    unfold colA at hMc
    have hcl : ∃ A, colRes t c k = .ag [.sc (.int .i64 t.ins), .sc (.int .i64 t.outs), .sl false A .full] := ⟨_, rfl⟩
    obtain ⟨A, hcA⟩ := hcl
    rw [hcA] at hMc
    apply EvC.seq
    apply EvC.drw mixed
    ·apply Tr.run
     ·simp only [go_sem] <;> rfl
     ·simp
     apply Tr.cons
     ·exact .call rfl rfl (by simp only [go_sem] <;> rfl) (by simp only [go_sem] <;> rfl) (by simp only [go_sem] <;> rfl) (by simp only [go_sem] <;> rfl) (by simp only [go_sem] <;> rfl) (hMc)
     apply Tr.done
     ·simp only [go_sem] <;> rfl
     ·simp
    ·kernel_rfl
    refine EvC.ret ⟨.inl rfl, _, (by simp only [go_sem] <;> rfl), ?_, rfl⟩
    simp only [go_sem]
    rw [hcA]
  | spent =>
    rw [show t.rows.length = n from hNd.symm, hsr] at g5
    rw [hsr] at hok
    obtain ⟨rfl, rfl, ⟨c, hv⟩, rfl⟩ := hok
    refine ⟨by simp, hv.framed _ _ _ _, ?_⟩
    rw [show res = .spent from g5.symm]
    refine XR.nil ?_
    refine EvC.cond_false (by simp only [go_sem] <;> rfl) ?_
    refine EvC.skip ?_
    refine EvC.seq (EvC.rg (by simp only [go_sem, coM, coO, List.cons_append, List.nil_append] <;> rfl) (by simp) ?_)
    refine EvC.cond_true (by simp only [go_sem] <;> rfl) ?_
    refine EvC.seq (EvC.rg (by simp only [go_sem] <;> rfl) (by simp) ?_)
    refine EvC.ret ⟨.inl rfl, _, (by simp only [go_sem] <;> rfl), ?_, rfl⟩
    simp only [go_sem]
  | fail f2 =>
    rw [show t.rows.length = n from hNd.symm, hsr] at g5
    rw [hsr] at hok hfl
    obtain ⟨rfl, hv, rfl, rfl⟩ := hok
    have hfl : f' ≤ f := hfl
    have hren := hv.ren2
    have hnr := hv.noref
    refine ⟨by simp, hv.framed _ _ _ _, ?_⟩
    refine XR.nil ?_
    refine EvC.cond_false (by simp only [go_sem] <;> rfl) ?_
    refine EvC.skip ?_
    refine EvC.seq (EvC.rg (by simp only [go_sem, coM, coO, List.cons_append, List.nil_append] <;> rfl) (by simp) ?_)
    refine EvC.cond_false (by simp only [go_sem] <;> rfl) ?_
    refine EvC.skip ?_
    refine EvC.rg (by simp only [go_sem] <;> rfl) (by exact inI64_of (by omega) (by omega)) ?_
    exact ⟨[(0, 0), (1, 1), (2, 2)], (k + 1, cv, E, f'), rfl, (by simp only [go_sem, coM, coO, norefs_natC, hnr, hren, List.cons_append, List.nil_append, Int.natCast_add, Int.natCast_one] <;> rfl), ⟨by simp only; omega, by simp only; omega, hv, hE, by simp only; omega, by simp only; rw [show 65 - (k + 1) = m by omega]; exact g5⟩, by simp only; omega⟩
 have hnN : n < N := by simpa using hc
 clear hc
 refine EvC.skip ?_
 refine EvC.seq ?_
 refine EvC.block ?_
 obtain ⟨A, hA⟩ : ∃ A, t.rows[n]? = some A := ⟨_, List.getElem?_eq_getElem (by omega)⟩
 have hAl := (v.row n A hA).1
 refine EvC.seq (EvC.rg (by simp only [go_sem, hA, hnin, rowC, List.length_map] <;> rfl) (by simp) ?_)
 refine EvC.seq (EvC.rg (by simp only [go_sem, List.length_map] <;> rfl) (by simp) ?_)
 refine EvC.block ?_
 refine EvC.loopS (σ := Nat) (fun i => ⟨[(2, .ia [.sc (.int .i64 t.ins), .sc (.int .i64 t.outs), .sl t.nl (t.rows.map rowC) .unk]), (4, .rf 2 0), (8, .rf 0 0), (9, .sc (.int .i64 n)), (32, .sl t.nl (t.rows.map rowC) .unk), (33, .sc (.int .i64 N)), (34, .sc (.int .i64 n)), (39, .sl A.1 (A.2.map edgeC) .unk), (40, .sc (.int .i64 A.2.length)), (41, .sc (.int .i64 i))], [], [(0, .cells [.sc (.int .i64 t.ins), .sc (.int .i64 t.outs), .sl t.nl (t.rows.map rowC) .unk, .tv 1 N 0 N (.val N), .sl true [] .zer, .sc (.int .i64 fu), .sc (.bool false)]), (1, .arr 2 ((frP t n i).map prC) false), (2, .cells [.sc (.int .i64 0), .sc (.int .i64 0), .sl true [] .zer])], 3⟩) (fun i => t.ins.toNat - i) (fun i => (i : Int) ≤ t.ins) [2, 4, 8, 9, 32, 33, 34, 39, 40, 41] 3 ?_ ?_
 ·exact ⟨[(0, 0), (1, 1), (2, 2)], 0, rfl, (by simp only [go_sem, prC_norefs, Int.natCast_zero] <;> rfl), by omega⟩
 intro i hi
 have hiin : (i : Int).toNat = i := Int.toNat_natCast i
 refine EvC.seq (EvC.rg (by simp only [go_sem] <;> rfl) (by simp) ?_)
 refine EvC.seq ?_
 refine EvC.cond (by simp only [go_sem] <;> rfl) (fun hc => ?_) (fun hc => ?_)
 rotate_left
 ·
  have hiI : ¬ i < A.2.length := by simpa using hc
  refine EvC.exit ?_
  rw [frP_next v tp (show (i : Int) = t.ins by omega)]
  refine EvC.rg (by simp only [go_sem] <;> rfl) (by exact inI64_of (by omega) (by omega)) ?_
  exact ⟨[(0, 0), (1, 1), (2, 2)], n + 1, rfl, (by simp only [go_sem, prC_norefs, Int.natCast_add, Int.natCast_one] <;> rfl), hnN, by omega⟩
 have hi : (i : Int) < t.ins := by have : i < A.2.length := by simpa using hc
                                   omega
 clear hc
 refine EvC.skip ?_
 refine EvC.seq ?_
 refine EvC.block ?_
 have hAi : A.2[i]? = some (eT t n i) := by
  obtain ⟨A', h1, _, h2⟩ := row_get v (n := n) (i := i) (by omega) hi
  rw [hA] at h1; cases h1; exact h2
 have eA := v.edge (n := n) (i := i) (by omega) hi
 have hkeep := fun h => frP_keep tp (n := n) (i := i) h
 have hset := fun q h => frP_set v tp (n := n) (i := i) (q := q) (by omega) hi h
 generalize eT t n i = e at hAi eA hkeep hset
 obtain ⟨e1, e2⟩ := e
 simp only at eA hkeep hset
 have hnr := prC_norefs (frP t n i)
 refine EvC.seq (EvC.rg (by simp only [go_sem, hAi, hiin, edgeC, List.length_map] <;> rfl) (by simp; try omega) ?_)
 refine EvC.frzB 7 (by simp only [go_sem, hnr] <;> rfl) ?_
 refine EvC.seq (EvC.rg (by simp only [go_sem] <;> rfl) (by simp) ?_)
 by_cases he : e1 = -1
 ·refine EvC.cond_false (by simp only [go_sem, decide_eq_true he] <;> rfl) ?_
  refine EvC.skip ?_
  rw [← hkeep he]
  refine EvC.rg (by simp only [go_sem] <;> rfl) (by exact inI64_of (by omega) (by omega)) ?_
  exact ⟨[(0, 0), (1, 1), (2, 2)], i + 1, rfl, (by simp only [go_sem, prC_norefs, Int.natCast_add, Int.natCast_one] <;> rfl), by omega, by omega⟩
 refine EvC.cond_true (by simp only [go_sem, decide_eq_false he] <;> rfl) ?_
 obtain ⟨q, rfl⟩ : ∃ q : Nat, e1 = q := ⟨e1.toNat, by omega⟩
 have hqin : (q : Int).toNat = q := Int.toNat_natCast q
 have hset := hset q rfl
 have hgq := frP_get (t := t) (n := n) (i := i) (k := q) (by omega)
 have hfl : ((frP t n i).map prC).length = N := by rw [List.length_map, frP_len, hNd]
 have hm3 : ((frP t n i).map prC).set q [.sc (.int .i64 n), .sc (.int .i64 i)] = (frP t n (i + 1)).map prC := by rw [← hset, List.map_set]; rfl
 apply EvC.drwA mixed
 ·apply Tr.done
  ·simp only [go_sem, hqin, hgq, hfl, hm3, prC, List.drop_succ_cons, List.drop_zero] <;> rfl
  ·simp [hfl]; try omega
 ·kernel_rfl
 refine EvC.rg (by simp only [go_sem] <;> rfl) (by exact inI64_of (by omega) (by omega)) ?_
 exact ⟨[(0, 0), (1, 1), (2, 2)], i + 1, rfl, (by simp only [go_sem, prC_norefs, Int.natCast_add, Int.natCast_one] <;> rfl), by omega, by omega⟩
end Go.Avl
namespace Go.Avl
open Go Go.Proofs.Try
set_option maxRecDepth 10000
set_option linter.unusedSimpArgs false
def exT : Mach := ⟨1, 2, false, [(false, [(1, 0)]), (false, [(2, 1)]), (false, [(3, 0)]), (false, [(4, 1)]), (false, [(-1, -1)])]⟩
def exO : Mach := ⟨1, 2, false, [(false, [(1, 0)]), (false, [(2, 0)]), (false, [(-1, -1)])]⟩
def oneM : Mach := ⟨1, 2, false, [(false, [(0, 0)])]⟩
theorem exT_eq : treeM 1 2 (okLog [⟨List.replicate 4 0, [0, 1, 0, 1]⟩]) = exT := by kernel_rfl
theorem exO_eq : treeM 1 2 (okLog [⟨List.replicate 2 0, [0, 0]⟩]) = exO := by kernel_rfl
theorem exT_nodes (l : List Int) (h : l.all (inT 5) = true) : nodesE exT l = 0 := by
 have h1 : checkT exT = 0 := by kernel_rfl
 unfold nodesE
 rw [h1]
 have : exT.rows.length = 5 := rfl
 rw [this, h]; rfl
theorem exT_c01 : compAns exT 0 1 = .tu [.sc (.bool false), .sc (.int .i64 0)] := by kernel_rfl
theorem exT_c02 : compAns exT 0 2 = .tu [.sc (.bool true), .sc (.int .i64 0)] := by kernel_rfl
theorem exT_c34 : compAns exT 3 4 = .tu [.sc (.bool true), .sc (.int .i64 0)] := by kernel_rfl
theorem exT_f02 : foldC exT (List.range 5) 0 2 = some [0, 1, 0, 1, 0] := by kernel_rfl
theorem exT_f04 : foldC exT (List.range 5) 0 4 = some [0, 1, 2, 3, 0] := by kernel_rfl
theorem exT_f14 : foldC exT (List.range 5) 1 4 = some [0, 1, 2, 3, 1] := by kernel_rfl
theorem exT_merge : mergeT exT = some [[(1, 0)], [(0, 1)]] := by kernel_rfl
theorem exO_merge : mergeT exO = some [[(0, 0)]] := by kernel_rfl
theorem exT_least : leastL exT 64 1 100 = .done [0, 1, 0, 1, 0] 2 91 := by kernel_rfl
theorem ex_chain : PureIs prog 36 [.sc (.int .i64 2), .sl false [[.sc (.int .i64 0)], [.sc (.int .i64 1)], [.sc (.int .i64 0)], [.sc (.int .i64 1)]] .full] (.ag exT.cells) := by
 have := chain36_is 2 [0, 1, 0, 1] .full (by simp)
 rw [show [(0 : Int), 1, 0, 1].length = 4 from rfl, exT_eq] at this
 exact this
theorem ex_chain2 : PureIs prog 36 [.sc (.int .i64 2), .sl false [[.sc (.int .i64 0)], [.sc (.int .i64 0)]] .full] (.ag exO.cells) := by
 have := chain36_is 2 [0, 0] .full (by simp)
 rw [show [(0 : Int), 0].length = 2 from rfl, exO_eq] at this
 exact this
theorem exT_rows : ∀ r ∈ exT.rows, r.2.length < 1000000 := by decide
theorem exO_rows : ∀ r ∈ exO.rows, r.2.length < 1000000 := by decide
theorem exT_rowsF : RowsF exT := by
 intro r hr _
 simp [exT] at hr
 rcases hr with rfl | rfl | rfl | rfl | rfl <;> rfl
theorem exO_rowsF : RowsF exO := by
 intro r hr _
 simp [exO] at hr
 rcases hr with rfl | rfl | rfl <;> rfl
theorem ex_comp (a b : Int) (x : Bool) (h : compAns exT a b = .tu [.sc (.bool x), .sc (.int .i64 0)]) : PureIs prog 13 [.ag exT.cells, .sc (.int .i64 a), .sc (.int .i64 b)] (.tu [.sc (.bool x), .sc (.int .i64 0)]) := by
 rw [← h]; exact comp13_is exT exT_rows a b
theorem ex_fold (a b : Nat) (l : List Int) (c : List Nat) (hl : c.map natC = l.map intC) (hn : nodesE exT [(a : Int), (b : Int)] = 0) (h : foldC exT (List.range 5) a b = some c) : PureIs prog 16 [.ag exT.cells, .sc (.int .i64 a), .sc (.int .i64 b)] (.tu [.sl false (l.map intC) .full, .sc (.bool true), .sc (.int .i64 0)]) := by
 have := fold16_is exT exT_rows exT_rowsF a b
 unfold foldRes at this
 rw [hn, if_neg (by simp), Int.toNat_natCast, Int.toNat_natCast, show exT.rows.length = 5 from rfl, h] at this
 simp only at this
 rw [hl] at this
 exact this
def twoA : AV := .ag [.sc (.int .i64 1), .sc (.int .i64 2), .sl false [[.sl false [[.sc (.int .i64 1), .sc (.int .i64 0)]] .full], [.sl false [[.sc (.int .i64 0), .sc (.int .i64 1)]] .full]] .full]
def oneA : AV := .ag [.sc (.int .i64 1), .sc (.int .i64 2), .sl false [[.sl false [[.sc (.int .i64 0), .sc (.int .i64 0)]] .full]] .full]
theorem ex_merge : PureIs prog 20 [.ag exT.cells] (.tu [twoA, .sc (.int .i64 0)]) := by
 have := merge20_is exT exT_rows exT_rowsF
 unfold mergeRes at this
 rw [exT_nodes [] rfl, if_neg (by simp), exT_merge] at this
 exact this
theorem exO_nodes : nodesE exO [] = 0 := by
 have h1 : checkT exO = 0 := by kernel_rfl
 unfold nodesE
 rw [h1]; rfl
theorem ex_one : PureIs prog 20 [.ag exO.cells] (.tu [oneA, .sc (.int .i64 0)]) := by
 have := merge20_is exO exO_rows exO_rowsF
 unfold mergeRes at this
 rw [exO_nodes, if_neg (by simp), exO_merge] at this
 exact this
def twoU : AV := .ag [.sc (.int .i64 1), .sc (.int .i64 2), .sl false [[.sl false [[.sc (.int .i64 1), .sc (.int .i64 0)]] .unk], [.sl false [[.sc (.int .i64 0), .sc (.int .i64 1)]] .unk]] .full]
theorem ex_col : colRes exT [0, 1, 0, 1, 0] 2 = twoU := by kernel_rfl
theorem ex_least : PureIs prog 31 [.ag exT.cells, .sc (.int .i64 100)] (.tu [twoU, .sc (.int .i64 91), .sc (.int .i64 0)]) := by
 have := least31_is exT exT_rows 100 (by omega)
 unfold leastRes at this
 rw [exT_nodes [] rfl, if_neg (by simp), if_neg (by omega), show (100 : Int).toNat = 100 from rfl, exT_least] at this
 simp only at this
 rw [ex_col] at this
 exact this
theorem ex_fitB : fitB exT oneM = false := by
 classical
 unfold fitB
 rw [decide_eq_false_iff_not]
 rintro ⟨h, h0, hk⟩
 have k0 := hk 0 0 (by decide) (by decide)
 have k1 := hk 1 0 (by decide) (by decide)
 rw [h0] at k0
 have e1 := k0.2 (by decide)
 have e2 : h 1 = 0 := by
  have : ((0 : Nat) : Int) = (h 1 : Nat) := e1
  omega
 rw [e2] at k1
 have := k1.1
 revert this
 decide
theorem ex_fits : PureIs prog 23 [oneA, .ag exT.cells] (.tu [.sc (.bool false), .sc (.int .i64 0)]) := by
 have := fits23_is exT oneM exT_rows (by decide)
 rw [ex_fitB] at this
 have e : fitAns exT false oneM = .tu [.sc (.bool false), .sc (.int .i64 0)] := by kernel_rfl
 rw [e] at this
 refine PureIs.weak ?_
 exact this
theorem ex_same1 : PureIs prog 22 [twoA, .ag twoM.cells] (.sc (.bool true)) := by
 refine PureIs.weak ?_
 exact sameM_is (a := twoM) (b := twoM) rfl rfl rfl (by decide) (by decide)
theorem ex_same2 : PureIs prog 22 [twoU, .ag twoM.cells] (.sc (.bool true)) := by
 refine PureIs.weak ?_
 exact sameM_is (a := twoM) (b := twoM) rfl rfl rfl (by decide) (by decide)
theorem ex_same3 : PureIs prog 22 [oneA, oneA] (.sc (.bool true)) := by
 refine PureIs.weak ?_
 exact sameM_is (a := oneM) (b := oneM) rfl rfl rfl (by decide) (by decide)
end Go.Avl
namespace Go.Avl
open Go Go.Proofs.Try
set_option maxRecDepth 10000
set_option linter.unusedSimpArgs false
set_option maxHeartbeats 8000000 in
theorem lives15_is : PureIs prog 15 [] (.sc (.bool true)) := by
 have hc := ex_chain
 have c01 := ex_comp 0 1 false exT_c01
 have c02 := ex_comp 0 2 true exT_c02
 have c34 := ex_comp 3 4 true exT_c34
 have f02 := ex_fold 0 2 [0, 1, 0, 1, 0] _ rfl (exT_nodes _ rfl) exT_f02
 have f04 := ex_fold 0 4 [0, 1, 2, 3, 0] _ rfl (exT_nodes _ rfl) exT_f04
 have f14 := ex_fold 1 4 [0, 1, 2, 3, 1] _ rfl (exT_nodes _ rfl) exT_f14
 have hsm := fun l : List Int => fun h : l.length < 1000000 => same_is false l .full false l .full h
 have s1 := hsm [0, 1, 0, 1, 0] (by simp)
 have s2 := hsm [0, 1, 2, 3, 0] (by simp)
 have s3 := hsm [0, 1, 2, 3, 1] (by simp)
 have hm := ex_merge
 have hl := ex_least
 have hc2 := ex_chain2
 have ho := ex_one
 have hf := ex_fits
 have m1 := ex_same1
 have m2 := ex_same2
 have m3 := ex_same3
 have ht := two41_is
 rw [Mach.cells] at hc c01 c02 c34 f02 f04 f14 hm hl hc2 ho hf m1 m2 ht
 simp only [List.map_cons, List.map_nil, intC, decide_true] at f02 f04 f14 s1 s2 s3
 unfold twoA at hm m1
 unfold twoU at hl m2
 unfold oneA at ho hf m3
 refine PureIs.of (nv := 17) (hid := [11, 12, 14, 54, 112]) func15 rfl (by kernel_rfl) (by simp [ntmps15]) fun _ => ?_
 rw [ntmps15, results15]
 refine EvC.seq (EvC.rg (by simp only [go_sem] <;> rfl) (by simp) ?_)
 apply EvC.seq
 apply EvC.tr
 ·apply Tr.run
  ·simp only [go_sem] <;> rfl
  ·simp
  apply Tr.cons
  ·exact .call rfl rfl (by simp only [go_sem] <;> rfl) (by simp only [go_sem] <;> rfl) (by simp only [go_sem] <;> rfl) (by simp only [go_sem] <;> rfl) (by simp only [go_sem] <;> rfl) (hc)
  apply Tr.done
  ·simp only [go_sem] <;> rfl
  ·simp
 refine EvC.frzB 3 (by simp only [go_sem] <;> rfl) ?_
 apply EvC.seq
 apply EvC.tr
 ·apply Tr.run
  ·simp only [go_sem] <;> rfl
  ·simp
  apply Tr.cons
  ·exact .call rfl rfl (by simp only [go_sem] <;> rfl) (by simp only [go_sem] <;> rfl) (by simp only [go_sem] <;> rfl) (by simp only [go_sem] <;> rfl) (by simp only [go_sem] <;> rfl) (c01)
  apply Tr.done
  ·simp only [go_sem] <;> rfl
  ·simp
 apply EvC.seq
 apply EvC.tr
 ·apply Tr.run
  ·simp only [go_sem] <;> rfl
  ·simp
  apply Tr.cons
  ·exact .call rfl rfl (by simp only [go_sem] <;> rfl) (by simp only [go_sem] <;> rfl) (by simp only [go_sem] <;> rfl) (by simp only [go_sem] <;> rfl) (by simp only [go_sem] <;> rfl) (c02)
  apply Tr.done
  ·simp only [go_sem] <;> rfl
  ·simp
 apply EvC.seq
 apply EvC.tr
 ·apply Tr.run
  ·simp only [go_sem] <;> rfl
  ·simp
  apply Tr.cons
  ·exact .call rfl rfl (by simp only [go_sem] <;> rfl) (by simp only [go_sem] <;> rfl) (by simp only [go_sem] <;> rfl) (by simp only [go_sem] <;> rfl) (by simp only [go_sem] <;> rfl) (c34)
  apply Tr.done
  ·simp only [go_sem] <;> rfl
  ·simp
 refine EvC.seq ?_
 apply EvC.seq
 apply EvC.trd
 ·simp only [go_sem] <;> rfl
 ·simp
 refine EvC.cond_false (by simp only [go_sem] <;> rfl) ?_
 refine EvC.skip ?_
 apply EvC.seq
 apply EvC.tr
 ·apply Tr.run
  ·simp only [go_sem] <;> rfl
  ·simp
  apply Tr.cons
  ·exact .call rfl rfl (by simp only [go_sem] <;> rfl) (by simp only [go_sem] <;> rfl) (by simp only [go_sem] <;> rfl) (by simp only [go_sem] <;> rfl) (by simp only [go_sem] <;> rfl) (f02)
  apply Tr.done
  ·simp only [go_sem] <;> rfl
  ·simp
 apply EvC.seq
 apply EvC.tr
 ·apply Tr.run
  ·simp only [go_sem] <;> rfl
  ·simp
  apply Tr.cons
  ·exact .call rfl rfl (by simp only [go_sem] <;> rfl) (by simp only [go_sem] <;> rfl) (by simp only [go_sem] <;> rfl) (by simp only [go_sem] <;> rfl) (by simp only [go_sem] <;> rfl) (f04)
  apply Tr.done
  ·simp only [go_sem] <;> rfl
  ·simp
 apply EvC.seq
 apply EvC.tr
 ·apply Tr.run
  ·simp only [go_sem] <;> rfl
  ·simp
  apply Tr.cons
  ·exact .call rfl rfl (by simp only [go_sem] <;> rfl) (by simp only [go_sem] <;> rfl) (by simp only [go_sem] <;> rfl) (by simp only [go_sem] <;> rfl) (by simp only [go_sem] <;> rfl) (f14)
  apply Tr.done
  ·simp only [go_sem] <;> rfl
  ·simp
 refine EvC.seq ?_
 apply EvC.seq
 apply EvC.tr
 ·apply Tr.run
  ·simp only [go_sem] <;> rfl
  ·simp
  apply Tr.cons
  ·exact .callG rfl rfl (by simp only [go_sem] <;> rfl) rfl (by simp only [go_sem] <;> rfl) (by simp only [go_sem] <;> rfl) (by simp only [go_sem] <;> rfl) (by simp only [go_sem] <;> rfl) (by simp only [go_sem] <;> rfl) (s1)
  apply Tr.run
  ·simp only [go_sem] <;> rfl
  ·simp
  apply Tr.cons
  ·exact .callG rfl rfl (by simp only [go_sem] <;> rfl) rfl (by simp only [go_sem] <;> rfl) (by simp only [go_sem] <;> rfl) (by simp only [go_sem] <;> rfl) (by simp only [go_sem] <;> rfl) (by simp only [go_sem] <;> rfl) (s2)
  apply Tr.run
  ·simp only [go_sem] <;> rfl
  ·simp
  apply Tr.cons
  ·exact .callG rfl rfl (by simp only [go_sem] <;> rfl) rfl (by simp only [go_sem] <;> rfl) (by simp only [go_sem] <;> rfl) (by simp only [go_sem] <;> rfl) (by simp only [go_sem] <;> rfl) (by simp only [go_sem] <;> rfl) (s3)
  apply Tr.done
  ·simp only [go_sem] <;> rfl
  ·simp
 refine EvC.cond_false (by simp only [go_sem] <;> rfl) ?_
 refine EvC.skip ?_
 refine EvC.gc [0, 1] [] 0 rfl ?_
 apply EvC.seq
 apply EvC.tr
 ·apply Tr.run
  ·simp only [go_sem] <;> rfl
  ·simp
  apply Tr.cons
  ·exact .call rfl rfl (by simp only [go_sem] <;> rfl) (by simp only [go_sem] <;> rfl) (by simp only [go_sem] <;> rfl) (by simp only [go_sem] <;> rfl) (by simp only [go_sem] <;> rfl) (hm)
  apply Tr.done
  ·simp only [go_sem] <;> rfl
  ·simp
 refine EvC.frzB 5 (by simp only [go_sem] <;> rfl) ?_
 refine EvC.gc [0, 1, 3, 11] [] 0 rfl ?_
 apply EvC.seq
 apply EvC.tr
 ·apply Tr.run
  ·simp only [go_sem] <;> rfl
  ·simp
  apply Tr.cons
  ·exact .call rfl rfl (by simp only [go_sem] <;> rfl) (by simp only [go_sem] <;> rfl) (by simp only [go_sem] <;> rfl) (by simp only [go_sem] <;> rfl) (by simp only [go_sem] <;> rfl) (hl)
  apply Tr.done
  ·simp only [go_sem] <;> rfl
  ·simp
 refine EvC.frzB 6 (by simp only [go_sem] <;> rfl) ?_
 refine EvC.gc [0, 1, 3, 5, 11, 12, 13] [] 0 rfl ?_
 apply EvC.seq
 apply EvC.tr
 ·apply Tr.run
  ·simp only [go_sem] <;> rfl
  ·simp
  apply Tr.cons
  ·exact .call rfl rfl (by simp only [go_sem] <;> rfl) (by simp only [go_sem] <;> rfl) (by simp only [go_sem] <;> rfl) (by simp only [go_sem] <;> rfl) (by simp only [go_sem] <;> rfl) (hc2)
  apply Tr.run
  ·simp only [go_sem] <;> rfl
  ·simp
  apply Tr.cons
  ·exact .call rfl rfl (by simp only [go_sem] <;> rfl) (by simp only [go_sem] <;> rfl) (by simp only [go_sem] <;> rfl) (by simp only [go_sem] <;> rfl) (by simp only [go_sem] <;> rfl) (ho)
  apply Tr.done
  ·simp only [go_sem] <;> rfl
  ·simp
 refine EvC.frzB 6 (by simp only [go_sem] <;> rfl) ?_
 refine EvC.gc [0, 1, 3, 5, 7, 11, 12, 13, 14] [] 0 rfl ?_
 apply EvC.seq
 apply EvC.tr
 ·apply Tr.run
  ·simp only [go_sem] <;> rfl
  ·simp
  apply Tr.cons
  ·exact .call rfl rfl (by simp only [go_sem] <;> rfl) (by simp only [go_sem] <;> rfl) (by simp only [go_sem] <;> rfl) (by simp only [go_sem] <;> rfl) (by simp only [go_sem] <;> rfl) (hf)
  apply Tr.done
  ·simp only [go_sem] <;> rfl
  ·simp
 apply EvC.seq
 apply EvC.drw mixed
 ·apply Tr.run
  ·simp only [go_sem] <;> rfl
  ·simp
  apply Tr.cons
  ·exact .callG rfl rfl (by simp only [go_sem] <;> rfl) rfl (by simp only [go_sem] <;> rfl) (by simp only [go_sem] <;> rfl) (by simp only [go_sem] <;> rfl) (by simp only [go_sem] <;> rfl) (by simp only [go_sem] <;> rfl) (ht)
  apply Tr.run
  ·simp only [go_sem] <;> rfl
  ·simp
  apply Tr.cons
  ·exact .callG rfl rfl (by simp only [go_sem] <;> rfl) rfl (by simp only [go_sem] <;> rfl) (by simp only [go_sem] <;> rfl) (by simp only [go_sem] <;> rfl) (by simp only [go_sem] <;> rfl) (by simp only [go_sem] <;> rfl) (m1)
  apply Tr.run
  ·simp only [go_sem] <;> rfl
  ·simp
  apply Tr.cons
  ·exact .callG rfl rfl (by simp only [go_sem] <;> rfl) rfl (by simp only [go_sem] <;> rfl) (by simp only [go_sem] <;> rfl) (by simp only [go_sem] <;> rfl) (by simp only [go_sem] <;> rfl) (by simp only [go_sem] <;> rfl) (ht)
  apply Tr.run
  ·simp only [go_sem] <;> rfl
  ·simp
  apply Tr.cons
  ·exact .callG rfl rfl (by simp only [go_sem] <;> rfl) rfl (by simp only [go_sem] <;> rfl) (by simp only [go_sem] <;> rfl) (by simp only [go_sem] <;> rfl) (by simp only [go_sem] <;> rfl) (by simp only [go_sem] <;> rfl) (m2)
  apply Tr.run
  ·simp only [go_sem] <;> rfl
  ·simp
  apply Tr.cons
  ·exact .callG rfl rfl (by simp only [go_sem] <;> rfl) rfl (by simp only [go_sem] <;> rfl) (by simp only [go_sem] <;> rfl) (by simp only [go_sem] <;> rfl) (by simp only [go_sem] <;> rfl) (by simp only [go_sem] <;> rfl) (m3)
  apply Tr.done
  ·simp only [go_sem] <;> rfl
  ·simp
 ·kernel_rfl
 refine EvC.ret ⟨.inl rfl, _, (by simp only [go_sem] <;> rfl), ?_, rfl⟩
 simp only [go_sem]
end Go.Avl
namespace Go.Avl
open Go Go.ChangeShapes Go.RowKit
def Live (w : World) : Nat → Nat → Prop := fun b _ => b < w.heap.size
section
variable {H : Type} {enc : TypeId × Value → H} {P : Program} {w : World} {α β : Type}
def Fits (P : Program) (t : TypeId) (d : DataW H) : Prop := ∀ n ∈ d.weights P t, n ≤ reachBytes
theorem fits_all {P : Program} {e : TypeId} : ∀ {l : List (DataW H)}, (∀ n ∈ DataW.weightsAll P e l, n ≤ reachBytes) → ∀ d ∈ l, Fits P e d
 | [], _, d, hd => by cases hd
 | a :: l, h, d, hd => by
   simp only [DataW.weightsAll, List.mem_append] at h
   rcases List.mem_cons.1 hd with rfl | hd
   ·exact fun n hn => h n (.inl hn)
   ·exact fits_all (fun n hn => h n (.inr hn)) d hd
theorem fits_each {P : Program} : ∀ {ts : List TypeId} {l : List (DataW H)}, (∀ n ∈ DataW.weightsEach P ts l, n ≤ reachBytes) → ∀ (i : Nat) t d, ts[i]? = some t → l[i]? = some d → Fits P t d
 | [], _, _, i, t, d, h1, _ => by simp at h1
 | _ :: _, [], _, i, t, d, _, h2 => by simp at h2
 | a :: ts, b :: l, h, i, t, d, h1, h2 => by
   simp only [DataW.weightsEach, List.mem_append] at h
   cases i with
   | zero =>
     simp only [List.getElem?_cons_zero, Option.some.injEq] at h1 h2
     subst h1; subst h2
     exact fun n hn => h n (.inl hn)
   | succ i => exact fits_each (fun n hn => h n (.inr hn)) i t d (by simpa using h1) (by simpa using h2)
def Reads (enc : TypeId × Value → H) (P : Program) (w : World) (t : TypeId) (f : α → List AV) (Ok : α → Prop) : Prop :=
 ∀ fuel cs x, Fits P t x.1 → DataW.trod enc P w 0 (fun _ => true) true fuel t cs = some x →
   ∃ a, Ok a ∧ Imms (Live w) w cs (f a) ∧ ∀ v ∈ cs, v.oneCell' = true
theorem Imms.one {F : Nat → Nat → Prop} {v : Value} {x : AV} (h : Imm F w v x) : Imms F w [v] [x] :=
 ⟨rfl, fun i h1 _ => by have : i = 0 := by simpa using h1
                        subst this; exact h⟩
theorem Imms.append {F : Nat → Nat → Prop} {vs vs' : List Value} {xs xs' : List AV} (h : Imms F w vs xs) (h' : Imms F w vs' xs') : Imms F w (vs ++ vs') (xs ++ xs') := by
 have e := h.1
 have e' := h'.1
 refine ⟨by simp [e, e'], fun i h1 h2 => ?_⟩
 by_cases hi : i < vs.length
 ·rw [List.getElem_append_left hi, List.getElem_append_left (by omega)]; exact h.2 i _ _
 ·rw [List.getElem_append_right (by omega), List.getElem_append_right (by omega)]
  have := h'.2 (i - vs.length) (by simp at h1; omega) (by simp at h2; omega)
  simpa only [e] using this
theorem Reads.mono {t : TypeId} {f : α → List AV} {Ok : α → Prop} {g : β → List AV} {Ok' : β → Prop} (h : Reads enc P w t f Ok) (hq : ∀ a, Ok a → ∃ b, Ok' b ∧ g b = f a) : Reads enc P w t g Ok' :=
 fun fuel cs x hs ht => let ⟨a, h1, h2, h3⟩ := h fuel cs x hs ht; let ⟨b, k1, k2⟩ := hq a h1; ⟨b, k1, by rw [k2]; exact h2, h3⟩
theorem Reads.int {t : TypeId} {k : IntKind} (ht : P.underlying t = some (.int k)) : Reads enc P w t (fun n : Int => [.sc (.int k n)]) (fun n => (Lit.int k n).wf = true) := fun fuel cs x _ h => by
 obtain ⟨n, rfl, rfl, hw⟩ := DataW.trod_int ht h
 exact ⟨n, hw, .one (.sc _), by simp [Value.oneCell']⟩
theorem Reads.bool {t : TypeId} (ht : P.underlying t = some .bool) : Reads enc P w t (fun b : Bool => [.sc (.bool b)]) (fun _ => True) := fun fuel cs x _ h => by
 obtain ⟨b, rfl, rfl⟩ := DataW.trod_bool ht h
 exact ⟨b, trivial, .one (.sc _), by simp [Value.oneCell']⟩
theorem pick {α : Type} {p : Nat → α → Prop} (n : Nat) (h : ∀ i, i < n → ∃ a, p i a) : ∃ l : List α, l.length = n ∧ ∀ i (hi : i < l.length), p i l[i] := by
 induction n with
 | zero => exact ⟨[], rfl, fun i hi => by simp at hi⟩
 | succ n ih =>
   obtain ⟨l, h1, h2⟩ := ih fun i hi => h i (by omega)
   obtain ⟨a, ha⟩ := h n (by omega)
   refine ⟨l ++ [a], by simp [h1], fun i hi => ?_⟩
   by_cases h3 : i < l.length
   ·rw [List.getElem_append_left h3]; exact h2 i h3
   ·have : i = l.length := by simp at hi; omega
    subst this
    rw [List.getElem_append_right (Nat.le_refl _)]
    simpa [h1] using ha
theorem Reads.slice {t e : TypeId} {f : α → List AV} {Ok : α → Prop} (ht : P.underlying t = some (.slice e)) (he : Reads enc P w e f Ok) (hz : ∀ a, (f a).length = P.cellsOf e) (hz0 : 0 < P.cellsOf e) :
  Reads enc P w t (fun x : Bool × List α => [.sl x.1 (x.2.map f) .unk]) (fun x => (∀ y ∈ x.2, Ok y) ∧ (x.1 = true → x.2 = []) ∧ x.2.length * P.bytesOf e ≤ reachBytes) := fun fuel cs x hs h => by
 rcases DataW.trod_slice ht h with ⟨rfl, rfl⟩ | ⟨a, len, cap, elems, rest, n, rfl, rfl, rfl, _, hlc, hcm, hlen, hel, hrest, _⟩
 ·exact ⟨(true, []), ⟨by simp, fun _ => rfl, by simp⟩, .one (.nil _ (.inl rfl)), by simp [Value.oneCell']⟩
 unfold Fits at hs
 simp only [DataW.weights, ht, List.mem_cons, List.mem_append, List.length_map] at hs
 have hbytes : len * P.bytesOf e ≤ reachBytes := by
  have := hs _ (.inl rfl)
  rw [hlen, Nat.add_mul] at this; omega
 have hfit : ∀ i (hi : i < elems.length), Fits P e elems[i].1 := fun i hi =>
  fits_all (l := elems.map (·.1)) (fun n hn => hs n (.inr (.inl hn))) _ (List.mem_map.2 ⟨_, List.getElem_mem hi, rfl⟩)
 by_cases hc0 : cap = 0
 ·have hl0 : len = 0 := by omega
  subst hc0; subst hl0
  exact ⟨(false, []), ⟨by simp, by simp, by simp⟩, .one (.sz a _ (.inl rfl)), by simp [Value.oneCell']⟩
 have hfirst : ∃ v, w.cell? a = some v := by
  have hcells : ∃ cs', w.cells? 0 a (P.cellsOf e) = some cs' := by
   by_cases hl0 : len = 0
   ·subst hl0
    have h1 := (hrest rfl).2 0 (by omega)
    rw [List.getElem?_eq_getElem (by rw [(hrest rfl).1]; omega)] at h1
    obtain ⟨cs', h2, _⟩ := Option.bind_eq_some_iff.1 h1
    refine ⟨cs', ?_⟩
    simpa [Addr.add] using h2
   ·have h1 := hel 0 (by omega)
    rw [List.getElem?_eq_getElem (by omega)] at h1
    obtain ⟨cs', h2, _⟩ := Option.bind_eq_some_iff.1 h1
    refine ⟨cs', ?_⟩
    simpa [Addr.add] using h2
  obtain ⟨cs', h2⟩ := hcells
  obtain ⟨_, q1, q2⟩ := World.cells?_some h2
  have := q2 0 hz0
  rw [List.getElem?_eq_getElem (by omega)] at this
  exact ⟨_, by simpa [Addr.add] using this⟩
 have hsp : a.spot = none := by
  obtain ⟨v, hv⟩ := hfirst
  unfold World.cell? at hv
  cases hsp : a.spot with
  | none => rfl
  | some k =>
    rw [hsp] at hv
    split at hv <;> simp at hv
 obtain ⟨b, off, spt⟩ := a
 cases hsp
 have key : ∀ i, i < len → ∃ y : α, Ok y ∧ ∃ cs', cs'.length = P.cellsOf e ∧ (∀ j (hj : j < cs'.length), w.cell? ⟨b, off + i * P.cellsOf e + j, none⟩ = some cs'[j]) ∧ Imms (Live w) w cs' (f y) ∧ ∀ v ∈ cs', v.oneCell' = true := fun i hi => by
  have h1 := hel i hi
  rw [List.getElem?_eq_getElem (by omega)] at h1
  obtain ⟨cs', h2, h3⟩ := Option.bind_eq_some_iff.1 h1
  obtain ⟨y, k1, k2, k3⟩ := he _ _ _ (hfit i (by omega)) h3
  obtain ⟨_, q1, q2⟩ := World.cells?_some h2
  refine ⟨y, k1, cs', q1, fun j hj => ?_, k2, k3⟩
  have := q2 j (by omega)
  rw [List.getElem?_eq_getElem hj] at this
  rw [← this]
  congr 1
  unfold Addr.add
  by_cases e1 : i * P.cellsOf e = 0
  ·rw [if_pos e1]
   by_cases e2 : j = 0
   ·subst e2; simp [e1]
   ·rw [if_neg e2]; simp [e1]
  ·rw [if_neg e1]
   by_cases e2 : j = 0
   ·subst e2; simp
   ·rw [if_neg e2]
 obtain ⟨l, hl, hp⟩ := pick len key
 refine ⟨(false, l), ⟨fun y hy => ?_, by simp, by rw [hl]; exact hbytes⟩, .one ?_, by simp [Value.oneCell']⟩
 ·obtain ⟨i, hi, rfl⟩ := List.getElem_of_mem hy
  exact (hp i hi).1
 ·
  have hcell : ∀ i j, i < len → j < P.cellsOf e → ∃ v, w.cell? ⟨b, off + i * P.cellsOf e + j, none⟩ = some v ∧ v.oneCell' = true ∧ ∀ (h : i < l.length) (h' : j < (f l[i]).length), Imm (Live w) w v (f l[i])[j] := fun i j hi hj => by
   obtain ⟨_, cs', q1, q2, q3, q4⟩ := hp i (by omega)
   exact ⟨cs'[j], q2 j (by omega), q4 _ (List.getElem_mem _), fun h h' => q3.2 j (by omega) h'⟩
  have hv := fun i j => show ∃ v, i < len → j < P.cellsOf e → w.cell? ⟨b, off + i * P.cellsOf e + j, none⟩ = some v ∧ v.oneCell' = true ∧ ∀ (h : i < l.length) (h' : j < (f l[i]).length), Imm (Live w) w v (f l[i])[j] from by
   by_cases h : i < len ∧ j < P.cellsOf e
   ·obtain ⟨v, hv⟩ := hcell i j h.1 h.2; exact ⟨v, fun _ _ => hv⟩
   ·exact ⟨undef, fun h1 h2 => absurd ⟨h1, h2⟩ h⟩
  have hvs : ∀ i j, ∃ v, v = Classical.choose (hv i j) := fun i j => ⟨_, rfl⟩
  have e0 : (l.map f).length = len := by simp [hl]
  have := Imm.sl (F := Live w) (w := w) b off cap (P.cellsOf e) (l.map f) .unk (fun i j => Classical.choose (hv i j)) (by rw [e0]; exact hlc) (.inl rfl) (fun i hi => by rw [List.getElem_map]; exact hz _)
   (fun i j hi hj => by
    obtain ⟨k1, k2, _⟩ := Classical.choose_spec (hv i j) (by rw [← e0]; exact hi) hj
    refine ⟨?_, k1, k2⟩
    unfold World.cell? at k1
    show b < w.heap.size
    cases hb : w.heap[b]? with
    | none => simp [hb] at k1
    | some o => exact (Array.getElem?_eq_some_iff.1 hb).1)
   (fun i j h h' => by
    have h'2 := h'
    rw [List.getElem_map, hz] at h'2
    have := (Classical.choose_spec (hv i j) (by rw [← e0]; exact h) h'2).2.2 (by simpa using h) (by rw [hz]; exact h'2)
    simpa only [List.getElem_map] using this)
  rw [e0] at this
  exact this
def RdF (enc : TypeId × Value → H) (P : Program) (w : World) (L : List Field) (k tot : Nat) (f : α → List AV) (Ok : α → Prop) : Prop :=
 ∀ (n : Nat) (cs : List Value), cs.length = tot → (∀ fd ∈ L, ∃ y, DataW.trod enc P w 0 (fun _ => true) true n fd.type ((cs.drop fd.offset).take (P.cellsOf fd.type)) = some y ∧ Fits P fd.type y.1) →
   ∃ a, Ok a ∧ Imms (Live w) w (cs.drop k) (f a) ∧ ∀ v ∈ cs.drop k, v.oneCell' = true
theorem RdF.nil {tot : Nat} : RdF enc P w [] tot tot (fun _ : Unit => []) (fun _ => True) := fun n cs hl _ => by
 have : cs.drop tot = [] := by rw [List.drop_eq_nil_iff]; omega
 rw [this]
 exact ⟨(), trivial, ⟨rfl, fun i h => by simp at h⟩, by simp⟩
theorem RdF.cons {fd : Field} {fs : List Field} {k k' sz tot : Nat} {f : α → List AV} {Ok : α → Prop} {g : β → List AV} {Ok' : β → Prop} (ho : fd.offset = k) (hz : P.cellsOf fd.type = sz) (hk : k + sz = k')
  (h : Reads enc P w fd.type f Ok) (hs : RdF enc P w fs k' tot g Ok') : RdF enc P w (fd :: fs) k tot (fun x : α × β => f x.1 ++ g x.2) (fun x => Ok x.1 ∧ Ok' x.2) := fun n cs hl hf => by
 obtain ⟨y, hy, hyf⟩ := hf fd List.mem_cons_self
 obtain ⟨a, h1, h2, h3⟩ := h _ _ _ hyf hy
 obtain ⟨b, k1, k2, k3⟩ := hs n cs hl fun fd' h' => hf fd' (List.mem_cons_of_mem _ h')
 have e : cs.drop k = (cs.drop k).take sz ++ cs.drop k' := by
  rw [← hk, ← List.drop_drop, List.take_append_drop]
 rw [ho, hz] at h2 h3
 refine ⟨(a, b), ⟨h1, k1⟩, by rw [e]; exact h2.append k2, fun v hv => ?_⟩
 rw [e, List.mem_append] at hv
 rcases hv with hv | hv
 ·exact h3 v hv
 ·exact k3 v hv
theorem Reads.struct {t : TypeId} {fs : Array Field} {tot : Nat} {f : α → List AV} {Ok : α → Prop} (ht : P.underlying t = some (.struct fs)) (hz : P.cellsOf t = tot) (h : RdF enc P w fs.toList 0 tot f Ok) : Reads enc P w t f Ok := fun fuel cs x hs hx => by
 obtain ⟨xs, n, _, rfl, hl, hlen, hf⟩ := DataW.trod_struct ht hx
 unfold Fits at hs
 simp only [DataW.weights, ht] at hs
 obtain ⟨a, h1, h2, h3⟩ := h n cs (hl.trans hz) fun fd hfd => by
  obtain ⟨i, hi, rfl⟩ := List.getElem_of_mem hfd
  have := hf i fs.toList[i] (by simp)
  have hix : i < xs.length := by simp at hi; omega
  rw [List.getElem?_eq_getElem hix] at this
  exact ⟨_, this, fits_each hs i _ _ (by rw [List.getElem?_map, List.getElem?_eq_getElem hi]; rfl) (by rw [List.getElem?_map, List.getElem?_eq_getElem hix]; rfl)⟩
 exact ⟨a, h1, by simpa using h2, by simpa using h3⟩
theorem arr_go {sz : Nat} {f : α → List AV} {Ok : α → Prop} : ∀ (n : Nat) (cs : List Value), cs.length = n * sz →
  (∀ i, i < n → ∃ a, Ok a ∧ Imms (Live w) w ((cs.drop (i * sz)).take sz) (f a) ∧ ∀ v ∈ (cs.drop (i * sz)).take sz, v.oneCell' = true) →
  ∃ l : List α, l.length = n ∧ (∀ a ∈ l, Ok a) ∧ Imms (Live w) w cs (l.map f).flatten ∧ ∀ v ∈ cs, v.oneCell' = true
 | 0, cs, hl, _ => by
   have : cs = [] := by cases cs with
    | nil => rfl
    | cons a l => simp at hl
   subst this
   exact ⟨[], rfl, by simp, ⟨rfl, fun i h => by simp at h⟩, by simp⟩
 | n + 1, cs, hl, h => by
   obtain ⟨a, h1, h2, h3⟩ := h 0 (by omega)
   obtain ⟨l, k1, k2, k3, k4⟩ := arr_go (sz := sz) n (cs.drop sz) (by rw [List.length_drop, hl, Nat.add_mul]; omega) fun i hi => by
    have := h (i + 1) (by omega)
    rwa [List.drop_drop, show sz + i * sz = (i + 1) * sz by rw [Nat.add_mul]; omega]
   simp only [Nat.zero_mul, List.drop_zero] at h2 h3
   have e := List.take_append_drop sz cs
   refine ⟨a :: l, by simp [k1], fun b hb => ?_, ?_, fun v hv => ?_⟩
   ·rcases List.mem_cons.1 hb with rfl | hb
    ·exact h1
    ·exact k2 b hb
   ·rw [← e]; simpa using h2.append k3
   ·rw [← e, List.mem_append] at hv
    rcases hv with hv | hv
    ·exact h3 v hv
    ·exact k4 v hv
theorem Reads.array {t e : TypeId} {n sz : Nat} {f : α → List AV} {Ok : α → Prop} (ht : P.underlying t = some (.array n e)) (hz : P.cellsOf e = sz) (ha : P.cellsOf t = n * sz) (h : Reads enc P w e f Ok) :
  Reads enc P w t (fun l : List α => (l.map f).flatten) (fun l => l.length = n ∧ ∀ a ∈ l, Ok a) := fun fuel cs x hs hx => by
 obtain ⟨xs, m, _, rfl, hl, hlen, hf⟩ := DataW.trod_array ht hx
 rw [ha] at hl
 rw [hz] at hf
 unfold Fits at hs
 simp only [DataW.weights, ht] at hs
 obtain ⟨l, h1, h2, h3, h4⟩ := arr_go n cs hl fun i hi => by
  have := hf i hi
  rw [List.getElem?_eq_getElem (by omega)] at this
  exact h _ _ _ (fits_all hs _ (List.mem_map.2 ⟨_, List.getElem_mem _, rfl⟩)) this
 exact ⟨l, ⟨h1, h2⟩, h3, h4⟩
theorem Reads.imm_struct {t : TypeId} {fs : Array Field} {f : α → List AV} {Ok : α → Prop} {r : Reach} {b0 : Nat} {v : Value} {d : DataW H} {ps : List MemPlace} (ht : P.underlying t = some (.struct fs)) (h : Reads enc P w t f Ok)
  (hv : Value.okWide P w r b0 t v) (hw : Fits P t d) (hd : DataW.Trod enc P w 0 (fun _ => true) true t v d ps) : ∃ a, Ok a ∧ Imm (Live w) w v (.ag (f a)) := by
 obtain ⟨cs, rfl, _⟩ := WideShapes.okWide_struct ht hv
 obtain ⟨fuel, hd⟩ := hd
 obtain ⟨a, h1, h2, _⟩ := h _ _ _ hw hd
 refine ⟨a, h1, ?_⟩
 have : (Value.agg cs) = .agg cs.toList.toArray := by simp
 rw [this]
 exact .ag _ _ h2.1 h2.2
theorem Grown.below {F F' : Nat → Nat → Prop} {w' : World} (g : Avl.Grown F w F' w') : Below w.heap.size w w' := ⟨g.kept.os, g.kept.tape, g.kept.output, g.size, g.old⟩
theorem trodAll_stays (hl : laidOutB P = true) {w' : World} (hb : Below w.heap.size w w') {spf : Nat → Bool} : ∀ {ts : List TypeId} {vs : List Value} {ds : List (DataW H)} {ps : List MemPlace}, (∀ t ∈ ts, P.readableRec t = true ∧ t < P.types.size) →
  DataW.TrodAll enc P w 0 (fun _ => true) true ts vs ds ps → (∀ p ∈ ps, p.block < w.heap.size) → (∀ p ∈ ps, spf p.block = true) → DataW.TrodAll enc P w' 0 spf true ts vs ds ps
 | [], [], [], _, _, h, _, _ => h
 | t :: ts, v :: vs, d :: ds, _, hr, ⟨p, q, h1, h2, e⟩, hlt, hsp => by
   subst e
   refine ⟨p, q, ?_, trodAll_stays hl hb (fun t ht => hr t (List.mem_cons_of_mem _ ht)) h2 (fun x hx => hlt x (List.mem_append_right _ hx)) fun x hx => hsp x (List.mem_append_right _ hx), rfl⟩
   have := hr t List.mem_cons_self
   exact WideElems.Trod_stays hl this.1 this.2 h1 (fun x hx => hb.same (hlt x (List.mem_append_left _ hx))) fun x hx => hsp x (List.mem_append_left _ hx)
 | [], _ :: _, _, _, _, h, _, _ => h.elim
 | [], [], _ :: _, _, _, h, _, _ => h.elim
 | _ :: _, [], _, _, _, h, _, _ => h.elim
 | _ :: _, _ :: _, [], _, _, h, _, _ => h.elim
theorem law_calls {f : FuncId} {fn : Func} {s : ChangeSpec} {apart fresh handsOn again : Bool} {args : Array Value} {avs : List AV} {ds : List (DataW H)} {before : List MemPlace} {tb : TypeId}
  (hl : laidOutB P = true) (hrd : (fn.params.toList.all fun t => P.readableRec t && decide (t < P.types.size)) = true) (hrt : fn.resultTypes = #[tb]) (htb : P.underlying tb = some .bool) (hvars : s.vars = [])
  (hs : s.fn H (ds ++ []) = { results := [.lit (.bool true)], args := ds })
  (h : PureIs P f avs (.sc (.bool true))) (hi : Imms (Live w) w args.toList avs) (hW : DataW.Whole enc P fn.params.toList s.vars apart w args.toList ds [] before) (hgl : Globs (Live w) w := by exact fun g vs hg => by cases hg) :
  Calls P f args w fun e W' => ∃ v, e = .returned v ∧ s.post enc P fn apart fresh handsOn again w args v W' := by
 have hW' := hW
 obtain ⟨p, q, hA, hV, rfl, hfz, hnd⟩ := hW
 rw [hvars] at hV
 obtain ⟨_, rfl⟩ := trodVars_none hV
 have hc := callsIn_wide.1 (h.2 (Live w) w args.toList ⟨fun _ _ h => h, hgl⟩ hi)
 rw [Array.toArray_toList] at hc
 refine hc.mono fun e W' ⟨v, F', he, hr, g⟩ => ?_
 have hv : v = .bool true := by cases hr; rfl
 subst hv
 have hb := Grown.below g
 refine ⟨_, he, post_of_same (pa := p) (pv := []) (by simpa using hW') (fun _ _ _ => ?_) (fun sp hsp => ?_) (fun _ _ => ?_) (by simp) (hb.frame _) g.kept.froz ?_⟩
 ·rw [hs, hrt]; exact trodAll_mk1 (shut_bool htb true)
 ·rw [hs]
  refine trodAll_stays hl hb (fun t ht => ?_) hA (fun x hx => hW'.lt x (by simpa using hx)) fun x hx => hsp x (by simpa using hx)
  have := List.all_eq_true.1 hrd t ht
  simpa using this
 ·rw [hvars, hs]; exact rfl
 ·exact ok_one hrt rfl (okWide_bool_mk htb true)
end
end Go.Avl
namespace Go.Avl
open Go Go.Proofs
end Go.Avl
namespace Go.Proofs.Ytkfpnkpomjmpeaa
open Go Go.Avl Go.Proofs Go.ChangeShapes Go.RowKit
theorem Try.own : ownKnob Try.prog.godebug = none := by kernel_rfl
theorem Try.laidOut : laidOutB Try.prog = true := by kernel_rfl
section
variable {H : Type} {enc : TypeId × Value → H} {w : World}
theorem u8wf {n : Int} (h : (Lit.int .u8 n).wf = true) : 0 ≤ n ∧ n < 256 := by
 simp [Lit.wf, IntKind.min, IntKind.max, IntKind.signed, IntKind.bits] at h
 omega
theorem u16wf {n : Int} (h : (Lit.int .u16 n).wf = true) : 0 ≤ n ∧ n < 65536 := by
 simp [Lit.wf, IntKind.min, IntKind.max, IntKind.signed, IntKind.bits] at h
 omega
theorem rd_u8 : Reads enc Try.prog w 5 u8C (fun n => 0 ≤ n ∧ n < 256) := (Reads.int (by kernel_rfl)).mono fun a h => ⟨a, u8wf h, rfl⟩
theorem rd_u16 : Reads enc Try.prog w 114 u16C (fun n => 0 ≤ n ∧ n < 65536) := (Reads.int (by kernel_rfl)).mono fun a h => ⟨a, u16wf h, rfl⟩
theorem rd_LM : Reads enc Try.prog w 24 LM.cells LM.Ok := by
 have := (Reads.struct (enc := enc) (w := w) (tot := 5) Try.underlying24 (by kernel_rfl) (.cons (sz := 1) rfl (by kernel_rfl) rfl rd_u8 (.cons (sz := 1) rfl (by kernel_rfl) rfl rd_u8 (.cons (sz := 1) rfl (by kernel_rfl) rfl rd_u8 (.cons (sz := 1) rfl (by kernel_rfl) rfl (Reads.bool Try.underlying4)
  (.cons (sz := 1) rfl (by kernel_rfl) rfl (Reads.slice Try.underlying22 rd_u16 (fun a => by rw [show Program.cellsOf Try.prog 114 = 1 by kernel_rfl]; rfl) (by rw [show Program.cellsOf Try.prog 114 = 1 by kernel_rfl]; exact Nat.succ_pos _)) .nil))))))
 exact this.mono fun a h => ⟨⟨a.1, a.2.1, a.2.2.1, a.2.2.2.1, a.2.2.2.2.1.1, a.2.2.2.2.1.2, .unk⟩, ⟨h.1.1, h.2.1.1, h.2.2.1.1, h.2.2.2.2.1.1⟩, rfl⟩
theorem rd_wb : Reads enc Try.prog w 109 wbR (fun x : Bool × List Int => ∀ e ∈ x.2, 0 ≤ e ∧ e < 256) :=
 (Reads.slice (by kernel_rfl) rd_u8 (fun a => by rw [show Program.cellsOf Try.prog 5 = 1 by kernel_rfl]; rfl) (by rw [show Program.cellsOf Try.prog 5 = 1 by kernel_rfl]; exact Nat.succ_pos _)).mono fun a h => ⟨a, h.1, rfl⟩
theorem rd_wbs : Reads enc Try.prog w 25 (fun x : Bool × List (Bool × List Int) => [.sl x.1 (x.2.map wbR) .unk]) (fun x => ∀ y ∈ x.2, ∀ e ∈ y.2, 0 ≤ e ∧ e < 256) :=
 (Reads.slice Try.underlying25 rd_wb (fun a => by rw [show Program.cellsOf Try.prog 109 = 1 by kernel_rfl]; rfl) (by rw [show Program.cellsOf Try.prog 109 = 1 by kernel_rfl]; exact Nat.succ_pos _)).mono fun a h => ⟨a, h.1, rfl⟩
theorem rd_LG : Reads enc Try.prog w 27 LG.cells LG.Ok := by
 have := (Reads.struct (enc := enc) (w := w) (tot := 9) Try.underlying27 (by kernel_rfl) (.cons (sz := 5) rfl (by kernel_rfl) rfl rd_LM (.cons (sz := 1) rfl (by kernel_rfl) rfl rd_wbs (.cons (sz := 1) rfl (by kernel_rfl) rfl rd_u8 (.cons (sz := 1) rfl (by kernel_rfl) rfl rd_u8 (.cons (sz := 1) rfl (by kernel_rfl) rfl rd_u8 .nil))))))
 exact this.mono fun a h => ⟨⟨a.1, a.2.1.1, a.2.1.2, .unk, a.2.2.1, a.2.2.2.1, a.2.2.2.2.1⟩, ⟨h.1, h.2.1, h.2.2.1, h.2.2.2.1, h.2.2.2.2.1⟩, rfl⟩
end
end Go.Proofs.Ytkfpnkpomjmpeaa
