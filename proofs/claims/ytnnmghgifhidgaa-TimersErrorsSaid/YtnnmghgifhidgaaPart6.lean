/-
  Lemmas.
  Lemmas.
  Lemmas.
  Lemmas.
  Lemmas.
-/
import Derived.Test.YtnnmghgifhidgaaPart5
set_option linter.unusedSimpArgs false
set_option linter.unusedVariables false
namespace Go.Avl
open Go Go.Proofs.Try
set_option maxRecDepth 10000
set_option linter.unusedSimpArgs false

def diffO (a b : Mach) : Option Yld := (meetsR a b).find? (fun z => decide (z.x.2 ≠ z.y.2))
/-- The least word on which two machines differ; empty if there is none. -/
def diffW (a b : Mach) : List Int := match diffO a b with
  | some z => wordR z.l z.l.length z.at' [z.inp]
  | none => []
theorem diffA_eq (a b : Mach) : diffA (meetsR a b) = .tu [.sl (diffO a b).isNone ((diffW a b).map intC) (if (diffO a b).isNone then .zer else .full), if (diffO a b).isNone then .sl false ((pairsR (meetsR a b) [(0, 0)]).map edgeC) .unk else .sl true [] .zer] := by
  unfold diffA diffW diffO
  split
  · rename_i z hz; rw [hz]; rfl
  · rename_i hz; rw [hz]; rfl
theorem wordR_len (l : List Arr) : ∀ (n : Nat) (t : Int) (acc : List Int), acc.length ≤ (wordR l n t acc).length
  | 0, _, _ => Nat.le_refl _
  | n + 1, t, acc => by
    simp only [wordR]
    split
    · split
      · exact Nat.le_refl _
      · exact Nat.le_trans (by simp) (wordR_len l n _ _)
    · exact Nat.le_refl _
theorem diffW_pos (a b : Mach) : decide (0 < ((diffW a b).length : Int)) = (diffO a b).isSome := by
  unfold diffW
  cases h : diffO a b with
  | none => rfl
  | some z =>
    have := wordR_len z.l z.l.length z.at' [z.inp]
    simp only [List.length_cons, List.length_nil] at this
    simp only [Option.isSome_some, decide_eq_true_eq]
    omega

def differA (a b : Mach) : AV := if bothR a b = 0 then .tu [.sl (diffO a b).isNone ((diffW a b).map intC) (if (diffO a b).isNone then .zer else .full), .sc (.bool (diffO a b).isSome), .sc (.int .i64 0)]
  else .tu [.sl true [] .unk, .sc (.bool false), .sc (.int .i64 (bothR a b))]
theorem both_valid {a b : Mach} (h : bothR a b = 0) : Valid a ∧ Valid b ∧ a.ins = b.ins := by
  unfold bothR at h
  split at h
  · contradiction
  · rename_i h1
    split at h
    · contradiction
    · rename_i h2
      split at h
      · cases h
      · rename_i h3
        exact ⟨.of (by simpa using h1), .of (by simpa using h2), by simpa using h3⟩

theorem equals_differ_is (a b : Mach) (ha : ∀ r ∈ a.rows, r.2.length < 1000000) (hb : ∀ r ∈ b.rows, r.2.length < 1000000) : PureIs prog 35 [.ag a.cells, .ag b.cells] (differA a b) := by
  refine PureIs.of (nv := 9) (hid := [14]) func35 rfl (by kernel_rfl) (by simp [ntmps35]) fun _ => ?_
  rw [ntmps35, results35]
  refine EvC.seq (EvC.rg (by (simp only [go_sem, Nat.reduceLT, Nat.reduceLeDiff, Nat.reduceEqDiff, Nat.reduceAdd, Nat.reduceSub, Nat.reduceMul, Nat.reduceBEq, Int.reduceToNat, Int.reduceEq, Int.reduceLT, Int.reduceLE, Int.reduceAdd, ↓reduceIte, reduceCtorEq, Mach.cells]) <;> rfl) (by simp) ?_)  -- R0
  refine EvC.seq ?_
  apply EvC.seq  -- R1
  apply EvC.tr
  · apply Tr.run
    · (simp only [go_sem, Nat.reduceLT, Nat.reduceLeDiff, Nat.reduceEqDiff, Nat.reduceAdd, Nat.reduceSub, Nat.reduceMul, Nat.reduceBEq, Int.reduceToNat, Int.reduceEq, Int.reduceLT, Int.reduceLE, Int.reduceAdd, ↓reduceIte, reduceCtorEq]) <;> rfl
    · simp
    apply Tr.cons
    · exact .call rfl rfl (by (simp only [go_sem, Nat.reduceLT, Nat.reduceLeDiff, Nat.reduceEqDiff, Nat.reduceAdd, Nat.reduceSub, Nat.reduceMul, Nat.reduceBEq, Int.reduceToNat, Int.reduceEq, Int.reduceLT, Int.reduceLE, Int.reduceAdd, ↓reduceIte, reduceCtorEq]) <;> rfl) (by (simp only [go_sem, Nat.reduceLT, Nat.reduceLeDiff, Nat.reduceEqDiff, Nat.reduceAdd, Nat.reduceSub, Nat.reduceMul, Nat.reduceBEq, Int.reduceToNat, Int.reduceEq, Int.reduceLT, Int.reduceLE, Int.reduceAdd, ↓reduceIte, reduceCtorEq]) <;> rfl) (by (simp only [go_sem, Nat.reduceLT, Nat.reduceLeDiff, Nat.reduceEqDiff, Nat.reduceAdd, Nat.reduceSub, Nat.reduceMul, Nat.reduceBEq, Int.reduceToNat, Int.reduceEq, Int.reduceLT, Int.reduceLE, Int.reduceAdd, ↓reduceIte, reduceCtorEq]) <;> rfl) (by (simp only [go_sem, Nat.reduceLT, Nat.reduceLeDiff, Nat.reduceEqDiff, Nat.reduceAdd, Nat.reduceSub, Nat.reduceMul, Nat.reduceBEq, Int.reduceToNat, Int.reduceEq, Int.reduceLT, Int.reduceLE, Int.reduceAdd, ↓reduceIte, reduceCtorEq]) <;> rfl) (by (simp only [go_sem, Nat.reduceLT, Nat.reduceLeDiff, Nat.reduceEqDiff, Nat.reduceAdd, Nat.reduceSub, Nat.reduceMul, Nat.reduceBEq, Int.reduceToNat, Int.reduceEq, Int.reduceLT, Int.reduceLE, Int.reduceAdd, ↓reduceIte, reduceCtorEq]) <;> rfl) (both_is a b ha hb)
    apply Tr.done
    · (simp only [go_sem, Nat.reduceLT, Nat.reduceLeDiff, Nat.reduceEqDiff, Nat.reduceAdd, Nat.reduceSub, Nat.reduceMul, Nat.reduceBEq, Int.reduceToNat, Int.reduceEq, Int.reduceLT, Int.reduceLE, Int.reduceAdd, ↓reduceIte, reduceCtorEq]) <;> rfl
    · simp
  refine EvC.seq (EvC.rg (by (simp only [go_sem, Nat.reduceLT, Nat.reduceLeDiff, Nat.reduceEqDiff, Nat.reduceAdd, Nat.reduceSub, Nat.reduceMul, Nat.reduceBEq, Int.reduceToNat, Int.reduceEq, Int.reduceLT, Int.reduceLE, Int.reduceAdd, ↓reduceIte, reduceCtorEq]) <;> rfl) (by simp) ?_)  -- R2
  refine EvC.cond (by (simp only [go_sem, Nat.reduceLT, Nat.reduceLeDiff, Nat.reduceEqDiff, Nat.reduceAdd, Nat.reduceSub, Nat.reduceMul, Nat.reduceBEq, Int.reduceToNat, Int.reduceEq, Int.reduceLT, Int.reduceLE, Int.reduceAdd, ↓reduceIte, reduceCtorEq]) <;> rfl) (fun hc => ?_) (fun hc => ?_)
  · have hc : bothR a b ≠ 0 := by simpa using hc
    refine EvC.seq (EvC.rg (by (simp only [go_sem, Nat.reduceLT, Nat.reduceLeDiff, Nat.reduceEqDiff, Nat.reduceAdd, Nat.reduceSub, Nat.reduceMul, Nat.reduceBEq, Int.reduceToNat, Int.reduceEq, Int.reduceLT, Int.reduceLE, Int.reduceAdd, ↓reduceIte, reduceCtorEq]) <;> rfl) (by simp) ?_)  -- R3
    refine EvC.ret ⟨.inl rfl, _, (by (simp only [go_sem, Nat.reduceLT, Nat.reduceLeDiff, Nat.reduceEqDiff, Nat.reduceAdd, Nat.reduceSub, Nat.reduceMul, Nat.reduceBEq, Int.reduceToNat, Int.reduceEq, Int.reduceLT, Int.reduceLE, Int.reduceAdd, ↓reduceIte, reduceCtorEq]) <;> rfl), ?_, by unfold differA; split <;> rfl⟩
    simp only [go_sem, Nat.reduceLT, Nat.reduceLeDiff, Nat.reduceEqDiff, Nat.reduceAdd, Nat.reduceSub, Nat.reduceMul, Nat.reduceBEq, Int.reduceToNat, Int.reduceEq, Int.reduceLT, Int.reduceLE, Int.reduceAdd, ↓reduceIte, reduceCtorEq]
    rw [differA, if_neg hc]
  have hc : bothR a b = 0 := by simpa using hc
  obtain ⟨va, vb, hab⟩ := both_valid hc
  have hd := differ_is a b va vb hab
  rw [diffA_eq] at hd
  refine EvC.skip ?_
  apply EvC.seq  -- R4
  apply EvC.tr
  · apply Tr.run
    · (simp only [go_sem, Nat.reduceLT, Nat.reduceLeDiff, Nat.reduceEqDiff, Nat.reduceAdd, Nat.reduceSub, Nat.reduceMul, Nat.reduceBEq, Int.reduceToNat, Int.reduceEq, Int.reduceLT, Int.reduceLE, Int.reduceAdd, ↓reduceIte, reduceCtorEq]) <;> rfl
    · simp
    apply Tr.cons
    · exact .call rfl rfl (by (simp only [go_sem, Nat.reduceLT, Nat.reduceLeDiff, Nat.reduceEqDiff, Nat.reduceAdd, Nat.reduceSub, Nat.reduceMul, Nat.reduceBEq, Int.reduceToNat, Int.reduceEq, Int.reduceLT, Int.reduceLE, Int.reduceAdd, ↓reduceIte, reduceCtorEq]) <;> rfl) (by (simp only [go_sem, Nat.reduceLT, Nat.reduceLeDiff, Nat.reduceEqDiff, Nat.reduceAdd, Nat.reduceSub, Nat.reduceMul, Nat.reduceBEq, Int.reduceToNat, Int.reduceEq, Int.reduceLT, Int.reduceLE, Int.reduceAdd, ↓reduceIte, reduceCtorEq]) <;> rfl) (by (simp only [go_sem, Nat.reduceLT, Nat.reduceLeDiff, Nat.reduceEqDiff, Nat.reduceAdd, Nat.reduceSub, Nat.reduceMul, Nat.reduceBEq, Int.reduceToNat, Int.reduceEq, Int.reduceLT, Int.reduceLE, Int.reduceAdd, ↓reduceIte, reduceCtorEq]) <;> rfl) (by (simp only [go_sem, Nat.reduceLT, Nat.reduceLeDiff, Nat.reduceEqDiff, Nat.reduceAdd, Nat.reduceSub, Nat.reduceMul, Nat.reduceBEq, Int.reduceToNat, Int.reduceEq, Int.reduceLT, Int.reduceLE, Int.reduceAdd, ↓reduceIte, reduceCtorEq]) <;> rfl) (by (simp only [go_sem, Nat.reduceLT, Nat.reduceLeDiff, Nat.reduceEqDiff, Nat.reduceAdd, Nat.reduceSub, Nat.reduceMul, Nat.reduceBEq, Int.reduceToNat, Int.reduceEq, Int.reduceLT, Int.reduceLE, Int.reduceAdd, ↓reduceIte, reduceCtorEq]) <;> rfl) hd
    apply Tr.done
    · (simp only [go_sem, Nat.reduceLT, Nat.reduceLeDiff, Nat.reduceEqDiff, Nat.reduceAdd, Nat.reduceSub, Nat.reduceMul, Nat.reduceBEq, Int.reduceToNat, Int.reduceEq, Int.reduceLT, Int.reduceLE, Int.reduceAdd, ↓reduceIte, reduceCtorEq]) <;> rfl
    · simp
  refine EvC.seq (EvC.rg (by (simp only [go_sem, Nat.reduceLT, Nat.reduceLeDiff, Nat.reduceEqDiff, Nat.reduceAdd, Nat.reduceSub, Nat.reduceMul, Nat.reduceBEq, Int.reduceToNat, Int.reduceEq, Int.reduceLT, Int.reduceLE, Int.reduceAdd, ↓reduceIte, reduceCtorEq]) <;> rfl) (by simp) ?_)  -- R5
  refine EvC.ret ⟨.inl rfl, _, (by (simp only [go_sem, Nat.reduceLT, Nat.reduceLeDiff, Nat.reduceEqDiff, Nat.reduceAdd, Nat.reduceSub, Nat.reduceMul, Nat.reduceBEq, Int.reduceToNat, Int.reduceEq, Int.reduceLT, Int.reduceLE, Int.reduceAdd, ↓reduceIte, reduceCtorEq]) <;> rfl), ?_, by unfold differA; split <;> rfl⟩
  simp only [go_sem, Nat.reduceLT, Nat.reduceLeDiff, Nat.reduceEqDiff, Nat.reduceAdd, Nat.reduceSub, Nat.reduceMul, Nat.reduceBEq, Int.reduceToNat, Int.reduceEq, Int.reduceLT, Int.reduceLE, Int.reduceAdd, ↓reduceIte, reduceCtorEq]
  have := diffW_pos a b
  rw [differA, if_pos hc, ← this]

def equalR (a b : Mach) : Bool × Int := (decide (bothR a b = 0) && (diffO a b).isNone, bothR a b)
theorem equals_equal_is (a b : Mach) (ha : ∀ r ∈ a.rows, r.2.length < 1000000) (hb : ∀ r ∈ b.rows, r.2.length < 1000000) : PureIs prog 32 [.ag a.cells, .ag b.cells] (.tu [.sc (.bool (equalR a b).1), .sc (.int .i64 (equalR a b).2)]) := by
  refine PureIs.of (nv := 6) (hid := [7, 8]) func32 rfl (by kernel_rfl) (by simp [ntmps32]) fun _ => ?_
  rw [ntmps32, results32]
  have hd := equals_differ_is a b ha hb
  refine EvC.seq (EvC.rg (by (simp only [go_sem, Nat.reduceLT, Nat.reduceLeDiff, Nat.reduceEqDiff, Nat.reduceAdd, Nat.reduceSub, Nat.reduceMul, Nat.reduceBEq, Int.reduceToNat, Int.reduceEq, Int.reduceLT, Int.reduceLE, Int.reduceAdd, ↓reduceIte, reduceCtorEq, Mach.cells]) <;> rfl) (by simp) ?_)  -- R0
  by_cases h : bothR a b = 0
  · rw [differA, if_pos h] at hd
    apply EvC.seq  -- R1
    apply EvC.tr
    · apply Tr.run
      · (simp only [go_sem, Nat.reduceLT, Nat.reduceLeDiff, Nat.reduceEqDiff, Nat.reduceAdd, Nat.reduceSub, Nat.reduceMul, Nat.reduceBEq, Int.reduceToNat, Int.reduceEq, Int.reduceLT, Int.reduceLE, Int.reduceAdd, ↓reduceIte, reduceCtorEq]) <;> rfl
      · simp
      apply Tr.cons
      · exact .call rfl rfl (by (simp only [go_sem, Nat.reduceLT, Nat.reduceLeDiff, Nat.reduceEqDiff, Nat.reduceAdd, Nat.reduceSub, Nat.reduceMul, Nat.reduceBEq, Int.reduceToNat, Int.reduceEq, Int.reduceLT, Int.reduceLE, Int.reduceAdd, ↓reduceIte, reduceCtorEq]) <;> rfl) (by (simp only [go_sem, Nat.reduceLT, Nat.reduceLeDiff, Nat.reduceEqDiff, Nat.reduceAdd, Nat.reduceSub, Nat.reduceMul, Nat.reduceBEq, Int.reduceToNat, Int.reduceEq, Int.reduceLT, Int.reduceLE, Int.reduceAdd, ↓reduceIte, reduceCtorEq]) <;> rfl) (by (simp only [go_sem, Nat.reduceLT, Nat.reduceLeDiff, Nat.reduceEqDiff, Nat.reduceAdd, Nat.reduceSub, Nat.reduceMul, Nat.reduceBEq, Int.reduceToNat, Int.reduceEq, Int.reduceLT, Int.reduceLE, Int.reduceAdd, ↓reduceIte, reduceCtorEq]) <;> rfl) (by (simp only [go_sem, Nat.reduceLT, Nat.reduceLeDiff, Nat.reduceEqDiff, Nat.reduceAdd, Nat.reduceSub, Nat.reduceMul, Nat.reduceBEq, Int.reduceToNat, Int.reduceEq, Int.reduceLT, Int.reduceLE, Int.reduceAdd, ↓reduceIte, reduceCtorEq]) <;> rfl) (by (simp only [go_sem, Nat.reduceLT, Nat.reduceLeDiff, Nat.reduceEqDiff, Nat.reduceAdd, Nat.reduceSub, Nat.reduceMul, Nat.reduceBEq, Int.reduceToNat, Int.reduceEq, Int.reduceLT, Int.reduceLE, Int.reduceAdd, ↓reduceIte, reduceCtorEq]) <;> rfl) hd
      apply Tr.done
      · (simp only [go_sem, Nat.reduceLT, Nat.reduceLeDiff, Nat.reduceEqDiff, Nat.reduceAdd, Nat.reduceSub, Nat.reduceMul, Nat.reduceBEq, Int.reduceToNat, Int.reduceEq, Int.reduceLT, Int.reduceLE, Int.reduceAdd, ↓reduceIte, reduceCtorEq]) <;> rfl
      · simp
    apply EvC.seq  -- R2
    apply EvC.trd
    · (simp only [go_sem, Nat.reduceLT, Nat.reduceLeDiff, Nat.reduceEqDiff, Nat.reduceAdd, Nat.reduceSub, Nat.reduceMul, Nat.reduceBEq, Int.reduceToNat, Int.reduceEq, Int.reduceLT, Int.reduceLE, Int.reduceAdd, ↓reduceIte, reduceCtorEq]) <;> rfl
    · simp
    refine EvC.ret ⟨.inl rfl, _, (by (simp only [go_sem, Nat.reduceLT, Nat.reduceLeDiff, Nat.reduceEqDiff, Nat.reduceAdd, Nat.reduceSub, Nat.reduceMul, Nat.reduceBEq, Int.reduceToNat, Int.reduceEq, Int.reduceLT, Int.reduceLE, Int.reduceAdd, ↓reduceIte, reduceCtorEq]) <;> rfl), ?_, rfl⟩
    simp only [go_sem, Nat.reduceLT, Nat.reduceLeDiff, Nat.reduceEqDiff, Nat.reduceAdd, Nat.reduceSub, Nat.reduceMul, Nat.reduceBEq, Int.reduceToNat, Int.reduceEq, Int.reduceLT, Int.reduceLE, Int.reduceAdd, ↓reduceIte, reduceCtorEq]
    unfold equalR
    cases diffO a b <;> simp [h]
  · rw [differA, if_neg h] at hd
    apply EvC.seq  -- R1
    apply EvC.tr
    · apply Tr.run
      · (simp only [go_sem, Nat.reduceLT, Nat.reduceLeDiff, Nat.reduceEqDiff, Nat.reduceAdd, Nat.reduceSub, Nat.reduceMul, Nat.reduceBEq, Int.reduceToNat, Int.reduceEq, Int.reduceLT, Int.reduceLE, Int.reduceAdd, ↓reduceIte, reduceCtorEq]) <;> rfl
      · simp
      apply Tr.cons
      · exact .call rfl rfl (by (simp only [go_sem, Nat.reduceLT, Nat.reduceLeDiff, Nat.reduceEqDiff, Nat.reduceAdd, Nat.reduceSub, Nat.reduceMul, Nat.reduceBEq, Int.reduceToNat, Int.reduceEq, Int.reduceLT, Int.reduceLE, Int.reduceAdd, ↓reduceIte, reduceCtorEq]) <;> rfl) (by (simp only [go_sem, Nat.reduceLT, Nat.reduceLeDiff, Nat.reduceEqDiff, Nat.reduceAdd, Nat.reduceSub, Nat.reduceMul, Nat.reduceBEq, Int.reduceToNat, Int.reduceEq, Int.reduceLT, Int.reduceLE, Int.reduceAdd, ↓reduceIte, reduceCtorEq]) <;> rfl) (by (simp only [go_sem, Nat.reduceLT, Nat.reduceLeDiff, Nat.reduceEqDiff, Nat.reduceAdd, Nat.reduceSub, Nat.reduceMul, Nat.reduceBEq, Int.reduceToNat, Int.reduceEq, Int.reduceLT, Int.reduceLE, Int.reduceAdd, ↓reduceIte, reduceCtorEq]) <;> rfl) (by (simp only [go_sem, Nat.reduceLT, Nat.reduceLeDiff, Nat.reduceEqDiff, Nat.reduceAdd, Nat.reduceSub, Nat.reduceMul, Nat.reduceBEq, Int.reduceToNat, Int.reduceEq, Int.reduceLT, Int.reduceLE, Int.reduceAdd, ↓reduceIte, reduceCtorEq]) <;> rfl) (by (simp only [go_sem, Nat.reduceLT, Nat.reduceLeDiff, Nat.reduceEqDiff, Nat.reduceAdd, Nat.reduceSub, Nat.reduceMul, Nat.reduceBEq, Int.reduceToNat, Int.reduceEq, Int.reduceLT, Int.reduceLE, Int.reduceAdd, ↓reduceIte, reduceCtorEq]) <;> rfl) hd
      apply Tr.done
      · (simp only [go_sem, Nat.reduceLT, Nat.reduceLeDiff, Nat.reduceEqDiff, Nat.reduceAdd, Nat.reduceSub, Nat.reduceMul, Nat.reduceBEq, Int.reduceToNat, Int.reduceEq, Int.reduceLT, Int.reduceLE, Int.reduceAdd, ↓reduceIte, reduceCtorEq]) <;> rfl
      · simp
    apply EvC.seq  -- R2
    apply EvC.trd
    · (simp only [go_sem, Nat.reduceLT, Nat.reduceLeDiff, Nat.reduceEqDiff, Nat.reduceAdd, Nat.reduceSub, Nat.reduceMul, Nat.reduceBEq, Int.reduceToNat, Int.reduceEq, Int.reduceLT, Int.reduceLE, Int.reduceAdd, ↓reduceIte, reduceCtorEq]) <;> rfl
    · simp
    refine EvC.ret ⟨.inl rfl, _, (by (simp only [go_sem, Nat.reduceLT, Nat.reduceLeDiff, Nat.reduceEqDiff, Nat.reduceAdd, Nat.reduceSub, Nat.reduceMul, Nat.reduceBEq, Int.reduceToNat, Int.reduceEq, Int.reduceLT, Int.reduceLE, Int.reduceAdd, ↓reduceIte, reduceCtorEq]) <;> rfl), ?_, rfl⟩
    simp only [go_sem, Nat.reduceLT, Nat.reduceLeDiff, Nat.reduceEqDiff, Nat.reduceAdd, Nat.reduceSub, Nat.reduceMul, Nat.reduceBEq, Int.reduceToNat, Int.reduceEq, Int.reduceLT, Int.reduceLE, Int.reduceAdd, ↓reduceIte, reduceCtorEq]
    unfold equalR
    simp [h]
end Go.Avl
namespace Go.Avl
open Go Go.Proofs.Try
set_option maxRecDepth 10000
set_option linter.unusedSimpArgs false

/-! ### The unfolded machine -/
abbrev Cfg := Int × Int
def timAt (x : Timed) (s : Int) : Tim := (x.ts[s.toNat]?).getD (0, 0, 0)
def cfgStep (x : Timed) (c : Cfg) (i : Int) : Cfg × Int :=
  if i < x.m.ins then (((stepR x.m c.1 i).1, 0), (stepR x.m c.1 i).2) else tickR x.m.outs (timAt x c.1) c
/-- Where a configuration stands in a list, or would stand. -/
def idxC (c : Cfg) : List Cfg → Nat
  | [] => 0
  | d :: l => if d = c then 0 else idxC c l + 1
theorem idxC_le (c : Cfg) : ∀ l, idxC c l ≤ l.length
  | [] => Nat.le_refl _
  | d :: l => by
    have := idxC_le c l
    simp only [idxC, List.length_cons]; split <;> omega
theorem idxC_mem {c : Cfg} : ∀ {l : List Cfg}, idxC c l < l.length ↔ c ∈ l
  | [] => by simp [idxC]
  | d :: l => by
    have := idxC_mem (c := c) (l := l)
    simp only [idxC, List.length_cons, List.mem_cons]
    by_cases h : d = c
    · simp [h]
    · rw [if_neg h]
      constructor
      · intro h1; exact .inr (this.1 (by omega))
      · rintro (rfl | h1)
        · exact absurd rfl h
        · have := this.2 h1; omega
theorem idxC_get {c : Cfg} : ∀ {l : List Cfg}, c ∈ l → l[idxC c l]? = some c
  | d :: l, h => by
    simp only [idxC]
    by_cases hd : d = c
    · simp [hd]
    · rw [if_neg hd]
      rcases List.mem_cons.1 h with rfl | h
      · exact absurd rfl hd
      · simpa using idxC_get h
def addC (c : Cfg) (l : List Cfg) : List Cfg := if c ∈ l then l else l ++ [c]
theorem addC_len (c : Cfg) (l : List Cfg) : l.length ≤ (addC c l).length := by unfold addC; split <;> simp
theorem addC_get {c : Cfg} {l : List Cfg} {j : Nat} {d : Cfg} (h : l[j]? = some d) : (addC c l)[j]? = some d := by
  unfold addC
  split
  · exact h
  · rw [List.getElem?_append_left (List.getElem?_eq_some_iff.1 h).1]; exact h
/-- One entry of a row, and the list of configurations behind it. -/
def entU (x : Timed) (c : Cfg) (i : Int) (l : List Cfg) : (Int × Int) × List Cfg :=
  if (cfgStep x c i).1.1 < 0 then ((-1, (cfgStep x c i).2), l) else (((idxC (cfgStep x c i).1 l : Nat), (cfgStep x c i).2), addC (cfgStep x c i).1 l)
def rowU (x : Timed) (c : Cfg) : Nat → Nat → List Cfg → List (Int × Int) × List Cfg
  | 0, _, l => ([], l)
  | n + 1, i, l => ((entU x c i l).1 :: (rowU x c n (i + 1) (entU x c i l).2).1, (rowU x c n (i + 1) (entU x c i l).2).2)
def unfR (x : Timed) : Nat → Nat → List Cfg → List (List (Int × Int)) × List Cfg
  | 0, _, l => ([], l)
  | f + 1, n, l => match l[n]? with
    | none => ([], l)
    | some c => if 64 < l.length then ([], l) else
      ((rowU x c (x.m.ins.toNat + 1) 0 l).1 :: (unfR x f (n + 1) (rowU x c (x.m.ins.toNat + 1) 0 l).2).1, (unfR x f (n + 1) (rowU x c (x.m.ins.toNat + 1) 0 l).2).2)
def unfAll (x : Timed) : List (List (Int × Int)) × List Cfg := unfR x 100 0 [(0, 0)]
def unfMach (x : Timed) : Mach := ⟨x.m.ins + 1, x.m.outs + 1, false, (unfAll x).1.map fun r => (false, r)⟩

theorem entU_len (x : Timed) (c : Cfg) (i : Int) (l : List Cfg) : l.length ≤ (entU x c i l).2.length ∧ (entU x c i l).2.length ≤ l.length + 1 := by
  unfold entU
  split
  · exact ⟨Nat.le_refl _, Nat.le_succ _⟩
  · refine ⟨addC_len _ _, ?_⟩
    unfold addC; split <;> simp
theorem rowU_len (x : Timed) (c : Cfg) : ∀ (n i : Nat) (l : List Cfg), l.length ≤ (rowU x c n i l).2.length ∧ (rowU x c n i l).2.length ≤ l.length + n ∧ (rowU x c n i l).1.length = n
  | 0, _, _ => ⟨Nat.le_refl _, Nat.le_refl _, rfl⟩
  | n + 1, i, l => by
    have h1 := entU_len x c i l
    have h2 := rowU_len x c n (i + 1) (entU x c i l).2
    simp only [rowU, List.length_cons]; omega
theorem unfR_len (x : Timed) : ∀ (f n : Nat) (l : List Cfg), l.length ≤ (unfR x f n l).2.length
  | 0, _, _ => Nat.le_refl _
  | f + 1, n, l => by
    simp only [unfR]
    split
    · exact Nat.le_refl _
    · split
      · exact Nat.le_refl _
      · have h1 := rowU_len x
        exact Nat.le_trans (h1 _ _ _ _).1 (unfR_len x f _ _)

/-- Valid timed machines. -/
structure ValidT (x : Timed) : Prop where
  m : Valid x.m
  len : x.ts.length = x.m.rows.length
  tim : ∀ t ∈ x.ts, timOk x.m t = true
theorem ValidT.of {x : Timed} (h : checkT x = 0) : ValidT x := by
  unfold checkT at h
  split at h
  · contradiction
  · rename_i h1
    split at h
    · cases h
    · rename_i h2
      split at h
      · rename_i h3
        rw [List.all_eq_true] at h3
        exact ⟨.of (by simpa using h1), by omega, h3⟩
      · cases h
structure GoodC (x : Timed) (c : Cfg) : Prop where
  st : 0 ≤ c.1 ∧ c.1 < x.m.rows.length
  ck : 0 ≤ c.2 ∧ (c.2 = 0 ∨ c.2 < (timAt x c.1).1)
theorem timAt_get {x : Timed} (hv : ValidT x) {s : Int} (h0 : 0 ≤ s) (hs : s < x.m.rows.length) : x.ts[s.toNat]? = some (timAt x s) ∧ timOk x.m (timAt x s) = true := by
  have : s.toNat < x.ts.length := by rw [hv.len]; omega
  have h1 : x.ts[s.toNat]? = some x.ts[s.toNat] := List.getElem?_eq_getElem this
  unfold timAt
  rw [h1]
  exact ⟨rfl, hv.tim _ (List.getElem_mem _)⟩
theorem timOk_cases {m : Mach} {t : Tim} (h : timOk m t = true) : (t.1 = 0 ∧ t.2.1 = 0 ∧ t.2.2 = 0) ∨ (1 ≤ t.1 ∧ t.1 ≤ 256 ∧ 0 ≤ t.2.1 ∧ t.2.1 < m.rows.length ∧ 0 ≤ t.2.2 ∧ t.2.2 < m.outs) := by
  unfold timOk timZ timBad at h
  simp at h
  omega
theorem GoodC.clock {x : Timed} (hv : ValidT x) {c : Cfg} (h : GoodC x c) : c.2 ≤ 256 := by
  have h1 := timOk_cases (timAt_get hv h.st.1 h.st.2).2
  have h2 := h.ck
  omega
theorem GoodC.zero {x : Timed} (hv : ValidT x) : GoodC x (0, 0) := by
  have := hv.m.rows
  exact ⟨by simp only; omega, by simp⟩
/-- A step of a good configuration: the next one is good, or there is none and the output is None, too. -/
theorem cfgStep_good {x : Timed} (hv : ValidT x) {c : Cfg} (h : GoodC x c) {i : Int} (hi : 0 ≤ i) : (GoodC x (cfgStep x c i).1 ∧ 0 ≤ (cfgStep x c i).2 ∧ (cfgStep x c i).2 ≤ x.m.outs) ∨ ((cfgStep x c i).1.1 = -1 ∧ (cfgStep x c i).2 = -1 ∧ i < x.m.ins) := by
  have ho := hv.m.outs
  unfold cfgStep
  split
  · rename_i hlt
    obtain ⟨_, e, _, _, h3, h4⟩ := stepR_get hv.m h.st.1 h.st.2 ⟨hi, hlt⟩
    rw [h3]
    unfold fitsR at h4
    simp at h4
    rcases h4 with h4 | h4
    · exact .inr ⟨h4.1, h4.2, hlt⟩
    · exact .inl ⟨⟨by simp only; omega, by simp⟩, by simp only; omega, by simp only; omega⟩
  · left
    have ht := timOk_cases (timAt_get hv h.st.1 h.st.2).2
    have hc := h.ck
    unfold tickR
    split
    · exact ⟨h, by simp only; omega, by simp only; omega⟩
    · split
      · exact ⟨⟨by simp only; omega, by simp⟩, by simp only; omega, by simp only; omega⟩
      · refine ⟨⟨h.st, ?_⟩, by simp only; omega, by simp only; omega⟩
        simp only; omega
def GoodCs (x : Timed) (l : List Cfg) : Prop := ∀ c ∈ l, GoodC x c
theorem GoodCs.ent {x : Timed} (hv : ValidT x) {l : List Cfg} (h : GoodCs x l) {c : Cfg} (hc : GoodC x c) {i : Int} (hi : 0 ≤ i) : GoodCs x (entU x c i l).2 := by
  unfold entU
  split
  · exact h
  · rename_i hn
    rcases cfgStep_good hv hc hi with hg | hg
    · unfold addC
      split
      · exact h
      · intro d hd
        rcases List.mem_append.1 hd with hd | hd
        · exact h d hd
        · simp only [List.mem_singleton] at hd; subst hd; exact hg.1
    · omega
theorem GoodCs.row {x : Timed} (hv : ValidT x) {c : Cfg} (hc : GoodC x c) : ∀ (n i : Nat) (l : List Cfg), GoodCs x l → GoodCs x (rowU x c n i l).2
  | 0, _, _, h => h
  | n + 1, i, l, h => by
    simp only [rowU]
    exact GoodCs.row hv hc n (i + 1) _ (h.ent hv hc (by omega))
end Go.Avl
namespace Go.Avl
open Go Go.Proofs.Try
set_option maxRecDepth 10000
set_option linter.unusedSimpArgs false

@[go_sem] theorem key75 : isKey prog 75 = keyTest true [.int .i64, .int .i64] := isKey_of (by kernel_rfl) (by kernel_rfl)
def ents : Nat → List Cfg → List (Value × AV)
  | _, [] => []
  | i, c :: l => (pairV c, .sc (.int .i64 i)) :: ents (i + 1) l
@[go_sem] theorem norefs_ents : ∀ (l : List Cfg) (i : Nat), ((ents i l).all fun p => p.2.noref) = true
  | [], _ => rfl
  | c :: l, i => by simp only [ents, List.all_cons, norefs_ents l, AV.noref, Bool.and_self]
theorem elook_ents (c : Cfg) : ∀ (l : List Cfg) (i : Nat), elook (ents i l) (pairV c) = if c ∈ l then some (.sc (.int .i64 (i + idxC c l : Nat))) else none
  | [], _ => rfl
  | d :: l, i => by
    simp only [ents, elook, eqVal_pair, List.mem_cons, idxC]
    by_cases h : c = d
    · subst h; simp
    · rw [if_neg (by simpa using h), elook_ents c l (i + 1), if_neg (fun e : d = c => h e.symm)]
      simp only [h, false_or]
      by_cases hc : c ∈ l
      · rw [if_pos hc, if_pos hc, show i + 1 + idxC c l = i + (idxC c l + 1) by omega]
      · rw [if_neg hc, if_neg hc]
theorem eset_ents (c : Cfg) : ∀ (l : List Cfg) (i : Nat), c ∉ l → eset (ents i l) (pairV c) (.sc (.int .i64 (i + l.length : Nat))) = ents i (l ++ [c])
  | [], _, _ => rfl
  | d :: l, i, h => by
    simp only [List.mem_cons, not_or] at h
    simp only [ents, eset, eqVal_pair, List.cons_append]
    rw [if_neg (by simpa using h.1)]
    congr 1
    have := eset_ents c l (i + 1) h.2
    rw [show i + 1 + l.length = i + (d :: l).length by simp; omega] at this
    exact this

def rowF (r : List (Int × Int)) : List AV := rowC (false, r)
@[go_sem] theorem norefs_rowF (l : List (List (Int × Int))) : (l.map rowF).all AV.norefs = true := by simp [List.all_eq_true, rowF, rowC, AV.norefs, AV.noref]
def zeroM : AV := .ag [.sc (.int .i64 0), .sc (.int .i64 0), .sl true [] .zer]
def unfoldA (x : Timed) : AV :=
  if checkT x ≠ 0 then .tu [zeroM, .sc (.int .i64 (checkT x))]
  else if x.m.ins = 16 ∨ x.m.outs = 16 then .tu [zeroM, .sc (.int .i64 3)]
  else if (unfAll x).2.length ≤ 64 then .tu [.ag [.sc (.int .i64 (x.m.ins + 1)), .sc (.int .i64 (x.m.outs + 1)), .sl false ((unfAll x).1.map rowF) .full], .sc (.int .i64 0)]
  else .tu [zeroM, .sc (.int .i64 3)]
theorem unfoldA_noref (x : Timed) : (unfoldA x).noref = true := by unfold unfoldA; repeat (first | rfl | split)

theorem do_is {x : Timed} (hv : ValidT x) {c : Cfg} (hc : GoodC x c) {i : Int} (h0 : 0 ≤ i) : ∃ (A : AV) (o : Int) (sd : Bool),
    PureIs prog 27 [.ag x.cells, edgeA c, A] (doA ((cfgStep x c i).1, o, sd, !decide ((cfgStep x c i).1.1 = -1))) ∧ (sd = true → o = (cfgStep x c i).2) ∧ (sd = false → x.m.outs = (cfgStep x c i).2 ∧ ¬ (cfgStep x c i).1.1 = -1) ∧
    ((decide (i < x.m.ins) = true ∧ A = .ifc 80 (.sc (.int .i64 i))) ∨ (decide (i < x.m.ins) = false ∧ A = .ifc 77 (.ag []))) := by
  by_cases hlt : i < x.m.ins
  · obtain ⟨r, e, h1, h2, h3, h4⟩ := stepR_get hv.m hc.st.1 hc.st.2 ⟨h0, hlt⟩
    have hs : cfgStep x c i = ((e.1, 0), e.2) := by unfold cfgStep; rw [if_pos hlt, h3]
    have hd := doIn_is x c i r e hc.st.1 h0 h1 h2
    refine ⟨_, e.2, true, ?_, fun _ => by rw [hs], nofun, .inl ⟨by simpa using hlt, rfl⟩⟩
    rw [hs]; exact hd
  · obtain ⟨t1, t2⟩ := timAt_get hv hc.st.1 hc.st.2
    have hk := hc.clock hv
    have hk0 := hc.ck
    have hs : cfgStep x c i = tickR x.m.outs (timAt x c.1) c := by unfold cfgStep; rw [if_neg hlt]
    have hd := doTick_is x c (timAt x c.1) hc.st.1 t1 (by omega)
    have ht := timOk_cases t2
    have hst := hc.st
    rw [hs]
    unfold doTick at hd
    unfold tickR
    split
    · rename_i h1
      rw [if_pos h1] at hd
      refine ⟨_, 0, false, ?_, nofun, fun _ => ⟨rfl, by simp only; omega⟩, .inr ⟨by simpa using hlt, rfl⟩⟩
      have : (!decide (c.1 = -1)) = true := by simp; omega
      simp only [this]; exact hd
    · rename_i h1
      rw [if_neg h1] at hd
      split
      · rename_i h2
        rw [if_pos h2] at hd
        refine ⟨_, (timAt x c.1).2.2, true, ?_, fun _ => rfl, nofun, .inr ⟨by simpa using hlt, rfl⟩⟩
        have : (!decide ((timAt x c.1).2.1 = -1)) = true := by simp; omega
        simp only [this]; exact hd
      · rename_i h2
        rw [if_neg h2] at hd
        refine ⟨_, 0, false, ?_, nofun, fun _ => ⟨rfl, by simp only; omega⟩, .inr ⟨by simpa using hlt, rfl⟩⟩
        have : (!decide (c.1 = -1)) = true := by simp; omega
        simp only [this]; exact hd

theorem unfold_is (x : Timed) (hr : ∀ r ∈ x.m.rows, r.2.length < 1000000) (htl : x.ts.length < 1000000) : PureIs prog 15 [.ag x.cells] (unfoldA x) := by
  refine PureIs.of (nv := 18) (hid := [21, 33, 36, 52, 59, 60, 61, 69, 85, 91, 102, 106]) func15 rfl (by kernel_rfl) (by simp [ntmps15]) fun _ => ?_
  rw [ntmps15, results15]
  refine EvC.seq (EvC.rg (by (simp only [go_sem, Nat.reduceLT, Nat.reduceLeDiff, Nat.reduceEqDiff, Nat.reduceAdd, Nat.reduceSub, Nat.reduceMul, Nat.reduceBEq, Int.reduceToNat, Int.reduceEq, Int.reduceLT, Int.reduceLE, Int.reduceAdd, ↓reduceIte, reduceCtorEq, Timed.cells]) <;> rfl) (by simp) ?_)  -- R0
  refine EvC.frzB 0 (by (simp only [go_sem, Nat.reduceLT, Nat.reduceLeDiff, Nat.reduceEqDiff, Nat.reduceAdd, Nat.reduceSub, Nat.reduceMul, Nat.reduceBEq, Int.reduceToNat, Int.reduceEq, Int.reduceLT, Int.reduceLE, Int.reduceAdd, ↓reduceIte, reduceCtorEq]) <;> rfl) ?_
  refine EvC.seq ?_
  apply EvC.seq  -- R1
  apply EvC.tr
  · apply Tr.run
    · (simp only [go_sem, Nat.reduceLT, Nat.reduceLeDiff, Nat.reduceEqDiff, Nat.reduceAdd, Nat.reduceSub, Nat.reduceMul, Nat.reduceBEq, Int.reduceToNat, Int.reduceEq, Int.reduceLT, Int.reduceLE, Int.reduceAdd, ↓reduceIte, reduceCtorEq]) <;> rfl
    · simp
    apply Tr.cons
    · exact .call rfl rfl (by (simp only [go_sem, Nat.reduceLT, Nat.reduceLeDiff, Nat.reduceEqDiff, Nat.reduceAdd, Nat.reduceSub, Nat.reduceMul, Nat.reduceBEq, Int.reduceToNat, Int.reduceEq, Int.reduceLT, Int.reduceLE, Int.reduceAdd, ↓reduceIte, reduceCtorEq]) <;> rfl) (by (simp only [go_sem, Nat.reduceLT, Nat.reduceLeDiff, Nat.reduceEqDiff, Nat.reduceAdd, Nat.reduceSub, Nat.reduceMul, Nat.reduceBEq, Int.reduceToNat, Int.reduceEq, Int.reduceLT, Int.reduceLE, Int.reduceAdd, ↓reduceIte, reduceCtorEq]) <;> rfl) (by (simp only [go_sem, Nat.reduceLT, Nat.reduceLeDiff, Nat.reduceEqDiff, Nat.reduceAdd, Nat.reduceSub, Nat.reduceMul, Nat.reduceBEq, Int.reduceToNat, Int.reduceEq, Int.reduceLT, Int.reduceLE, Int.reduceAdd, ↓reduceIte, reduceCtorEq]) <;> rfl) (by (simp only [go_sem, Nat.reduceLT, Nat.reduceLeDiff, Nat.reduceEqDiff, Nat.reduceAdd, Nat.reduceSub, Nat.reduceMul, Nat.reduceBEq, Int.reduceToNat, Int.reduceEq, Int.reduceLT, Int.reduceLE, Int.reduceAdd, ↓reduceIte, reduceCtorEq]) <;> rfl) (by (simp only [go_sem, Nat.reduceLT, Nat.reduceLeDiff, Nat.reduceEqDiff, Nat.reduceAdd, Nat.reduceSub, Nat.reduceMul, Nat.reduceBEq, Int.reduceToNat, Int.reduceEq, Int.reduceLT, Int.reduceLE, Int.reduceAdd, ↓reduceIte, reduceCtorEq]) <;> rfl) (checkT_is x hr htl)
    apply Tr.done
    · (simp only [go_sem, Nat.reduceLT, Nat.reduceLeDiff, Nat.reduceEqDiff, Nat.reduceAdd, Nat.reduceSub, Nat.reduceMul, Nat.reduceBEq, Int.reduceToNat, Int.reduceEq, Int.reduceLT, Int.reduceLE, Int.reduceAdd, ↓reduceIte, reduceCtorEq]) <;> rfl
    · simp
  refine EvC.seq (EvC.rg (by (simp only [go_sem, Nat.reduceLT, Nat.reduceLeDiff, Nat.reduceEqDiff, Nat.reduceAdd, Nat.reduceSub, Nat.reduceMul, Nat.reduceBEq, Int.reduceToNat, Int.reduceEq, Int.reduceLT, Int.reduceLE, Int.reduceAdd, ↓reduceIte, reduceCtorEq]) <;> rfl) (by simp) ?_)  -- R2
  refine EvC.cond (by (simp only [go_sem, Nat.reduceLT, Nat.reduceLeDiff, Nat.reduceEqDiff, Nat.reduceAdd, Nat.reduceSub, Nat.reduceMul, Nat.reduceBEq, Int.reduceToNat, Int.reduceEq, Int.reduceLT, Int.reduceLE, Int.reduceAdd, ↓reduceIte, reduceCtorEq]) <;> rfl) (fun hc => ?_) (fun hc => ?_)
  · have hc : checkT x ≠ 0 := by simpa using hc
    refine EvC.seq (EvC.rg (by (simp only [go_sem, Nat.reduceLT, Nat.reduceLeDiff, Nat.reduceEqDiff, Nat.reduceAdd, Nat.reduceSub, Nat.reduceMul, Nat.reduceBEq, Int.reduceToNat, Int.reduceEq, Int.reduceLT, Int.reduceLE, Int.reduceAdd, ↓reduceIte, reduceCtorEq]) <;> rfl) (by simp) ?_)  -- R3
    refine EvC.ret ⟨.inl rfl, _, (by (simp only [go_sem, Nat.reduceLT, Nat.reduceLeDiff, Nat.reduceEqDiff, Nat.reduceAdd, Nat.reduceSub, Nat.reduceMul, Nat.reduceBEq, Int.reduceToNat, Int.reduceEq, Int.reduceLT, Int.reduceLE, Int.reduceAdd, ↓reduceIte, reduceCtorEq]) <;> rfl), ?_, unfoldA_noref _⟩
    simp only [go_sem, Nat.reduceLT, Nat.reduceLeDiff, Nat.reduceEqDiff, Nat.reduceAdd, Nat.reduceSub, Nat.reduceMul, Nat.reduceBEq, Int.reduceToNat, Int.reduceEq, Int.reduceLT, Int.reduceLE, Int.reduceAdd, ↓reduceIte, reduceCtorEq]
    rw [unfoldA, if_pos hc]; rfl
  have hck : ¬ checkT x ≠ 0 := by simpa using hc
  clear hc
  have hv : ValidT x := .of (by simpa using hck)
  refine EvC.skip ?_
  refine EvC.seq ?_
  apply EvC.seq  -- R4
  apply EvC.trd
  · (simp only [go_sem, Nat.reduceLT, Nat.reduceLeDiff, Nat.reduceEqDiff, Nat.reduceAdd, Nat.reduceSub, Nat.reduceMul, Nat.reduceBEq, Int.reduceToNat, Int.reduceEq, Int.reduceLT, Int.reduceLE, Int.reduceAdd, ↓reduceIte, reduceCtorEq]) <;> rfl
  · simp
  refine EvC.cond (by (simp only [go_sem, Nat.reduceLT, Nat.reduceLeDiff, Nat.reduceEqDiff, Nat.reduceAdd, Nat.reduceSub, Nat.reduceMul, Nat.reduceBEq, Int.reduceToNat, Int.reduceEq, Int.reduceLT, Int.reduceLE, Int.reduceAdd, ↓reduceIte, reduceCtorEq]) <;> rfl) (fun hc => ?_) (fun hc => ?_)
  · have hc : x.m.ins = 16 ∨ x.m.outs = 16 := by by_cases h : x.m.ins = 16 <;> simp_all
    refine EvC.seq (EvC.rg (by (simp only [go_sem, Nat.reduceLT, Nat.reduceLeDiff, Nat.reduceEqDiff, Nat.reduceAdd, Nat.reduceSub, Nat.reduceMul, Nat.reduceBEq, Int.reduceToNat, Int.reduceEq, Int.reduceLT, Int.reduceLE, Int.reduceAdd, ↓reduceIte, reduceCtorEq]) <;> rfl) (by simp) ?_)  -- R5
    refine EvC.ret ⟨.inl rfl, _, (by (simp only [go_sem, Nat.reduceLT, Nat.reduceLeDiff, Nat.reduceEqDiff, Nat.reduceAdd, Nat.reduceSub, Nat.reduceMul, Nat.reduceBEq, Int.reduceToNat, Int.reduceEq, Int.reduceLT, Int.reduceLE, Int.reduceAdd, ↓reduceIte, reduceCtorEq]) <;> rfl), ?_, unfoldA_noref _⟩
    simp only [go_sem, Nat.reduceLT, Nat.reduceLeDiff, Nat.reduceEqDiff, Nat.reduceAdd, Nat.reduceSub, Nat.reduceMul, Nat.reduceBEq, Int.reduceToNat, Int.reduceEq, Int.reduceLT, Int.reduceLE, Int.reduceAdd, ↓reduceIte, reduceCtorEq]
    rw [unfoldA, if_neg hck, if_pos hc]; rfl
  have hio : ¬ (x.m.ins = 16 ∨ x.m.outs = 16) := by by_cases h : x.m.ins = 16 <;> simp_all
  clear hc
  have hin := hv.m.ins
  have hou := hv.m.outs
  have hI1 : inI64 (x.m.ins + 1) = true := inI64_of (by omega) (by omega)
  have hI2 : inI64 (x.m.outs + 1) = true := inI64_of (by omega) (by omega)
  refine EvC.skip ?_
  apply EvC.seq  -- R6
  apply EvC.drd mixed
  · (simp only [go_sem, Nat.reduceLT, Nat.reduceLeDiff, Nat.reduceEqDiff, Nat.reduceAdd, Nat.reduceSub, Nat.reduceMul, Nat.reduceBEq, Int.reduceToNat, Int.reduceEq, Int.reduceLT, Int.reduceLE, Int.reduceAdd, ↓reduceIte, reduceCtorEq]) <;> rfl
  · simp [descAgg, matchKinds, matchKind]
  · kernel_rfl
  refine EvC.seq (EvC.rg (by (simp only [go_sem, Nat.reduceLT, Nat.reduceLeDiff, Nat.reduceEqDiff, Nat.reduceAdd, Nat.reduceSub, Nat.reduceMul, Nat.reduceBEq, Int.reduceToNat, Int.reduceEq, Int.reduceLT, Int.reduceLE, Int.reduceAdd, ↓reduceIte, reduceCtorEq]) <;> rfl) (by simp [hI1, hI2]) ?_)  -- R7
  refine EvC.seq ?_
  refine EvC.seq (EvC.rg (by (simp only [go_sem, Nat.reduceLT, Nat.reduceLeDiff, Nat.reduceEqDiff, Nat.reduceAdd, Nat.reduceSub, Nat.reduceMul, Nat.reduceBEq, Int.reduceToNat, Int.reduceEq, Int.reduceLT, Int.reduceLE, Int.reduceAdd, ↓reduceIte, reduceCtorEq]) <;> rfl) (by simp) ?_)  -- R8
  refine EvC.block ?_  -- 0
  obtain ⟨N, hN⟩ : ∃ N : Nat, N = x.m.ins.toNat + 1 := ⟨_, rfl⟩
  have hN1 : (x.m.ins + 1).toNat = N := by omega
  have hN2 : ((N : Nat) : Int) = x.m.ins + 1 := by omega
  refine EvC.ownC 35 2 1 (by (simp only [go_sem, Nat.reduceLT, Nat.reduceLeDiff, Nat.reduceEqDiff, Nat.reduceAdd, Nat.reduceSub, Nat.reduceMul, Nat.reduceBEq, Int.reduceToNat, Int.reduceEq, Int.reduceLT, Int.reduceLE, Int.reduceAdd, ↓reduceIte, reduceCtorEq]) <;> rfl) ?_
  refine EvC.loopS (σ := Nat × List Cfg × List (List (Int × Int))) (fun g => ⟨[(1, .ia x.cells), (2, .rf 0 0), (5, .tl 2 g.2.1.length false), (6, .mp 1), (7, .rf 3 0), (8, .sc (.int .i64 g.1))], [],
      [(0, .cells [.sc (.int .i64 0), .sc (.int .i64 0), .sl true [] .zer]), (1, .map 75 (ents 0 g.2.1)), (2, .arr 2 (g.2.1.map edgeC) false), (3, .cells [.sc (.int .i64 (x.m.ins + 1)), .sc (.int .i64 (x.m.outs + 1)), .tl 4 g.2.2.length g.2.2.isEmpty]), (4, .arr 1 (g.2.2.map rowF) true)], 5⟩) (fun g => 100 - g.1)
    (fun g => GoodCs x g.2.1 ∧ 1 ≤ g.2.1.length ∧ g.2.1.length ≤ 64 ∧ g.1 ≤ g.2.1.length ∧ g.2.2.length = g.1 ∧ ∃ f, f + g.1 = 100 ∧ unfAll x = (g.2.2 ++ (unfR x f g.1 g.2.1).1, (unfR x f g.1 g.2.1).2)) [1, 2, 5, 6, 7, 8] 5 ?_ ?_
  · refine ⟨[(1, 0), (20, 1), (19, 2), (35, 3), (38, 4)], (0, [(0, 0)], []), rfl, (by (simp only [go_sem, Nat.reduceLT, Nat.reduceLeDiff, Nat.reduceEqDiff, Nat.reduceAdd, Nat.reduceSub, Nat.reduceMul, Nat.reduceBEq, Int.reduceToNat, Int.reduceEq, Int.reduceLT, Int.reduceLE, Int.reduceAdd, ↓reduceIte, reduceCtorEq, ents, pairV, edgeC]) <;> rfl), ?_, by simp, by simp, by simp, rfl, 100, rfl, rfl⟩
    intro c hc
    simp only [List.mem_singleton] at hc
    subst hc; exact .zero hv
  rintro ⟨n, l, rows⟩ ⟨hg, hl1, hl2, hnl, hrl, f, hf, hall⟩
  simp only at hg hl1 hl2 hnl hrl hf hall
  refine EvC.seq ?_
  refine EvC.seq (EvC.rg (by (simp only [go_sem, Nat.reduceLT, Nat.reduceLeDiff, Nat.reduceEqDiff, Nat.reduceAdd, Nat.reduceSub, Nat.reduceMul, Nat.reduceBEq, Int.reduceToNat, Int.reduceEq, Int.reduceLT, Int.reduceLE, Int.reduceAdd, ↓reduceIte, reduceCtorEq]) <;> rfl) (by simp) ?_)  -- R9
  refine EvC.cond (by (simp only [go_sem, Nat.reduceLT, Nat.reduceLeDiff, Nat.reduceEqDiff, Nat.reduceAdd, Nat.reduceSub, Nat.reduceMul, Nat.reduceBEq, Int.reduceToNat, Int.reduceEq, Int.reduceLT, Int.reduceLE, Int.reduceAdd, ↓reduceIte, reduceCtorEq]) <;> rfl) (fun hc => ?_) (fun hc => ?_)
  rotate_left
  · refine EvC.exit ?_  -- 0
    have hc : ¬ n < l.length := by simpa using hc
    have hun : unfR x f n l = ([], l) := by
      cases f with
      | zero => rfl
      | succ f => simp only [unfR, List.getElem?_eq_none (show l.length ≤ n by omega)]
    rw [hun] at hall
    refine EvC.frzD 4 (by (simp only [go_sem, Nat.reduceLT, Nat.reduceLeDiff, Nat.reduceEqDiff, Nat.reduceAdd, Nat.reduceSub, Nat.reduceMul, Nat.reduceBEq, Int.reduceToNat, Int.reduceEq, Int.reduceLT, Int.reduceLE, Int.reduceAdd, ↓reduceIte, reduceCtorEq]) <;> rfl) ?_
    apply EvC.seq  -- R32
    apply EvC.tr
    · apply Tr.run
      · (simp only [go_sem, Nat.reduceLT, Nat.reduceLeDiff, Nat.reduceEqDiff, Nat.reduceAdd, Nat.reduceSub, Nat.reduceMul, Nat.reduceBEq, Int.reduceToNat, Int.reduceEq, Int.reduceLT, Int.reduceLE, Int.reduceAdd, ↓reduceIte, reduceCtorEq]) <;> rfl
      · simp
      apply Tr.cons
      · exact .call rfl rfl (by (simp only [go_sem, Nat.reduceLT, Nat.reduceLeDiff, Nat.reduceEqDiff, Nat.reduceAdd, Nat.reduceSub, Nat.reduceMul, Nat.reduceBEq, Int.reduceToNat, Int.reduceEq, Int.reduceLT, Int.reduceLE, Int.reduceAdd, ↓reduceIte, reduceCtorEq]) <;> rfl) (by (simp only [go_sem, Nat.reduceLT, Nat.reduceLeDiff, Nat.reduceEqDiff, Nat.reduceAdd, Nat.reduceSub, Nat.reduceMul, Nat.reduceBEq, Int.reduceToNat, Int.reduceEq, Int.reduceLT, Int.reduceLE, Int.reduceAdd, ↓reduceIte, reduceCtorEq]) <;> rfl) (by (simp only [go_sem, Nat.reduceLT, Nat.reduceLeDiff, Nat.reduceEqDiff, Nat.reduceAdd, Nat.reduceSub, Nat.reduceMul, Nat.reduceBEq, Int.reduceToNat, Int.reduceEq, Int.reduceLT, Int.reduceLE, Int.reduceAdd, ↓reduceIte, reduceCtorEq]) <;> rfl) (by (simp only [go_sem, Nat.reduceLT, Nat.reduceLeDiff, Nat.reduceEqDiff, Nat.reduceAdd, Nat.reduceSub, Nat.reduceMul, Nat.reduceBEq, Int.reduceToNat, Int.reduceEq, Int.reduceLT, Int.reduceLE, Int.reduceAdd, ↓reduceIte, reduceCtorEq]) <;> rfl) (by (simp only [go_sem, Nat.reduceLT, Nat.reduceLeDiff, Nat.reduceEqDiff, Nat.reduceAdd, Nat.reduceSub, Nat.reduceMul, Nat.reduceBEq, Int.reduceToNat, Int.reduceEq, Int.reduceLT, Int.reduceLE, Int.reduceAdd, ↓reduceIte, reduceCtorEq]) <;> rfl) (clip29_is rows.isEmpty (rows.map rowF) .unk (by simp [rowF, rowC]))
      apply Tr.done
      · (simp only [go_sem, Nat.reduceLT, Nat.reduceLeDiff, Nat.reduceEqDiff, Nat.reduceAdd, Nat.reduceSub, Nat.reduceMul, Nat.reduceBEq, Int.reduceToNat, Int.reduceEq, Int.reduceLT, Int.reduceLE, Int.reduceAdd, ↓reduceIte, reduceCtorEq]) <;> rfl
      · simp
    refine EvC.seq (EvC.rg (by (simp only [go_sem, Nat.reduceLT, Nat.reduceLeDiff, Nat.reduceEqDiff, Nat.reduceAdd, Nat.reduceSub, Nat.reduceMul, Nat.reduceBEq, Int.reduceToNat, Int.reduceEq, Int.reduceLT, Int.reduceLE, Int.reduceAdd, ↓reduceIte, reduceCtorEq]) <;> rfl) (by simp) ?_)  -- R33
    refine EvC.ret ⟨.inl rfl, _, (by (simp only [go_sem, Nat.reduceLT, Nat.reduceLeDiff, Nat.reduceEqDiff, Nat.reduceAdd, Nat.reduceSub, Nat.reduceMul, Nat.reduceBEq, Int.reduceToNat, Int.reduceEq, Int.reduceLT, Int.reduceLE, Int.reduceAdd, ↓reduceIte, reduceCtorEq]) <;> rfl), ?_, unfoldA_noref _⟩
    simp only [go_sem, Nat.reduceLT, Nat.reduceLeDiff, Nat.reduceEqDiff, Nat.reduceAdd, Nat.reduceSub, Nat.reduceMul, Nat.reduceBEq, Int.reduceToNat, Int.reduceEq, Int.reduceLT, Int.reduceLE, Int.reduceAdd, ↓reduceIte, reduceCtorEq]
    have hne : rows.isEmpty = false := by
      cases rows with
      | nil => simp at hrl; omega
      | cons r rs => rfl
    rw [unfoldA, if_neg hck, if_neg hio, hall, if_pos (by simpa using hl2), hne]
    simp
  have hc : n < l.length := by simpa using hc
  have he : l[n]? = some l[n] := List.getElem?_eq_getElem hc
  have hgc : GoodC x l[n] := hg _ (List.getElem_mem hc)
  generalize l[n] = c at he hgc
  obtain ⟨f, rfl⟩ : ∃ k, f = k + 1 := ⟨f - 1, by omega⟩
  have hstep : unfR x (f + 1) n l = ((rowU x c N 0 l).1 :: (unfR x f (n + 1) (rowU x c N 0 l).2).1, (unfR x f (n + 1) (rowU x c N 0 l).2).2) := by
    rw [unfR, he]
    simp only
    rw [if_neg (by omega), ← hN]
  rw [hstep] at hall
  have hg0 := hg
  refine EvC.skip ?_
  refine EvC.seq ?_
  refine EvC.block ?_  -- 1
  have hrep : List.replicate N [AV.sc (Value.int .i64 0), AV.sc (Value.int .i64 0)] = (List.replicate N ((0, 0) : Int × Int)).map edgeC := by simp [edgeC, List.map_replicate]
  refine EvC.seq (EvC.rg (by (simp only [go_sem, Nat.reduceLT, Nat.reduceLeDiff, Nat.reduceEqDiff, Nat.reduceAdd, Nat.reduceSub, Nat.reduceMul, Nat.reduceBEq, Int.reduceToNat, Int.reduceEq, Int.reduceLT, Int.reduceLE, Int.reduceAdd, ↓reduceIte, reduceCtorEq, hN1, hrep]) <;> rfl) ?_ ?_)  -- R11
  · simp [room_eq]; omega
  refine EvC.seq ?_
  refine EvC.seq (EvC.rg (by (simp only [go_sem, Nat.reduceLT, Nat.reduceLeDiff, Nat.reduceEqDiff, Nat.reduceAdd, Nat.reduceSub, Nat.reduceMul, Nat.reduceBEq, Int.reduceToNat, Int.reduceEq, Int.reduceLT, Int.reduceLE, Int.reduceAdd, ↓reduceIte, reduceCtorEq, List.length_map, List.length_replicate]) <;> rfl) (by simp) ?_)  -- R12
  refine EvC.block ?_  -- 2
  refine EvC.loopS (σ := Nat × List Cfg × List (Int × Int)) (fun g => ⟨[(1, .ia x.cells), (2, .rf 0 0), (5, .tl 2 g.2.1.length false), (6, .mp 1), (7, .rf 3 0), (8, .sc (.int .i64 n)), (9, .tl 5 N false), (59, .sc (.int .i64 N)), (60, .sc (.int .i64 g.1))], [],
      [(0, .cells [.sc (.int .i64 0), .sc (.int .i64 0), .sl true [] .zer]), (1, .map 75 (ents 0 g.2.1)), (2, .arr 2 (g.2.1.map edgeC) false), (3, .cells [.sc (.int .i64 (x.m.ins + 1)), .sc (.int .i64 (x.m.outs + 1)), .tl 4 rows.length rows.isEmpty]), (4, .arr 1 (rows.map rowF) true),
       (5, .arr 2 ((g.2.2 ++ List.replicate (N - g.1) (0, 0)).map edgeC) false)], 6⟩) (fun g => N - g.1)
    (fun g => GoodCs x g.2.1 ∧ g.2.1.length ≤ 64 ∧ n < g.2.1.length ∧ g.2.1[n]? = some c ∧ g.2.2.length = g.1 ∧ g.1 ≤ N ∧ rowU x c N 0 l = (g.2.2 ++ (rowU x c (N - g.1) g.1 g.2.1).1, (rowU x c (N - g.1) g.1 g.2.1).2)) [1, 2, 5, 6, 7, 8, 9, 59, 60] 6 ?_ ?_
  · refine ⟨[(0, 0), (1, 1), (2, 2), (3, 3), (4, 4), (11, 5)], (0, l, []), rfl, (by (simp only [go_sem, Nat.reduceLT, Nat.reduceLeDiff, Nat.reduceEqDiff, Nat.reduceAdd, Nat.reduceSub, Nat.reduceMul, Nat.reduceBEq, Int.reduceToNat, Int.reduceEq, Int.reduceLT, Int.reduceLE, Int.reduceAdd, ↓reduceIte, reduceCtorEq]) <;> rfl), hg, hl2, hc, he, rfl, Nat.zero_le _, rfl⟩
  rintro ⟨i, l', pre⟩ ⟨hg, hl2, hc, he, hpl, hiN, hrow⟩
  simp only at hg hl2 hc he hpl hiN hrow
  obtain ⟨R, hR⟩ : ∃ R, R = pre ++ List.replicate (N - i) ((0, 0) : Int × Int) := ⟨_, rfl⟩
  simp only [← hR]
  refine EvC.seq (EvC.rg (by (simp only [go_sem, Nat.reduceLT, Nat.reduceLeDiff, Nat.reduceEqDiff, Nat.reduceAdd, Nat.reduceSub, Nat.reduceMul, Nat.reduceBEq, Int.reduceToNat, Int.reduceEq, Int.reduceLT, Int.reduceLE, Int.reduceAdd, ↓reduceIte, reduceCtorEq]) <;> rfl) (by simp) ?_)  -- R13
  refine EvC.seq ?_
  refine EvC.cond (by (simp only [go_sem, Nat.reduceLT, Nat.reduceLeDiff, Nat.reduceEqDiff, Nat.reduceAdd, Nat.reduceSub, Nat.reduceMul, Nat.reduceBEq, Int.reduceToNat, Int.reduceEq, Int.reduceLT, Int.reduceLE, Int.reduceAdd, ↓reduceIte, reduceCtorEq]) <;> rfl) (fun hci => ?_) (fun hci => ?_)
  rotate_left
  · refine EvC.exit ?_  -- 2
    have hci : ¬ i < N := by simpa using hci
    obtain rfl : i = N := by omega
    rw [Nat.sub_self, rowU, List.append_nil] at hrow
    rw [hrow] at hall
    simp only at hall
    have hlen : pre.length = i := hpl
    obtain rfl : R = pre := by rw [hR, Nat.sub_self]; simp
    clear hR
    refine EvC.frz 5 (by (simp only [go_sem, Nat.reduceLT, Nat.reduceLeDiff, Nat.reduceEqDiff, Nat.reduceAdd, Nat.reduceSub, Nat.reduceMul, Nat.reduceBEq, Int.reduceToNat, Int.reduceEq, Int.reduceLT, Int.reduceLE, Int.reduceAdd, ↓reduceIte, reduceCtorEq, Nat.sub_self, hlen, List.length_map]) <;> rfl) ?_
    refine EvC.rg (by (simp only [go_sem, Nat.reduceLT, Nat.reduceLeDiff, Nat.reduceEqDiff, Nat.reduceAdd, Nat.reduceSub, Nat.reduceMul, Nat.reduceBEq, Int.reduceToNat, Int.reduceEq, Int.reduceLT, Int.reduceLE, Int.reduceAdd, ↓reduceIte, reduceCtorEq]) <;> rfl) ?_ ?_  -- R31
    · simp [room_eq, AV.norefs, AV.noref]; omega
    refine EvC.rg (by (simp only [go_sem, Nat.reduceLT, Nat.reduceLeDiff, Nat.reduceEqDiff, Nat.reduceAdd, Nat.reduceSub, Nat.reduceMul, Nat.reduceBEq, Int.reduceToNat, Int.reduceEq, Int.reduceLT, Int.reduceLE, Int.reduceAdd, ↓reduceIte, reduceCtorEq]) <;> rfl) (inI64_of (by omega) (by omega)) ?_  -- R10
    refine ⟨[(0, 0), (1, 1), (2, 2), (3, 3), (4, 4)], (n + 1, l', rows ++ [R]), rfl, (by (simp only [go_sem, Nat.reduceLT, Nat.reduceLeDiff, Nat.reduceEqDiff, Nat.reduceAdd, Nat.reduceSub, Nat.reduceMul, Nat.reduceBEq, Int.reduceToNat, Int.reduceEq, Int.reduceLT, Int.reduceLE, Int.reduceAdd, ↓reduceIte, reduceCtorEq, rowF, rowC]) <;> rfl), ⟨hg, by simp only; omega, hl2, by simp only; omega, by simp [hrl], f, by simp only; omega, by rw [hall]; simp⟩, by simp only; omega⟩
  have hci : i < N := by simpa using hci
  obtain ⟨m, hm⟩ : ∃ m, N - i = m + 1 := ⟨N - i - 1, by omega⟩
  have hm' : N - (i + 1) = m := by omega
  rw [hm, rowU] at hrow
  have hrepl : R = pre ++ (0, 0) :: List.replicate m (0, 0) := by rw [hR, hm, List.replicate_succ]
  have hlenN : R.length = N := by rw [hrepl]; simp; omega
  have hset : ∀ a b : Int, (R.map edgeC).set i [.sc (.int .i64 a), .sc (.int .i64 b)] = ((pre ++ [(a, b)]) ++ List.replicate (N - (i + 1)) (0, 0)).map edgeC := fun a b => by
    show (R.map edgeC).set i (edgeC (a, b)) = _
    rw [hrepl, ← List.map_set, List.set_append_right _ _ (by omega), hpl, Nat.sub_self, List.set_cons_zero, hm']; simp
  have hget : R[i]? = some (0, 0) := by
    rw [hrepl, List.getElem?_append_right (by omega), hpl, Nat.sub_self]; rfl
  clear hrepl hR
  obtain ⟨A, o, sd, hdo, ho1, ho2, hA⟩ := do_is hv hgc (i := i) (by omega)
  have hcs := cfgStep_good hv hgc (i := i) (by omega)
  have hIi : inI64 ((i : Int) + 1) = true := inI64_of (by omega) (by omega)
  obtain ⟨to, hto⟩ : ∃ to, to = (cfgStep x c i).1 := ⟨_, rfl⟩
  obtain ⟨ou, hou'⟩ : ∃ ou, ou = (cfgStep x c i).2 := ⟨_, rfl⟩
  rw [← hto] at hdo ho2 hcs
  rw [← hou'] at ho1 ho2 hcs
  have hent : entU x c i l' = if to.1 < 0 then (((-1 : Int), ou), l') else ((((idxC to l' : Nat) : Int), ou), addC to l') := by unfold entU; rw [← hto, ← hou']
  refine EvC.skip ?_
  refine EvC.seq ?_
  refine EvC.block ?_  -- 3
  refine EvC.seq (EvC.rg (by (simp only [go_sem, Nat.reduceLT, Nat.reduceLeDiff, Nat.reduceEqDiff, Nat.reduceAdd, Nat.reduceSub, Nat.reduceMul, Nat.reduceBEq, Int.reduceToNat, Int.reduceEq, Int.reduceLT, Int.reduceLE, Int.reduceAdd, ↓reduceIte, reduceCtorEq]) <;> rfl) (by simp) ?_)  -- R14
  refine EvC.seq (EvC.rg (by (simp only [go_sem, Nat.reduceLT, Nat.reduceLeDiff, Nat.reduceEqDiff, Nat.reduceAdd, Nat.reduceSub, Nat.reduceMul, Nat.reduceBEq, Int.reduceToNat, Int.reduceEq, Int.reduceLT, Int.reduceLE, Int.reduceAdd, ↓reduceIte, reduceCtorEq]) <;> rfl) (by simp) ?_)  -- R15
  refine EvC.seq ?_
  refine EvC.seq (EvC.rg (by (simp only [go_sem, Nat.reduceLT, Nat.reduceLeDiff, Nat.reduceEqDiff, Nat.reduceAdd, Nat.reduceSub, Nat.reduceMul, Nat.reduceBEq, Int.reduceToNat, Int.reduceEq, Int.reduceLT, Int.reduceLE, Int.reduceAdd, ↓reduceIte, reduceCtorEq, Timed.cells]) <;> rfl) (by simp) ?_)  -- R16
  rcases hA with ⟨hA1, rfl⟩ | ⟨hA1, rfl⟩
  · refine EvC.cond_true (by (simp only [go_sem, Nat.reduceLT, Nat.reduceLeDiff, Nat.reduceEqDiff, Nat.reduceAdd, Nat.reduceSub, Nat.reduceMul, Nat.reduceBEq, Int.reduceToNat, Int.reduceEq, Int.reduceLT, Int.reduceLE, Int.reduceAdd, ↓reduceIte, reduceCtorEq, hA1]) <;> rfl) ?_
    refine EvC.rg (by (simp only [go_sem, Nat.reduceLT, Nat.reduceLeDiff, Nat.reduceEqDiff, Nat.reduceAdd, Nat.reduceSub, Nat.reduceMul, Nat.reduceBEq, Int.reduceToNat, Int.reduceEq, Int.reduceLT, Int.reduceLE, Int.reduceAdd, ↓reduceIte, reduceCtorEq]) <;> rfl) (by simp) ?_  -- R17
    apply EvC.seq  -- R18
    apply EvC.drw mixed
    · apply Tr.run
      · (simp only [go_sem, Nat.reduceLT, Nat.reduceLeDiff, Nat.reduceEqDiff, Nat.reduceAdd, Nat.reduceSub, Nat.reduceMul, Nat.reduceBEq, Int.reduceToNat, Int.reduceEq, Int.reduceLT, Int.reduceLE, Int.reduceAdd, ↓reduceIte, reduceCtorEq, Timed.cells, he, edgeC]) <;> rfl
      · simp [hc]
      apply Tr.cons
      · exact .call rfl rfl (by (simp only [go_sem, Nat.reduceLT, Nat.reduceLeDiff, Nat.reduceEqDiff, Nat.reduceAdd, Nat.reduceSub, Nat.reduceMul, Nat.reduceBEq, Int.reduceToNat, Int.reduceEq, Int.reduceLT, Int.reduceLE, Int.reduceAdd, ↓reduceIte, reduceCtorEq]) <;> rfl) (by (simp only [go_sem, Nat.reduceLT, Nat.reduceLeDiff, Nat.reduceEqDiff, Nat.reduceAdd, Nat.reduceSub, Nat.reduceMul, Nat.reduceBEq, Int.reduceToNat, Int.reduceEq, Int.reduceLT, Int.reduceLE, Int.reduceAdd, ↓reduceIte, reduceCtorEq]) <;> rfl) (by (simp only [go_sem, Nat.reduceLT, Nat.reduceLeDiff, Nat.reduceEqDiff, Nat.reduceAdd, Nat.reduceSub, Nat.reduceMul, Nat.reduceBEq, Int.reduceToNat, Int.reduceEq, Int.reduceLT, Int.reduceLE, Int.reduceAdd, ↓reduceIte, reduceCtorEq]) <;> rfl) (by (simp only [go_sem, Nat.reduceLT, Nat.reduceLeDiff, Nat.reduceEqDiff, Nat.reduceAdd, Nat.reduceSub, Nat.reduceMul, Nat.reduceBEq, Int.reduceToNat, Int.reduceEq, Int.reduceLT, Int.reduceLE, Int.reduceAdd, ↓reduceIte, reduceCtorEq]) <;> rfl) (by (simp only [go_sem, Nat.reduceLT, Nat.reduceLeDiff, Nat.reduceEqDiff, Nat.reduceAdd, Nat.reduceSub, Nat.reduceMul, Nat.reduceBEq, Int.reduceToNat, Int.reduceEq, Int.reduceLT, Int.reduceLE, Int.reduceAdd, ↓reduceIte, reduceCtorEq]) <;> rfl) (by simpa [Timed.cells, edgeA] using hdo)
      apply Tr.done
      · (simp only [go_sem, Nat.reduceLT, Nat.reduceLeDiff, Nat.reduceEqDiff, Nat.reduceAdd, Nat.reduceSub, Nat.reduceMul, Nat.reduceBEq, Int.reduceToNat, Int.reduceEq, Int.reduceLT, Int.reduceLE, Int.reduceAdd, ↓reduceIte, reduceCtorEq, doA, edgeA]) <;> rfl
      · simp
    · kernel_rfl
    refine EvC.seq ?_
    refine EvC.seq (EvC.rg (by (simp only [go_sem, Nat.reduceLT, Nat.reduceLeDiff, Nat.reduceEqDiff, Nat.reduceAdd, Nat.reduceSub, Nat.reduceMul, Nat.reduceBEq, Int.reduceToNat, Int.reduceEq, Int.reduceLT, Int.reduceLE, Int.reduceAdd, ↓reduceIte, reduceCtorEq]) <;> rfl) (by simp) ?_)  -- R19
    refine EvC.cond (by (simp only [go_sem, Nat.reduceLT, Nat.reduceLeDiff, Nat.reduceEqDiff, Nat.reduceAdd, Nat.reduceSub, Nat.reduceMul, Nat.reduceBEq, Int.reduceToNat, Int.reduceEq, Int.reduceLT, Int.reduceLE, Int.reduceAdd, ↓reduceIte, reduceCtorEq]) <;> rfl) (fun hd => ?_) (fun hd => ?_)
    · have hd : to.1 = -1 := by simpa using hd
      have hou2 : ou = -1 := by
        rcases hcs with hcs | hcs
        · have := hcs.1.st; omega
        · exact hcs.2.1
      rw [if_pos (by omega), hou2] at hent
      rw [hent] at hrow
      refine EvC.seq (EvC.rg (by (simp only [go_sem, Nat.reduceLT, Nat.reduceLeDiff, Nat.reduceEqDiff, Nat.reduceAdd, Nat.reduceSub, Nat.reduceMul, Nat.reduceBEq, Int.reduceToNat, Int.reduceEq, Int.reduceLT, Int.reduceLE, Int.reduceAdd, ↓reduceIte, reduceCtorEq, hget, edgeC, hset, List.length_map]) <;> rfl) (by simp [hlenN, hci]) ?_)  -- R20
      refine EvC.exit ?_  -- 3
      refine EvC.rg (by (simp only [go_sem, Nat.reduceLT, Nat.reduceLeDiff, Nat.reduceEqDiff, Nat.reduceAdd, Nat.reduceSub, Nat.reduceMul, Nat.reduceBEq, Int.reduceToNat, Int.reduceEq, Int.reduceLT, Int.reduceLE, Int.reduceAdd, ↓reduceIte, reduceCtorEq]) <;> rfl) hIi ?_  -- R30
      refine ⟨[(0, 0), (1, 1), (2, 2), (3, 3), (4, 4), (5, 5)], (i + 1, l', pre ++ [(-1, -1)]), rfl, (by (simp only [go_sem, Nat.reduceLT, Nat.reduceLeDiff, Nat.reduceEqDiff, Nat.reduceAdd, Nat.reduceSub, Nat.reduceMul, Nat.reduceBEq, Int.reduceToNat, Int.reduceEq, Int.reduceLT, Int.reduceLE, Int.reduceAdd, ↓reduceIte, reduceCtorEq, edgeC]) <;> rfl), ⟨hg, hl2, hc, he, by simp [hpl], by simp only; omega, ?_⟩, by simp only; omega⟩
      simp only
      rw [hrow, hm']; simp
    have hd : ¬ to.1 = -1 := by simpa using hd
    have hgt : GoodC x to := by
      rcases hcs with hcs | hcs
      · exact hcs.1
      · exact absurd hcs.1 hd
    have hto0 := hgt.st
    rw [if_neg (by omega)] at hent
    rw [hent] at hrow
    refine EvC.skip ?_
    refine EvC.seq ?_
    refine EvC.seq (EvC.rg (by (simp only [go_sem, Nat.reduceLT, Nat.reduceLeDiff, Nat.reduceEqDiff, Nat.reduceAdd, Nat.reduceSub, Nat.reduceMul, Nat.reduceBEq, Int.reduceToNat, Int.reduceEq, Int.reduceLT, Int.reduceLE, Int.reduceAdd, ↓reduceIte, reduceCtorEq]) <;> rfl) (by simp) ?_)  -- R21
    have helk := elook_ents to l' 0
    cases sd
    · refine EvC.cond_true (by (simp only [go_sem, Nat.reduceLT, Nat.reduceLeDiff, Nat.reduceEqDiff, Nat.reduceAdd, Nat.reduceSub, Nat.reduceMul, Nat.reduceBEq, Int.reduceToNat, Int.reduceEq, Int.reduceLT, Int.reduceLE, Int.reduceAdd, ↓reduceIte, reduceCtorEq]) <;> rfl) ?_
      refine EvC.rg (by (simp only [go_sem, Nat.reduceLT, Nat.reduceLeDiff, Nat.reduceEqDiff, Nat.reduceAdd, Nat.reduceSub, Nat.reduceMul, Nat.reduceBEq, Int.reduceToNat, Int.reduceEq, Int.reduceLT, Int.reduceLE, Int.reduceAdd, ↓reduceIte, reduceCtorEq, Timed.cells]) <;> rfl) (by simp) ?_  -- R22
      have ho2 := (ho2 rfl).1
      rw [← ho2] at hrow
      by_cases hmem : to ∈ l'
      · have hel : elook (ents 0 l') (.agg [Value.int .i64 to.1, .int .i64 to.2].toArray) = some (.sc (.int .i64 (idxC to l' : Nat))) := by
          rw [if_pos hmem, Nat.zero_add] at helk; exact helk
        have haddC : addC to l' = l' := if_pos hmem
        rw [haddC] at hrow
        refine EvC.seq (EvC.rg (by (simp only [go_sem, Nat.reduceLT, Nat.reduceLeDiff, Nat.reduceEqDiff, Nat.reduceAdd, Nat.reduceSub, Nat.reduceMul, Nat.reduceBEq, Int.reduceToNat, Int.reduceEq, Int.reduceLT, Int.reduceLE, Int.reduceAdd, ↓reduceIte, reduceCtorEq, hel]) <;> rfl) (by simp) ?_)  -- R23
        refine EvC.seq ?_
        refine EvC.seq (EvC.rg (by (simp only [go_sem, Nat.reduceLT, Nat.reduceLeDiff, Nat.reduceEqDiff, Nat.reduceAdd, Nat.reduceSub, Nat.reduceMul, Nat.reduceBEq, Int.reduceToNat, Int.reduceEq, Int.reduceLT, Int.reduceLE, Int.reduceAdd, ↓reduceIte, reduceCtorEq]) <;> rfl) (by simp) ?_)  -- R24
        refine EvC.cond_false (by (simp only [go_sem, Nat.reduceLT, Nat.reduceLeDiff, Nat.reduceEqDiff, Nat.reduceAdd, Nat.reduceSub, Nat.reduceMul, Nat.reduceBEq, Int.reduceToNat, Int.reduceEq, Int.reduceLT, Int.reduceLE, Int.reduceAdd, ↓reduceIte, reduceCtorEq]) <;> rfl) ?_
        refine EvC.skip ?_
        refine EvC.rg (by (simp only [go_sem, Nat.reduceLT, Nat.reduceLeDiff, Nat.reduceEqDiff, Nat.reduceAdd, Nat.reduceSub, Nat.reduceMul, Nat.reduceBEq, Int.reduceToNat, Int.reduceEq, Int.reduceLT, Int.reduceLE, Int.reduceAdd, ↓reduceIte, reduceCtorEq, hget, edgeC, hset, List.length_map]) <;> rfl) (by simp [hlenN, hci]) ?_  -- R29
        refine EvC.rg (by (simp only [go_sem, Nat.reduceLT, Nat.reduceLeDiff, Nat.reduceEqDiff, Nat.reduceAdd, Nat.reduceSub, Nat.reduceMul, Nat.reduceBEq, Int.reduceToNat, Int.reduceEq, Int.reduceLT, Int.reduceLE, Int.reduceAdd, ↓reduceIte, reduceCtorEq]) <;> rfl) hIi ?_  -- R30
        refine ⟨[(0, 0), (1, 1), (2, 2), (3, 3), (4, 4), (5, 5)], (i + 1, l', pre ++ [(((idxC to l' : Nat) : Int), x.m.outs)]), rfl, (by (simp only [go_sem, Nat.reduceLT, Nat.reduceLeDiff, Nat.reduceEqDiff, Nat.reduceAdd, Nat.reduceSub, Nat.reduceMul, Nat.reduceBEq, Int.reduceToNat, Int.reduceEq, Int.reduceLT, Int.reduceLE, Int.reduceAdd, ↓reduceIte, reduceCtorEq, edgeC]) <;> rfl), ⟨hg, hl2, hc, he, by simp [hpl], by simp only; omega, ?_⟩, by simp only; omega⟩
        simp only
        rw [hrow, hm']; simp
      · have hel : elook (ents 0 l') (.agg [Value.int .i64 to.1, .int .i64 to.2].toArray) = none := by
          rw [if_neg hmem] at helk; exact helk
        have haddC : addC to l' = l' ++ [to] := if_neg hmem
        have hidx : idxC to l' = l'.length := by
          have h1 := idxC_le to l'
          have h2 := mt idxC_mem.1 hmem
          omega
        have hes : eset (ents 0 l') (.agg [Value.int .i64 to.1, .int .i64 to.2].toArray) (.sc (.int .i64 l'.length)) = ents 0 (l' ++ [to]) := by
          have := eset_ents to l' 0 hmem
          rw [Nat.zero_add] at this
          exact this
        rw [haddC, hidx] at hrow
        refine EvC.seq (EvC.rg (by (simp only [go_sem, Nat.reduceLT, Nat.reduceLeDiff, Nat.reduceEqDiff, Nat.reduceAdd, Nat.reduceSub, Nat.reduceMul, Nat.reduceBEq, Int.reduceToNat, Int.reduceEq, Int.reduceLT, Int.reduceLE, Int.reduceAdd, ↓reduceIte, reduceCtorEq, hel]) <;> rfl) (by simp) ?_)  -- R23
        refine EvC.seq ?_
        refine EvC.seq (EvC.rg (by (simp only [go_sem, Nat.reduceLT, Nat.reduceLeDiff, Nat.reduceEqDiff, Nat.reduceAdd, Nat.reduceSub, Nat.reduceMul, Nat.reduceBEq, Int.reduceToNat, Int.reduceEq, Int.reduceLT, Int.reduceLE, Int.reduceAdd, ↓reduceIte, reduceCtorEq]) <;> rfl) (by simp) ?_)  -- R24
        refine EvC.cond_true (by (simp only [go_sem, Nat.reduceLT, Nat.reduceLeDiff, Nat.reduceEqDiff, Nat.reduceAdd, Nat.reduceSub, Nat.reduceMul, Nat.reduceBEq, Int.reduceToNat, Int.reduceEq, Int.reduceLT, Int.reduceLE, Int.reduceAdd, ↓reduceIte, reduceCtorEq]) <;> rfl) ?_
        refine EvC.seq ?_
        refine EvC.seq (EvC.rg (by (simp only [go_sem, Nat.reduceLT, Nat.reduceLeDiff, Nat.reduceEqDiff, Nat.reduceAdd, Nat.reduceSub, Nat.reduceMul, Nat.reduceBEq, Int.reduceToNat, Int.reduceEq, Int.reduceLT, Int.reduceLE, Int.reduceAdd, ↓reduceIte, reduceCtorEq, List.length_map]) <;> rfl) (by simp) ?_)  -- R25
        refine EvC.seq (EvC.rg (by (simp only [go_sem, Nat.reduceLT, Nat.reduceLeDiff, Nat.reduceEqDiff, Nat.reduceAdd, Nat.reduceSub, Nat.reduceMul, Nat.reduceBEq, Int.reduceToNat, Int.reduceEq, Int.reduceLT, Int.reduceLE, Int.reduceAdd, ↓reduceIte, reduceCtorEq]) <;> rfl) (by simp) ?_)  -- R26
        refine EvC.cond (by (simp only [go_sem, Nat.reduceLT, Nat.reduceLeDiff, Nat.reduceEqDiff, Nat.reduceAdd, Nat.reduceSub, Nat.reduceMul, Nat.reduceBEq, Int.reduceToNat, Int.reduceEq, Int.reduceLT, Int.reduceLE, Int.reduceAdd, ↓reduceIte, reduceCtorEq]) <;> rfl) (fun h64 => ?_) (fun h64 => ?_)
        · have h64 : l'.length = 64 := by
            have : (l'.length : Int) = 64 := by simpa using h64
            omega
          refine EvC.seq (EvC.rg (by (simp only [go_sem, Nat.reduceLT, Nat.reduceLeDiff, Nat.reduceEqDiff, Nat.reduceAdd, Nat.reduceSub, Nat.reduceMul, Nat.reduceBEq, Int.reduceToNat, Int.reduceEq, Int.reduceLT, Int.reduceLE, Int.reduceAdd, ↓reduceIte, reduceCtorEq]) <;> rfl) (by simp) ?_)  -- R27
          refine EvC.ret ⟨.inl rfl, _, (by (simp only [go_sem, Nat.reduceLT, Nat.reduceLeDiff, Nat.reduceEqDiff, Nat.reduceAdd, Nat.reduceSub, Nat.reduceMul, Nat.reduceBEq, Int.reduceToNat, Int.reduceEq, Int.reduceLT, Int.reduceLE, Int.reduceAdd, ↓reduceIte, reduceCtorEq]) <;> rfl), ?_, unfoldA_noref _⟩
          simp only [go_sem, Nat.reduceLT, Nat.reduceLeDiff, Nat.reduceEqDiff, Nat.reduceAdd, Nat.reduceSub, Nat.reduceMul, Nat.reduceBEq, Int.reduceToNat, Int.reduceEq, Int.reduceLT, Int.reduceLE, Int.reduceAdd, ↓reduceIte, reduceCtorEq]
          have hbig : ¬ (unfAll x).2.length ≤ 64 := by
            rw [hall]
            simp only
            have h1 := unfR_len x f (n + 1) (rowU x c N 0 l).2
            have h2 := (rowU_len x c m (i + 1) (l' ++ [to])).1
            have h3 : (rowU x c N 0 l).2 = (rowU x c m (i + 1) (l' ++ [to])).2 := by rw [hrow]
            rw [h3] at h1 ⊢
            simp only [List.length_append, List.length_cons, List.length_nil] at h2
            omega
          rw [unfoldA, if_neg hck, if_neg hio, if_neg hbig]; rfl
        have h64 : ¬ l'.length = 64 := by
          have : ¬ (l'.length : Int) = 64 := by simpa using h64
          omega
        refine EvC.skip ?_
        apply EvC.drd mixed  -- R28
        · (simp only [go_sem, Nat.reduceLT, Nat.reduceLeDiff, Nat.reduceEqDiff, Nat.reduceAdd, Nat.reduceSub, Nat.reduceMul, Nat.reduceBEq, Int.reduceToNat, Int.reduceEq, Int.reduceLT, Int.reduceLE, Int.reduceAdd, ↓reduceIte, reduceCtorEq, hes]) <;> rfl
        · simp [room_eq, AV.norefs, AV.noref, descAgg, matchKinds, matchKind]; omega
        · kernel_rfl
        refine EvC.rg (by (simp only [go_sem, Nat.reduceLT, Nat.reduceLeDiff, Nat.reduceEqDiff, Nat.reduceAdd, Nat.reduceSub, Nat.reduceMul, Nat.reduceBEq, Int.reduceToNat, Int.reduceEq, Int.reduceLT, Int.reduceLE, Int.reduceAdd, ↓reduceIte, reduceCtorEq, hget, edgeC, hset, List.length_map]) <;> rfl) (by simp [hlenN, hci]) ?_  -- R29
        refine EvC.rg (by (simp only [go_sem, Nat.reduceLT, Nat.reduceLeDiff, Nat.reduceEqDiff, Nat.reduceAdd, Nat.reduceSub, Nat.reduceMul, Nat.reduceBEq, Int.reduceToNat, Int.reduceEq, Int.reduceLT, Int.reduceLE, Int.reduceAdd, ↓reduceIte, reduceCtorEq]) <;> rfl) hIi ?_  -- R30
        refine ⟨[(0, 0), (1, 1), (2, 2), (3, 3), (4, 4), (5, 5)], (i + 1, l' ++ [to], pre ++ [((l'.length : Int), x.m.outs)]), rfl, (by (simp only [go_sem, Nat.reduceLT, Nat.reduceLeDiff, Nat.reduceEqDiff, Nat.reduceAdd, Nat.reduceSub, Nat.reduceMul, Nat.reduceBEq, Int.reduceToNat, Int.reduceEq, Int.reduceLT, Int.reduceLE, Int.reduceAdd, ↓reduceIte, reduceCtorEq, edgeC]) <;> rfl), ⟨(fun d hd => by rcases List.mem_append.1 hd with h | h; exact hg d h; simp only [List.mem_singleton] at h; subst h; exact hgt), by simp; omega, by simp; omega, by rw [List.getElem?_append_left hc]; exact he, by simp [hpl], by simp only; omega, ?_⟩, by simp only; omega⟩
        simp only
        rw [hrow, hm']; simp
    · refine EvC.cond_false (by (simp only [go_sem, Nat.reduceLT, Nat.reduceLeDiff, Nat.reduceEqDiff, Nat.reduceAdd, Nat.reduceSub, Nat.reduceMul, Nat.reduceBEq, Int.reduceToNat, Int.reduceEq, Int.reduceLT, Int.reduceLE, Int.reduceAdd, ↓reduceIte, reduceCtorEq]) <;> rfl) ?_
      refine EvC.skip ?_
      have ho1 := ho1 rfl
      rw [← ho1] at hrow
      by_cases hmem : to ∈ l'
      · have hel : elook (ents 0 l') (.agg [Value.int .i64 to.1, .int .i64 to.2].toArray) = some (.sc (.int .i64 (idxC to l' : Nat))) := by
          rw [if_pos hmem, Nat.zero_add] at helk; exact helk
        have haddC : addC to l' = l' := if_pos hmem
        rw [haddC] at hrow
        refine EvC.seq (EvC.rg (by (simp only [go_sem, Nat.reduceLT, Nat.reduceLeDiff, Nat.reduceEqDiff, Nat.reduceAdd, Nat.reduceSub, Nat.reduceMul, Nat.reduceBEq, Int.reduceToNat, Int.reduceEq, Int.reduceLT, Int.reduceLE, Int.reduceAdd, ↓reduceIte, reduceCtorEq, hel]) <;> rfl) (by simp) ?_)  -- R23
        refine EvC.seq ?_
        refine EvC.seq (EvC.rg (by (simp only [go_sem, Nat.reduceLT, Nat.reduceLeDiff, Nat.reduceEqDiff, Nat.reduceAdd, Nat.reduceSub, Nat.reduceMul, Nat.reduceBEq, Int.reduceToNat, Int.reduceEq, Int.reduceLT, Int.reduceLE, Int.reduceAdd, ↓reduceIte, reduceCtorEq]) <;> rfl) (by simp) ?_)  -- R24
        refine EvC.cond_false (by (simp only [go_sem, Nat.reduceLT, Nat.reduceLeDiff, Nat.reduceEqDiff, Nat.reduceAdd, Nat.reduceSub, Nat.reduceMul, Nat.reduceBEq, Int.reduceToNat, Int.reduceEq, Int.reduceLT, Int.reduceLE, Int.reduceAdd, ↓reduceIte, reduceCtorEq]) <;> rfl) ?_
        refine EvC.skip ?_
        refine EvC.rg (by (simp only [go_sem, Nat.reduceLT, Nat.reduceLeDiff, Nat.reduceEqDiff, Nat.reduceAdd, Nat.reduceSub, Nat.reduceMul, Nat.reduceBEq, Int.reduceToNat, Int.reduceEq, Int.reduceLT, Int.reduceLE, Int.reduceAdd, ↓reduceIte, reduceCtorEq, hget, edgeC, hset, List.length_map]) <;> rfl) (by simp [hlenN, hci]) ?_  -- R29
        refine EvC.rg (by (simp only [go_sem, Nat.reduceLT, Nat.reduceLeDiff, Nat.reduceEqDiff, Nat.reduceAdd, Nat.reduceSub, Nat.reduceMul, Nat.reduceBEq, Int.reduceToNat, Int.reduceEq, Int.reduceLT, Int.reduceLE, Int.reduceAdd, ↓reduceIte, reduceCtorEq]) <;> rfl) hIi ?_  -- R30
        refine ⟨[(0, 0), (1, 1), (2, 2), (3, 3), (4, 4), (5, 5)], (i + 1, l', pre ++ [(((idxC to l' : Nat) : Int), o)]), rfl, (by (simp only [go_sem, Nat.reduceLT, Nat.reduceLeDiff, Nat.reduceEqDiff, Nat.reduceAdd, Nat.reduceSub, Nat.reduceMul, Nat.reduceBEq, Int.reduceToNat, Int.reduceEq, Int.reduceLT, Int.reduceLE, Int.reduceAdd, ↓reduceIte, reduceCtorEq, edgeC]) <;> rfl), ⟨hg, hl2, hc, he, by simp [hpl], by simp only; omega, ?_⟩, by simp only; omega⟩
        simp only
        rw [hrow, hm']; simp
      · have hel : elook (ents 0 l') (.agg [Value.int .i64 to.1, .int .i64 to.2].toArray) = none := by
          rw [if_neg hmem] at helk; exact helk
        have haddC : addC to l' = l' ++ [to] := if_neg hmem
        have hidx : idxC to l' = l'.length := by
          have h1 := idxC_le to l'
          have h2 := mt idxC_mem.1 hmem
          omega
        have hes : eset (ents 0 l') (.agg [Value.int .i64 to.1, .int .i64 to.2].toArray) (.sc (.int .i64 l'.length)) = ents 0 (l' ++ [to]) := by
          have := eset_ents to l' 0 hmem
          rw [Nat.zero_add] at this
          exact this
        rw [haddC, hidx] at hrow
        refine EvC.seq (EvC.rg (by (simp only [go_sem, Nat.reduceLT, Nat.reduceLeDiff, Nat.reduceEqDiff, Nat.reduceAdd, Nat.reduceSub, Nat.reduceMul, Nat.reduceBEq, Int.reduceToNat, Int.reduceEq, Int.reduceLT, Int.reduceLE, Int.reduceAdd, ↓reduceIte, reduceCtorEq, hel]) <;> rfl) (by simp) ?_)  -- R23
        refine EvC.seq ?_
        refine EvC.seq (EvC.rg (by (simp only [go_sem, Nat.reduceLT, Nat.reduceLeDiff, Nat.reduceEqDiff, Nat.reduceAdd, Nat.reduceSub, Nat.reduceMul, Nat.reduceBEq, Int.reduceToNat, Int.reduceEq, Int.reduceLT, Int.reduceLE, Int.reduceAdd, ↓reduceIte, reduceCtorEq]) <;> rfl) (by simp) ?_)  -- R24
        refine EvC.cond_true (by (simp only [go_sem, Nat.reduceLT, Nat.reduceLeDiff, Nat.reduceEqDiff, Nat.reduceAdd, Nat.reduceSub, Nat.reduceMul, Nat.reduceBEq, Int.reduceToNat, Int.reduceEq, Int.reduceLT, Int.reduceLE, Int.reduceAdd, ↓reduceIte, reduceCtorEq]) <;> rfl) ?_
        refine EvC.seq ?_
        refine EvC.seq (EvC.rg (by (simp only [go_sem, Nat.reduceLT, Nat.reduceLeDiff, Nat.reduceEqDiff, Nat.reduceAdd, Nat.reduceSub, Nat.reduceMul, Nat.reduceBEq, Int.reduceToNat, Int.reduceEq, Int.reduceLT, Int.reduceLE, Int.reduceAdd, ↓reduceIte, reduceCtorEq, List.length_map]) <;> rfl) (by simp) ?_)  -- R25
        refine EvC.seq (EvC.rg (by (simp only [go_sem, Nat.reduceLT, Nat.reduceLeDiff, Nat.reduceEqDiff, Nat.reduceAdd, Nat.reduceSub, Nat.reduceMul, Nat.reduceBEq, Int.reduceToNat, Int.reduceEq, Int.reduceLT, Int.reduceLE, Int.reduceAdd, ↓reduceIte, reduceCtorEq]) <;> rfl) (by simp) ?_)  -- R26
        refine EvC.cond (by (simp only [go_sem, Nat.reduceLT, Nat.reduceLeDiff, Nat.reduceEqDiff, Nat.reduceAdd, Nat.reduceSub, Nat.reduceMul, Nat.reduceBEq, Int.reduceToNat, Int.reduceEq, Int.reduceLT, Int.reduceLE, Int.reduceAdd, ↓reduceIte, reduceCtorEq]) <;> rfl) (fun h64 => ?_) (fun h64 => ?_)
        · have h64 : l'.length = 64 := by
            have : (l'.length : Int) = 64 := by simpa using h64
            omega
          refine EvC.seq (EvC.rg (by (simp only [go_sem, Nat.reduceLT, Nat.reduceLeDiff, Nat.reduceEqDiff, Nat.reduceAdd, Nat.reduceSub, Nat.reduceMul, Nat.reduceBEq, Int.reduceToNat, Int.reduceEq, Int.reduceLT, Int.reduceLE, Int.reduceAdd, ↓reduceIte, reduceCtorEq]) <;> rfl) (by simp) ?_)  -- R27
          refine EvC.ret ⟨.inl rfl, _, (by (simp only [go_sem, Nat.reduceLT, Nat.reduceLeDiff, Nat.reduceEqDiff, Nat.reduceAdd, Nat.reduceSub, Nat.reduceMul, Nat.reduceBEq, Int.reduceToNat, Int.reduceEq, Int.reduceLT, Int.reduceLE, Int.reduceAdd, ↓reduceIte, reduceCtorEq]) <;> rfl), ?_, unfoldA_noref _⟩
          simp only [go_sem, Nat.reduceLT, Nat.reduceLeDiff, Nat.reduceEqDiff, Nat.reduceAdd, Nat.reduceSub, Nat.reduceMul, Nat.reduceBEq, Int.reduceToNat, Int.reduceEq, Int.reduceLT, Int.reduceLE, Int.reduceAdd, ↓reduceIte, reduceCtorEq]
          have hbig : ¬ (unfAll x).2.length ≤ 64 := by
            rw [hall]
            simp only
            have h1 := unfR_len x f (n + 1) (rowU x c N 0 l).2
            have h2 := (rowU_len x c m (i + 1) (l' ++ [to])).1
            have h3 : (rowU x c N 0 l).2 = (rowU x c m (i + 1) (l' ++ [to])).2 := by rw [hrow]
            rw [h3] at h1 ⊢
            simp only [List.length_append, List.length_cons, List.length_nil] at h2
            omega
          rw [unfoldA, if_neg hck, if_neg hio, if_neg hbig]; rfl
        have h64 : ¬ l'.length = 64 := by
          have : ¬ (l'.length : Int) = 64 := by simpa using h64
          omega
        refine EvC.skip ?_
        apply EvC.drd mixed  -- R28
        · (simp only [go_sem, Nat.reduceLT, Nat.reduceLeDiff, Nat.reduceEqDiff, Nat.reduceAdd, Nat.reduceSub, Nat.reduceMul, Nat.reduceBEq, Int.reduceToNat, Int.reduceEq, Int.reduceLT, Int.reduceLE, Int.reduceAdd, ↓reduceIte, reduceCtorEq, hes]) <;> rfl
        · simp [room_eq, AV.norefs, AV.noref, descAgg, matchKinds, matchKind]; omega
        · kernel_rfl
        refine EvC.rg (by (simp only [go_sem, Nat.reduceLT, Nat.reduceLeDiff, Nat.reduceEqDiff, Nat.reduceAdd, Nat.reduceSub, Nat.reduceMul, Nat.reduceBEq, Int.reduceToNat, Int.reduceEq, Int.reduceLT, Int.reduceLE, Int.reduceAdd, ↓reduceIte, reduceCtorEq, hget, edgeC, hset, List.length_map]) <;> rfl) (by simp [hlenN, hci]) ?_  -- R29
        refine EvC.rg (by (simp only [go_sem, Nat.reduceLT, Nat.reduceLeDiff, Nat.reduceEqDiff, Nat.reduceAdd, Nat.reduceSub, Nat.reduceMul, Nat.reduceBEq, Int.reduceToNat, Int.reduceEq, Int.reduceLT, Int.reduceLE, Int.reduceAdd, ↓reduceIte, reduceCtorEq]) <;> rfl) hIi ?_  -- R30
        refine ⟨[(0, 0), (1, 1), (2, 2), (3, 3), (4, 4), (5, 5)], (i + 1, l' ++ [to], pre ++ [((l'.length : Int), o)]), rfl, (by (simp only [go_sem, Nat.reduceLT, Nat.reduceLeDiff, Nat.reduceEqDiff, Nat.reduceAdd, Nat.reduceSub, Nat.reduceMul, Nat.reduceBEq, Int.reduceToNat, Int.reduceEq, Int.reduceLT, Int.reduceLE, Int.reduceAdd, ↓reduceIte, reduceCtorEq, edgeC]) <;> rfl), ⟨(fun d hd => by rcases List.mem_append.1 hd with h | h; exact hg d h; simp only [List.mem_singleton] at h; subst h; exact hgt), by simp; omega, by simp; omega, by rw [List.getElem?_append_left hc]; exact he, by simp [hpl], by simp only; omega, ?_⟩, by simp only; omega⟩
        simp only
        rw [hrow, hm']; simp
  · refine EvC.cond_false (by (simp only [go_sem, Nat.reduceLT, Nat.reduceLeDiff, Nat.reduceEqDiff, Nat.reduceAdd, Nat.reduceSub, Nat.reduceMul, Nat.reduceBEq, Int.reduceToNat, Int.reduceEq, Int.reduceLT, Int.reduceLE, Int.reduceAdd, ↓reduceIte, reduceCtorEq, hA1]) <;> rfl) ?_
    refine EvC.skip ?_
    apply EvC.seq  -- R18
    apply EvC.drw mixed
    · apply Tr.run
      · (simp only [go_sem, Nat.reduceLT, Nat.reduceLeDiff, Nat.reduceEqDiff, Nat.reduceAdd, Nat.reduceSub, Nat.reduceMul, Nat.reduceBEq, Int.reduceToNat, Int.reduceEq, Int.reduceLT, Int.reduceLE, Int.reduceAdd, ↓reduceIte, reduceCtorEq, Timed.cells, he, edgeC]) <;> rfl
      · simp [hc]
      apply Tr.cons
      · exact .call rfl rfl (by (simp only [go_sem, Nat.reduceLT, Nat.reduceLeDiff, Nat.reduceEqDiff, Nat.reduceAdd, Nat.reduceSub, Nat.reduceMul, Nat.reduceBEq, Int.reduceToNat, Int.reduceEq, Int.reduceLT, Int.reduceLE, Int.reduceAdd, ↓reduceIte, reduceCtorEq]) <;> rfl) (by (simp only [go_sem, Nat.reduceLT, Nat.reduceLeDiff, Nat.reduceEqDiff, Nat.reduceAdd, Nat.reduceSub, Nat.reduceMul, Nat.reduceBEq, Int.reduceToNat, Int.reduceEq, Int.reduceLT, Int.reduceLE, Int.reduceAdd, ↓reduceIte, reduceCtorEq]) <;> rfl) (by (simp only [go_sem, Nat.reduceLT, Nat.reduceLeDiff, Nat.reduceEqDiff, Nat.reduceAdd, Nat.reduceSub, Nat.reduceMul, Nat.reduceBEq, Int.reduceToNat, Int.reduceEq, Int.reduceLT, Int.reduceLE, Int.reduceAdd, ↓reduceIte, reduceCtorEq]) <;> rfl) (by (simp only [go_sem, Nat.reduceLT, Nat.reduceLeDiff, Nat.reduceEqDiff, Nat.reduceAdd, Nat.reduceSub, Nat.reduceMul, Nat.reduceBEq, Int.reduceToNat, Int.reduceEq, Int.reduceLT, Int.reduceLE, Int.reduceAdd, ↓reduceIte, reduceCtorEq]) <;> rfl) (by (simp only [go_sem, Nat.reduceLT, Nat.reduceLeDiff, Nat.reduceEqDiff, Nat.reduceAdd, Nat.reduceSub, Nat.reduceMul, Nat.reduceBEq, Int.reduceToNat, Int.reduceEq, Int.reduceLT, Int.reduceLE, Int.reduceAdd, ↓reduceIte, reduceCtorEq]) <;> rfl) (by simpa [Timed.cells, edgeA] using hdo)
      apply Tr.done
      · (simp only [go_sem, Nat.reduceLT, Nat.reduceLeDiff, Nat.reduceEqDiff, Nat.reduceAdd, Nat.reduceSub, Nat.reduceMul, Nat.reduceBEq, Int.reduceToNat, Int.reduceEq, Int.reduceLT, Int.reduceLE, Int.reduceAdd, ↓reduceIte, reduceCtorEq, doA, edgeA]) <;> rfl
      · simp
    · kernel_rfl
    refine EvC.seq ?_
    refine EvC.seq (EvC.rg (by (simp only [go_sem, Nat.reduceLT, Nat.reduceLeDiff, Nat.reduceEqDiff, Nat.reduceAdd, Nat.reduceSub, Nat.reduceMul, Nat.reduceBEq, Int.reduceToNat, Int.reduceEq, Int.reduceLT, Int.reduceLE, Int.reduceAdd, ↓reduceIte, reduceCtorEq]) <;> rfl) (by simp) ?_)  -- R19
    refine EvC.cond (by (simp only [go_sem, Nat.reduceLT, Nat.reduceLeDiff, Nat.reduceEqDiff, Nat.reduceAdd, Nat.reduceSub, Nat.reduceMul, Nat.reduceBEq, Int.reduceToNat, Int.reduceEq, Int.reduceLT, Int.reduceLE, Int.reduceAdd, ↓reduceIte, reduceCtorEq]) <;> rfl) (fun hd => ?_) (fun hd => ?_)
    · have hd : to.1 = -1 := by simpa using hd
      have hou2 : ou = -1 := by
        rcases hcs with hcs | hcs
        · have := hcs.1.st; omega
        · exact hcs.2.1
      rw [if_pos (by omega), hou2] at hent
      rw [hent] at hrow
      refine EvC.seq (EvC.rg (by (simp only [go_sem, Nat.reduceLT, Nat.reduceLeDiff, Nat.reduceEqDiff, Nat.reduceAdd, Nat.reduceSub, Nat.reduceMul, Nat.reduceBEq, Int.reduceToNat, Int.reduceEq, Int.reduceLT, Int.reduceLE, Int.reduceAdd, ↓reduceIte, reduceCtorEq, hget, edgeC, hset, List.length_map]) <;> rfl) (by simp [hlenN, hci]) ?_)  -- R20
      refine EvC.exit ?_  -- 3
      refine EvC.rg (by (simp only [go_sem, Nat.reduceLT, Nat.reduceLeDiff, Nat.reduceEqDiff, Nat.reduceAdd, Nat.reduceSub, Nat.reduceMul, Nat.reduceBEq, Int.reduceToNat, Int.reduceEq, Int.reduceLT, Int.reduceLE, Int.reduceAdd, ↓reduceIte, reduceCtorEq]) <;> rfl) hIi ?_  -- R30
      refine ⟨[(0, 0), (1, 1), (2, 2), (3, 3), (4, 4), (5, 5)], (i + 1, l', pre ++ [(-1, -1)]), rfl, (by (simp only [go_sem, Nat.reduceLT, Nat.reduceLeDiff, Nat.reduceEqDiff, Nat.reduceAdd, Nat.reduceSub, Nat.reduceMul, Nat.reduceBEq, Int.reduceToNat, Int.reduceEq, Int.reduceLT, Int.reduceLE, Int.reduceAdd, ↓reduceIte, reduceCtorEq, edgeC]) <;> rfl), ⟨hg, hl2, hc, he, by simp [hpl], by simp only; omega, ?_⟩, by simp only; omega⟩
      simp only
      rw [hrow, hm']; simp
    have hd : ¬ to.1 = -1 := by simpa using hd
    have hgt : GoodC x to := by
      rcases hcs with hcs | hcs
      · exact hcs.1
      · exact absurd hcs.1 hd
    have hto0 := hgt.st
    rw [if_neg (by omega)] at hent
    rw [hent] at hrow
    refine EvC.skip ?_
    refine EvC.seq ?_
    refine EvC.seq (EvC.rg (by (simp only [go_sem, Nat.reduceLT, Nat.reduceLeDiff, Nat.reduceEqDiff, Nat.reduceAdd, Nat.reduceSub, Nat.reduceMul, Nat.reduceBEq, Int.reduceToNat, Int.reduceEq, Int.reduceLT, Int.reduceLE, Int.reduceAdd, ↓reduceIte, reduceCtorEq]) <;> rfl) (by simp) ?_)  -- R21
    have helk := elook_ents to l' 0
    cases sd
    · refine EvC.cond_true (by (simp only [go_sem, Nat.reduceLT, Nat.reduceLeDiff, Nat.reduceEqDiff, Nat.reduceAdd, Nat.reduceSub, Nat.reduceMul, Nat.reduceBEq, Int.reduceToNat, Int.reduceEq, Int.reduceLT, Int.reduceLE, Int.reduceAdd, ↓reduceIte, reduceCtorEq]) <;> rfl) ?_
      refine EvC.rg (by (simp only [go_sem, Nat.reduceLT, Nat.reduceLeDiff, Nat.reduceEqDiff, Nat.reduceAdd, Nat.reduceSub, Nat.reduceMul, Nat.reduceBEq, Int.reduceToNat, Int.reduceEq, Int.reduceLT, Int.reduceLE, Int.reduceAdd, ↓reduceIte, reduceCtorEq, Timed.cells]) <;> rfl) (by simp) ?_  -- R22
      have ho2 := (ho2 rfl).1
      rw [← ho2] at hrow
      by_cases hmem : to ∈ l'
      · have hel : elook (ents 0 l') (.agg [Value.int .i64 to.1, .int .i64 to.2].toArray) = some (.sc (.int .i64 (idxC to l' : Nat))) := by
          rw [if_pos hmem, Nat.zero_add] at helk; exact helk
        have haddC : addC to l' = l' := if_pos hmem
        rw [haddC] at hrow
        refine EvC.seq (EvC.rg (by (simp only [go_sem, Nat.reduceLT, Nat.reduceLeDiff, Nat.reduceEqDiff, Nat.reduceAdd, Nat.reduceSub, Nat.reduceMul, Nat.reduceBEq, Int.reduceToNat, Int.reduceEq, Int.reduceLT, Int.reduceLE, Int.reduceAdd, ↓reduceIte, reduceCtorEq, hel]) <;> rfl) (by simp) ?_)  -- R23
        refine EvC.seq ?_
        refine EvC.seq (EvC.rg (by (simp only [go_sem, Nat.reduceLT, Nat.reduceLeDiff, Nat.reduceEqDiff, Nat.reduceAdd, Nat.reduceSub, Nat.reduceMul, Nat.reduceBEq, Int.reduceToNat, Int.reduceEq, Int.reduceLT, Int.reduceLE, Int.reduceAdd, ↓reduceIte, reduceCtorEq]) <;> rfl) (by simp) ?_)  -- R24
        refine EvC.cond_false (by (simp only [go_sem, Nat.reduceLT, Nat.reduceLeDiff, Nat.reduceEqDiff, Nat.reduceAdd, Nat.reduceSub, Nat.reduceMul, Nat.reduceBEq, Int.reduceToNat, Int.reduceEq, Int.reduceLT, Int.reduceLE, Int.reduceAdd, ↓reduceIte, reduceCtorEq]) <;> rfl) ?_
        refine EvC.skip ?_
        refine EvC.rg (by (simp only [go_sem, Nat.reduceLT, Nat.reduceLeDiff, Nat.reduceEqDiff, Nat.reduceAdd, Nat.reduceSub, Nat.reduceMul, Nat.reduceBEq, Int.reduceToNat, Int.reduceEq, Int.reduceLT, Int.reduceLE, Int.reduceAdd, ↓reduceIte, reduceCtorEq, hget, edgeC, hset, List.length_map]) <;> rfl) (by simp [hlenN, hci]) ?_  -- R29
        refine EvC.rg (by (simp only [go_sem, Nat.reduceLT, Nat.reduceLeDiff, Nat.reduceEqDiff, Nat.reduceAdd, Nat.reduceSub, Nat.reduceMul, Nat.reduceBEq, Int.reduceToNat, Int.reduceEq, Int.reduceLT, Int.reduceLE, Int.reduceAdd, ↓reduceIte, reduceCtorEq]) <;> rfl) hIi ?_  -- R30
        refine ⟨[(0, 0), (1, 1), (2, 2), (3, 3), (4, 4), (5, 5)], (i + 1, l', pre ++ [(((idxC to l' : Nat) : Int), x.m.outs)]), rfl, (by (simp only [go_sem, Nat.reduceLT, Nat.reduceLeDiff, Nat.reduceEqDiff, Nat.reduceAdd, Nat.reduceSub, Nat.reduceMul, Nat.reduceBEq, Int.reduceToNat, Int.reduceEq, Int.reduceLT, Int.reduceLE, Int.reduceAdd, ↓reduceIte, reduceCtorEq, edgeC]) <;> rfl), ⟨hg, hl2, hc, he, by simp [hpl], by simp only; omega, ?_⟩, by simp only; omega⟩
        simp only
        rw [hrow, hm']; simp
      · have hel : elook (ents 0 l') (.agg [Value.int .i64 to.1, .int .i64 to.2].toArray) = none := by
          rw [if_neg hmem] at helk; exact helk
        have haddC : addC to l' = l' ++ [to] := if_neg hmem
        have hidx : idxC to l' = l'.length := by
          have h1 := idxC_le to l'
          have h2 := mt idxC_mem.1 hmem
          omega
        have hes : eset (ents 0 l') (.agg [Value.int .i64 to.1, .int .i64 to.2].toArray) (.sc (.int .i64 l'.length)) = ents 0 (l' ++ [to]) := by
          have := eset_ents to l' 0 hmem
          rw [Nat.zero_add] at this
          exact this
        rw [haddC, hidx] at hrow
        refine EvC.seq (EvC.rg (by (simp only [go_sem, Nat.reduceLT, Nat.reduceLeDiff, Nat.reduceEqDiff, Nat.reduceAdd, Nat.reduceSub, Nat.reduceMul, Nat.reduceBEq, Int.reduceToNat, Int.reduceEq, Int.reduceLT, Int.reduceLE, Int.reduceAdd, ↓reduceIte, reduceCtorEq, hel]) <;> rfl) (by simp) ?_)  -- R23
        refine EvC.seq ?_
        refine EvC.seq (EvC.rg (by (simp only [go_sem, Nat.reduceLT, Nat.reduceLeDiff, Nat.reduceEqDiff, Nat.reduceAdd, Nat.reduceSub, Nat.reduceMul, Nat.reduceBEq, Int.reduceToNat, Int.reduceEq, Int.reduceLT, Int.reduceLE, Int.reduceAdd, ↓reduceIte, reduceCtorEq]) <;> rfl) (by simp) ?_)  -- R24
        refine EvC.cond_true (by (simp only [go_sem, Nat.reduceLT, Nat.reduceLeDiff, Nat.reduceEqDiff, Nat.reduceAdd, Nat.reduceSub, Nat.reduceMul, Nat.reduceBEq, Int.reduceToNat, Int.reduceEq, Int.reduceLT, Int.reduceLE, Int.reduceAdd, ↓reduceIte, reduceCtorEq]) <;> rfl) ?_
        refine EvC.seq ?_
        refine EvC.seq (EvC.rg (by (simp only [go_sem, Nat.reduceLT, Nat.reduceLeDiff, Nat.reduceEqDiff, Nat.reduceAdd, Nat.reduceSub, Nat.reduceMul, Nat.reduceBEq, Int.reduceToNat, Int.reduceEq, Int.reduceLT, Int.reduceLE, Int.reduceAdd, ↓reduceIte, reduceCtorEq, List.length_map]) <;> rfl) (by simp) ?_)  -- R25
        refine EvC.seq (EvC.rg (by (simp only [go_sem, Nat.reduceLT, Nat.reduceLeDiff, Nat.reduceEqDiff, Nat.reduceAdd, Nat.reduceSub, Nat.reduceMul, Nat.reduceBEq, Int.reduceToNat, Int.reduceEq, Int.reduceLT, Int.reduceLE, Int.reduceAdd, ↓reduceIte, reduceCtorEq]) <;> rfl) (by simp) ?_)  -- R26
        refine EvC.cond (by (simp only [go_sem, Nat.reduceLT, Nat.reduceLeDiff, Nat.reduceEqDiff, Nat.reduceAdd, Nat.reduceSub, Nat.reduceMul, Nat.reduceBEq, Int.reduceToNat, Int.reduceEq, Int.reduceLT, Int.reduceLE, Int.reduceAdd, ↓reduceIte, reduceCtorEq]) <;> rfl) (fun h64 => ?_) (fun h64 => ?_)
        · have h64 : l'.length = 64 := by
            have : (l'.length : Int) = 64 := by simpa using h64
            omega
          refine EvC.seq (EvC.rg (by (simp only [go_sem, Nat.reduceLT, Nat.reduceLeDiff, Nat.reduceEqDiff, Nat.reduceAdd, Nat.reduceSub, Nat.reduceMul, Nat.reduceBEq, Int.reduceToNat, Int.reduceEq, Int.reduceLT, Int.reduceLE, Int.reduceAdd, ↓reduceIte, reduceCtorEq]) <;> rfl) (by simp) ?_)  -- R27
          refine EvC.ret ⟨.inl rfl, _, (by (simp only [go_sem, Nat.reduceLT, Nat.reduceLeDiff, Nat.reduceEqDiff, Nat.reduceAdd, Nat.reduceSub, Nat.reduceMul, Nat.reduceBEq, Int.reduceToNat, Int.reduceEq, Int.reduceLT, Int.reduceLE, Int.reduceAdd, ↓reduceIte, reduceCtorEq]) <;> rfl), ?_, unfoldA_noref _⟩
          simp only [go_sem, Nat.reduceLT, Nat.reduceLeDiff, Nat.reduceEqDiff, Nat.reduceAdd, Nat.reduceSub, Nat.reduceMul, Nat.reduceBEq, Int.reduceToNat, Int.reduceEq, Int.reduceLT, Int.reduceLE, Int.reduceAdd, ↓reduceIte, reduceCtorEq]
          have hbig : ¬ (unfAll x).2.length ≤ 64 := by
            rw [hall]
            simp only
            have h1 := unfR_len x f (n + 1) (rowU x c N 0 l).2
            have h2 := (rowU_len x c m (i + 1) (l' ++ [to])).1
            have h3 : (rowU x c N 0 l).2 = (rowU x c m (i + 1) (l' ++ [to])).2 := by rw [hrow]
            rw [h3] at h1 ⊢
            simp only [List.length_append, List.length_cons, List.length_nil] at h2
            omega
          rw [unfoldA, if_neg hck, if_neg hio, if_neg hbig]; rfl
        have h64 : ¬ l'.length = 64 := by
          have : ¬ (l'.length : Int) = 64 := by simpa using h64
          omega
        refine EvC.skip ?_
        apply EvC.drd mixed  -- R28
        · (simp only [go_sem, Nat.reduceLT, Nat.reduceLeDiff, Nat.reduceEqDiff, Nat.reduceAdd, Nat.reduceSub, Nat.reduceMul, Nat.reduceBEq, Int.reduceToNat, Int.reduceEq, Int.reduceLT, Int.reduceLE, Int.reduceAdd, ↓reduceIte, reduceCtorEq, hes]) <;> rfl
        · simp [room_eq, AV.norefs, AV.noref, descAgg, matchKinds, matchKind]; omega
        · kernel_rfl
        refine EvC.rg (by (simp only [go_sem, Nat.reduceLT, Nat.reduceLeDiff, Nat.reduceEqDiff, Nat.reduceAdd, Nat.reduceSub, Nat.reduceMul, Nat.reduceBEq, Int.reduceToNat, Int.reduceEq, Int.reduceLT, Int.reduceLE, Int.reduceAdd, ↓reduceIte, reduceCtorEq, hget, edgeC, hset, List.length_map]) <;> rfl) (by simp [hlenN, hci]) ?_  -- R29
        refine EvC.rg (by (simp only [go_sem, Nat.reduceLT, Nat.reduceLeDiff, Nat.reduceEqDiff, Nat.reduceAdd, Nat.reduceSub, Nat.reduceMul, Nat.reduceBEq, Int.reduceToNat, Int.reduceEq, Int.reduceLT, Int.reduceLE, Int.reduceAdd, ↓reduceIte, reduceCtorEq]) <;> rfl) hIi ?_  -- R30
        refine ⟨[(0, 0), (1, 1), (2, 2), (3, 3), (4, 4), (5, 5)], (i + 1, l' ++ [to], pre ++ [((l'.length : Int), x.m.outs)]), rfl, (by (simp only [go_sem, Nat.reduceLT, Nat.reduceLeDiff, Nat.reduceEqDiff, Nat.reduceAdd, Nat.reduceSub, Nat.reduceMul, Nat.reduceBEq, Int.reduceToNat, Int.reduceEq, Int.reduceLT, Int.reduceLE, Int.reduceAdd, ↓reduceIte, reduceCtorEq, edgeC]) <;> rfl), ⟨(fun d hd => by rcases List.mem_append.1 hd with h | h; exact hg d h; simp only [List.mem_singleton] at h; subst h; exact hgt), by simp; omega, by simp; omega, by rw [List.getElem?_append_left hc]; exact he, by simp [hpl], by simp only; omega, ?_⟩, by simp only; omega⟩
        simp only
        rw [hrow, hm']; simp
    · refine EvC.cond_false (by (simp only [go_sem, Nat.reduceLT, Nat.reduceLeDiff, Nat.reduceEqDiff, Nat.reduceAdd, Nat.reduceSub, Nat.reduceMul, Nat.reduceBEq, Int.reduceToNat, Int.reduceEq, Int.reduceLT, Int.reduceLE, Int.reduceAdd, ↓reduceIte, reduceCtorEq]) <;> rfl) ?_
      refine EvC.skip ?_
      have ho1 := ho1 rfl
      rw [← ho1] at hrow
      by_cases hmem : to ∈ l'
      · have hel : elook (ents 0 l') (.agg [Value.int .i64 to.1, .int .i64 to.2].toArray) = some (.sc (.int .i64 (idxC to l' : Nat))) := by
          rw [if_pos hmem, Nat.zero_add] at helk; exact helk
        have haddC : addC to l' = l' := if_pos hmem
        rw [haddC] at hrow
        refine EvC.seq (EvC.rg (by (simp only [go_sem, Nat.reduceLT, Nat.reduceLeDiff, Nat.reduceEqDiff, Nat.reduceAdd, Nat.reduceSub, Nat.reduceMul, Nat.reduceBEq, Int.reduceToNat, Int.reduceEq, Int.reduceLT, Int.reduceLE, Int.reduceAdd, ↓reduceIte, reduceCtorEq, hel]) <;> rfl) (by simp) ?_)  -- R23
        refine EvC.seq ?_
        refine EvC.seq (EvC.rg (by (simp only [go_sem, Nat.reduceLT, Nat.reduceLeDiff, Nat.reduceEqDiff, Nat.reduceAdd, Nat.reduceSub, Nat.reduceMul, Nat.reduceBEq, Int.reduceToNat, Int.reduceEq, Int.reduceLT, Int.reduceLE, Int.reduceAdd, ↓reduceIte, reduceCtorEq]) <;> rfl) (by simp) ?_)  -- R24
        refine EvC.cond_false (by (simp only [go_sem, Nat.reduceLT, Nat.reduceLeDiff, Nat.reduceEqDiff, Nat.reduceAdd, Nat.reduceSub, Nat.reduceMul, Nat.reduceBEq, Int.reduceToNat, Int.reduceEq, Int.reduceLT, Int.reduceLE, Int.reduceAdd, ↓reduceIte, reduceCtorEq]) <;> rfl) ?_
        refine EvC.skip ?_
        refine EvC.rg (by (simp only [go_sem, Nat.reduceLT, Nat.reduceLeDiff, Nat.reduceEqDiff, Nat.reduceAdd, Nat.reduceSub, Nat.reduceMul, Nat.reduceBEq, Int.reduceToNat, Int.reduceEq, Int.reduceLT, Int.reduceLE, Int.reduceAdd, ↓reduceIte, reduceCtorEq, hget, edgeC, hset, List.length_map]) <;> rfl) (by simp [hlenN, hci]) ?_  -- R29
        refine EvC.rg (by (simp only [go_sem, Nat.reduceLT, Nat.reduceLeDiff, Nat.reduceEqDiff, Nat.reduceAdd, Nat.reduceSub, Nat.reduceMul, Nat.reduceBEq, Int.reduceToNat, Int.reduceEq, Int.reduceLT, Int.reduceLE, Int.reduceAdd, ↓reduceIte, reduceCtorEq]) <;> rfl) hIi ?_  -- R30
        refine ⟨[(0, 0), (1, 1), (2, 2), (3, 3), (4, 4), (5, 5)], (i + 1, l', pre ++ [(((idxC to l' : Nat) : Int), o)]), rfl, (by (simp only [go_sem, Nat.reduceLT, Nat.reduceLeDiff, Nat.reduceEqDiff, Nat.reduceAdd, Nat.reduceSub, Nat.reduceMul, Nat.reduceBEq, Int.reduceToNat, Int.reduceEq, Int.reduceLT, Int.reduceLE, Int.reduceAdd, ↓reduceIte, reduceCtorEq, edgeC]) <;> rfl), ⟨hg, hl2, hc, he, by simp [hpl], by simp only; omega, ?_⟩, by simp only; omega⟩
        simp only
        rw [hrow, hm']; simp
      · have hel : elook (ents 0 l') (.agg [Value.int .i64 to.1, .int .i64 to.2].toArray) = none := by
          rw [if_neg hmem] at helk; exact helk
        have haddC : addC to l' = l' ++ [to] := if_neg hmem
        have hidx : idxC to l' = l'.length := by
          have h1 := idxC_le to l'
          have h2 := mt idxC_mem.1 hmem
          omega
        have hes : eset (ents 0 l') (.agg [Value.int .i64 to.1, .int .i64 to.2].toArray) (.sc (.int .i64 l'.length)) = ents 0 (l' ++ [to]) := by
          have := eset_ents to l' 0 hmem
          rw [Nat.zero_add] at this
          exact this
        rw [haddC, hidx] at hrow
        refine EvC.seq (EvC.rg (by (simp only [go_sem, Nat.reduceLT, Nat.reduceLeDiff, Nat.reduceEqDiff, Nat.reduceAdd, Nat.reduceSub, Nat.reduceMul, Nat.reduceBEq, Int.reduceToNat, Int.reduceEq, Int.reduceLT, Int.reduceLE, Int.reduceAdd, ↓reduceIte, reduceCtorEq, hel]) <;> rfl) (by simp) ?_)  -- R23
        refine EvC.seq ?_
        refine EvC.seq (EvC.rg (by (simp only [go_sem, Nat.reduceLT, Nat.reduceLeDiff, Nat.reduceEqDiff, Nat.reduceAdd, Nat.reduceSub, Nat.reduceMul, Nat.reduceBEq, Int.reduceToNat, Int.reduceEq, Int.reduceLT, Int.reduceLE, Int.reduceAdd, ↓reduceIte, reduceCtorEq]) <;> rfl) (by simp) ?_)  -- R24
        refine EvC.cond_true (by (simp only [go_sem, Nat.reduceLT, Nat.reduceLeDiff, Nat.reduceEqDiff, Nat.reduceAdd, Nat.reduceSub, Nat.reduceMul, Nat.reduceBEq, Int.reduceToNat, Int.reduceEq, Int.reduceLT, Int.reduceLE, Int.reduceAdd, ↓reduceIte, reduceCtorEq]) <;> rfl) ?_
        refine EvC.seq ?_
        refine EvC.seq (EvC.rg (by (simp only [go_sem, Nat.reduceLT, Nat.reduceLeDiff, Nat.reduceEqDiff, Nat.reduceAdd, Nat.reduceSub, Nat.reduceMul, Nat.reduceBEq, Int.reduceToNat, Int.reduceEq, Int.reduceLT, Int.reduceLE, Int.reduceAdd, ↓reduceIte, reduceCtorEq, List.length_map]) <;> rfl) (by simp) ?_)  -- R25
        refine EvC.seq (EvC.rg (by (simp only [go_sem, Nat.reduceLT, Nat.reduceLeDiff, Nat.reduceEqDiff, Nat.reduceAdd, Nat.reduceSub, Nat.reduceMul, Nat.reduceBEq, Int.reduceToNat, Int.reduceEq, Int.reduceLT, Int.reduceLE, Int.reduceAdd, ↓reduceIte, reduceCtorEq]) <;> rfl) (by simp) ?_)  -- R26
        refine EvC.cond (by (simp only [go_sem, Nat.reduceLT, Nat.reduceLeDiff, Nat.reduceEqDiff, Nat.reduceAdd, Nat.reduceSub, Nat.reduceMul, Nat.reduceBEq, Int.reduceToNat, Int.reduceEq, Int.reduceLT, Int.reduceLE, Int.reduceAdd, ↓reduceIte, reduceCtorEq]) <;> rfl) (fun h64 => ?_) (fun h64 => ?_)
        · have h64 : l'.length = 64 := by
            have : (l'.length : Int) = 64 := by simpa using h64
            omega
          refine EvC.seq (EvC.rg (by (simp only [go_sem, Nat.reduceLT, Nat.reduceLeDiff, Nat.reduceEqDiff, Nat.reduceAdd, Nat.reduceSub, Nat.reduceMul, Nat.reduceBEq, Int.reduceToNat, Int.reduceEq, Int.reduceLT, Int.reduceLE, Int.reduceAdd, ↓reduceIte, reduceCtorEq]) <;> rfl) (by simp) ?_)  -- R27
          refine EvC.ret ⟨.inl rfl, _, (by (simp only [go_sem, Nat.reduceLT, Nat.reduceLeDiff, Nat.reduceEqDiff, Nat.reduceAdd, Nat.reduceSub, Nat.reduceMul, Nat.reduceBEq, Int.reduceToNat, Int.reduceEq, Int.reduceLT, Int.reduceLE, Int.reduceAdd, ↓reduceIte, reduceCtorEq]) <;> rfl), ?_, unfoldA_noref _⟩
          simp only [go_sem, Nat.reduceLT, Nat.reduceLeDiff, Nat.reduceEqDiff, Nat.reduceAdd, Nat.reduceSub, Nat.reduceMul, Nat.reduceBEq, Int.reduceToNat, Int.reduceEq, Int.reduceLT, Int.reduceLE, Int.reduceAdd, ↓reduceIte, reduceCtorEq]
          have hbig : ¬ (unfAll x).2.length ≤ 64 := by
            rw [hall]
            simp only
            have h1 := unfR_len x f (n + 1) (rowU x c N 0 l).2
            have h2 := (rowU_len x c m (i + 1) (l' ++ [to])).1
            have h3 : (rowU x c N 0 l).2 = (rowU x c m (i + 1) (l' ++ [to])).2 := by rw [hrow]
            rw [h3] at h1 ⊢
            simp only [List.length_append, List.length_cons, List.length_nil] at h2
            omega
          rw [unfoldA, if_neg hck, if_neg hio, if_neg hbig]; rfl
        have h64 : ¬ l'.length = 64 := by
          have : ¬ (l'.length : Int) = 64 := by simpa using h64
          omega
        refine EvC.skip ?_
        apply EvC.drd mixed  -- R28
        · (simp only [go_sem, Nat.reduceLT, Nat.reduceLeDiff, Nat.reduceEqDiff, Nat.reduceAdd, Nat.reduceSub, Nat.reduceMul, Nat.reduceBEq, Int.reduceToNat, Int.reduceEq, Int.reduceLT, Int.reduceLE, Int.reduceAdd, ↓reduceIte, reduceCtorEq, hes]) <;> rfl
        · simp [room_eq, AV.norefs, AV.noref, descAgg, matchKinds, matchKind]; omega
        · kernel_rfl
        refine EvC.rg (by (simp only [go_sem, Nat.reduceLT, Nat.reduceLeDiff, Nat.reduceEqDiff, Nat.reduceAdd, Nat.reduceSub, Nat.reduceMul, Nat.reduceBEq, Int.reduceToNat, Int.reduceEq, Int.reduceLT, Int.reduceLE, Int.reduceAdd, ↓reduceIte, reduceCtorEq, hget, edgeC, hset, List.length_map]) <;> rfl) (by simp [hlenN, hci]) ?_  -- R29
        refine EvC.rg (by (simp only [go_sem, Nat.reduceLT, Nat.reduceLeDiff, Nat.reduceEqDiff, Nat.reduceAdd, Nat.reduceSub, Nat.reduceMul, Nat.reduceBEq, Int.reduceToNat, Int.reduceEq, Int.reduceLT, Int.reduceLE, Int.reduceAdd, ↓reduceIte, reduceCtorEq]) <;> rfl) hIi ?_  -- R30
        refine ⟨[(0, 0), (1, 1), (2, 2), (3, 3), (4, 4), (5, 5)], (i + 1, l' ++ [to], pre ++ [((l'.length : Int), o)]), rfl, (by (simp only [go_sem, Nat.reduceLT, Nat.reduceLeDiff, Nat.reduceEqDiff, Nat.reduceAdd, Nat.reduceSub, Nat.reduceMul, Nat.reduceBEq, Int.reduceToNat, Int.reduceEq, Int.reduceLT, Int.reduceLE, Int.reduceAdd, ↓reduceIte, reduceCtorEq, edgeC]) <;> rfl), ⟨(fun d hd => by rcases List.mem_append.1 hd with h | h; exact hg d h; simp only [List.mem_singleton] at h; subst h; exact hgt), by simp; omega, by simp; omega, by rw [List.getElem?_append_left hc]; exact he, by simp [hpl], by simp only; omega, ?_⟩, by simp only; omega⟩
        simp only
        rw [hrow, hm']; simp
end Go.Avl
namespace Go.Avl
open Go Go.Proofs.Try
set_option maxRecDepth 10000
set_option linter.unusedSimpArgs false

/-! ### Runs: tick by tick -/
abbrev Rep := Int × Int
def tick1 (x : Timed) (c : Cfg) (now : Int) (out : List Rep) : Cfg × List Rep :=
  if (timAt x c.1).1 = 0 then (c, out) else if c.2 + 1 = (timAt x c.1).1 then (((timAt x c.1).2.1, 0), out ++ [(now + 1, (timAt x c.1).2.2)]) else ((c.1, c.2 + 1), out)
def ticksP (x : Timed) : Nat → Cfg → Int → List Rep → Cfg × List Rep
  | 0, c, _, out => (c, out)
  | k + 1, c, now, out => ticksP x k (tick1 x c now out).1 (now + 1) (tick1 x c now out).2
def runP (x : Timed) : List Evt → Cfg → Int → List Rep → List Rep
  | [], _, _, out => out
  | e :: es, c, now, out =>
    if (stepR x.m (ticksP x e.1.toNat c now out).1.1 e.2).1 = -1 then (ticksP x e.1.toNat c now out).2 ++ [(now + e.1, (stepR x.m (ticksP x e.1.toNat c now out).1.1 e.2).2)]
    else runP x es ((stepR x.m (ticksP x e.1.toNat c now out).1.1 e.2).1, 0) (now + e.1) ((ticksP x e.1.toNat c now out).2 ++ [(now + e.1, (stepR x.m (ticksP x e.1.toNat c now out).1.1 e.2).2)])
theorem tick1_len (x : Timed) (c : Cfg) (now : Int) (out : List Rep) : out.length ≤ (tick1 x c now out).2.length := by
  unfold tick1; split; exact Nat.le_refl _; split <;> simp
theorem ticksP_len (x : Timed) : ∀ (k : Nat) (c : Cfg) (now : Int) (out : List Rep), out.length ≤ (ticksP x k c now out).2.length
  | 0, _, _, _ => Nat.le_refl _
  | k + 1, c, now, out => Nat.le_trans (tick1_len x c now out) (ticksP_len x k _ _ _)
theorem runP_len (x : Timed) : ∀ (es : List Evt) (c : Cfg) (now : Int) (out : List Rep), out.length ≤ (runP x es c now out).length
  | [], _, _, _ => Nat.le_refl _
  | e :: es, c, now, out => by
    have h1 := ticksP_len x e.1.toNat c now out
    simp only [runP]
    split
    · simp; omega
    · exact Nat.le_trans (by simp; omega) (runP_len x es _ _ _)
theorem tick1_good {x : Timed} (hv : ValidT x) {c : Cfg} (h : GoodC x c) (now : Int) (out : List Rep) : GoodC x (tick1 x c now out).1 := by
  have ht := timOk_cases (timAt_get hv h.st.1 h.st.2).2
  have hc := h.ck
  unfold tick1
  split
  · exact h
  · split
    · exact ⟨by simp only; omega, by simp⟩
    · exact ⟨h.st, by simp only; omega⟩
theorem ticksP_good {x : Timed} (hv : ValidT x) : ∀ (k : Nat) {c : Cfg} (_ : GoodC x c) (now : Int) (out : List Rep), GoodC x (ticksP x k c now out).1
  | 0, _, h, _, _ => h
  | k + 1, _, h, now, out => ticksP_good hv k (tick1_good hv h now out) _ _

/-! ### Runs: from timeout to timeout -/
def jumps (x : Timed) (fin : Int) : Nat → Int → Int → List Rep → Int × Int × List Rep
  | 0, s, en, out => (s, en, out)
  | n + 1, s, en, out => if 0 < (timAt x s).1 ∧ en + (timAt x s).1 ≤ fin then jumps x fin n (timAt x s).2.1 (en + (timAt x s).1) (out ++ [(en + (timAt x s).1, (timAt x s).2.2)]) else (s, en, out)
def runJ (x : Timed) : List Evt → Int → Int → Int → List Rep → List Rep
  | [], _, _, _, out => out
  | e :: es, s, en, now, out =>
    if (stepR x.m (jumps x (now + e.1) (now + e.1 - en).toNat s en out).1 e.2).1 < 0 then (jumps x (now + e.1) (now + e.1 - en).toNat s en out).2.2 ++ [(now + e.1, (stepR x.m (jumps x (now + e.1) (now + e.1 - en).toNat s en out).1 e.2).2)]
    else runJ x es (stepR x.m (jumps x (now + e.1) (now + e.1 - en).toNat s en out).1 e.2).1 (now + e.1) (now + e.1) ((jumps x (now + e.1) (now + e.1 - en).toNat s en out).2.2 ++ [(now + e.1, (stepR x.m (jumps x (now + e.1) (now + e.1 - en).toNat s en out).1 e.2).2)])

/-- More fuel than is wanted changes nothing. -/
theorem jumps_fuel {x : Timed} {fin : Int} : ∀ (n m : Nat) (s en : Int) (out : List Rep), (fin - en).toNat ≤ n → (fin - en).toNat ≤ m → jumps x fin n s en out = jumps x fin m s en out
  | 0, 0, _, _, _, _, _ => rfl
  | 0, m + 1, s, en, out, h1, _ => by
    simp only [jumps]; rw [if_neg (by omega)]
  | n + 1, 0, s, en, out, _, h2 => by
    simp only [jumps]; rw [if_neg (by omega)]
  | n + 1, m + 1, s, en, out, h1, h2 => by
    simp only [jumps]
    split
    · rename_i h
      exact jumps_fuel n m _ _ _ (by omega) (by omega)
    · rfl

/-- Where both stand at the same time. -/
def AtR (x : Timed) (c : Cfg) (s en now : Int) : Prop := c.1 = s ∧ (0 < (timAt x s).1 → c.2 = now - en ∧ c.2 < (timAt x s).1) ∧ en ≤ now
theorem ticks_jumps {x : Timed} (hv : ValidT x) : ∀ (k : Nat) {c : Cfg} {s en now : Int} (out : List Rep), GoodC x c → AtR x c s en now →
    (ticksP x k c now out).2 = (jumps x (now + k) (now + k - en).toNat s en out).2.2 ∧ AtR x (ticksP x k c now out).1 (jumps x (now + k) (now + k - en).toNat s en out).1 (jumps x (now + k) (now + k - en).toNat s en out).2.1 (now + k)
  | 0, c, s, en, now, out, hg, hr => by
    have hj : jumps x (now + (0 : Nat)) (now + (0 : Nat) - en).toNat s en out = (s, en, out) := by
      cases h : (now + ((0 : Nat) : Int) - en).toNat with
      | zero => rfl
      | succ n =>
        simp only [jumps]
        rw [if_neg]
        rintro ⟨h1, h2⟩
        have := hr.2.1 h1
        simp at h2; omega
    rw [hj]
    exact ⟨rfl, by simpa [ticksP] using hr⟩
  | k + 1, c, s, en, now, out, hg, hr => by
    obtain ⟨rfl, h2, h3⟩ := hr
    have ht := timOk_cases (timAt_get hv hg.st.1 hg.st.2).2
    have e1 : now + ((k + 1 : Nat) : Int) = now + 1 + (k : Nat) := by omega
    rw [e1]
    simp only [ticksP]
    have hg' := tick1_good hv hg now out
    by_cases h0 : (timAt x c.1).1 = 0
    · have ht1 : tick1 x c now out = (c, out) := if_pos h0
      rw [ht1] at hg' ⊢
      exact ticks_jumps hv k out hg ⟨rfl, fun h => by omega, by omega⟩
    · have hp := h2 (by omega)
      by_cases h1 : c.2 + 1 = (timAt x c.1).1
      · have ht1 : tick1 x c now out = (((timAt x c.1).2.1, 0), out ++ [(now + 1, (timAt x c.1).2.2)]) := by unfold tick1; rw [if_neg h0, if_pos h1]
        rw [ht1] at hg' ⊢
        have ih := ticks_jumps hv k (c := ((timAt x c.1).2.1, 0)) (s := (timAt x c.1).2.1) (en := now + 1) (now := now + 1) (out ++ [(now + 1, (timAt x c.1).2.2)]) hg' ⟨rfl, fun h => ⟨by simp, by simpa using h⟩, by omega⟩
        have hj : jumps x (now + 1 + (k : Nat)) (now + 1 + (k : Nat) - en).toNat c.1 en out = jumps x (now + 1 + (k : Nat)) (now + 1 + (k : Nat) - (now + 1)).toNat (timAt x c.1).2.1 (now + 1) (out ++ [(now + 1, (timAt x c.1).2.2)]) := by
          obtain ⟨n, hn⟩ : ∃ n, (now + 1 + (k : Nat) - en).toNat = n + 1 := ⟨(now + 1 + (k : Nat) - en).toNat - 1, by omega⟩
          rw [hn]
          simp only [jumps]
          have e2 : en + (timAt x c.1).1 = now + 1 := by omega
          rw [if_pos ⟨by omega, by omega⟩, e2]
          exact jumps_fuel _ _ _ _ _ (by omega) (by omega)
        rw [hj]; exact ih
      · have ht1 : tick1 x c now out = ((c.1, c.2 + 1), out) := by unfold tick1; rw [if_neg h0, if_neg h1]
        rw [ht1] at hg' ⊢
        exact ticks_jumps hv k (c := (c.1, c.2 + 1)) out hg' ⟨rfl, fun h => ⟨by simp only; omega, by simp only; omega⟩, by omega⟩
theorem runP_runJ {x : Timed} (hv : ValidT x) : ∀ (es : List Evt) {c : Cfg} {s en now : Int} (out : List Rep), GoodC x c → AtR x c s en now → (∀ e ∈ es, 0 ≤ e.1 ∧ 0 ≤ e.2 ∧ e.2 < x.m.ins) → runP x es c now out = runJ x es s en now out
  | [], _, _, _, _, _, _, _, _ => rfl
  | e :: es, c, s, en, now, out, hg, hr, he => by
    have h1 := he e List.mem_cons_self
    have hj := ticks_jumps hv e.1.toNat out hg hr
    have e1 : now + ((e.1.toNat : Nat) : Int) = now + e.1 := by omega
    rw [e1] at hj
    have hg2 := ticksP_good hv e.1.toNat hg now out
    simp only [runP, runJ]
    obtain ⟨j1, j2, _⟩ := hj
    rw [j1, j2]
    obtain ⟨_, d, _, _, h3, h4⟩ := stepR_get hv.m (s := (jumps x (now + e.1) (now + e.1 - en).toNat s en out).1) (a := e.2) (by rw [← j2]; exact (ticksP_good hv e.1.toNat hg now out).st.1) (by rw [← j2]; exact (ticksP_good hv e.1.toNat hg now out).st.2) ⟨h1.2.1, h1.2.2⟩
    rw [h3]
    unfold fitsR at h4
    simp at h4
    by_cases hd : d.1 = -1
    · rw [if_pos hd, if_pos (by omega)]
    · rw [if_neg hd, if_neg (by omega)]
      exact runP_runJ hv es _ ⟨by simp only; omega, by simp⟩ ⟨rfl, fun h => ⟨by simp, by simpa using h⟩, Int.le_refl _⟩ fun e he' => he e (List.mem_cons_of_mem _ he')
end Go.Avl
namespace Go.Avl
open Go Go.Proofs.Try
set_option maxRecDepth 10000
set_option linter.unusedSimpArgs false

def nilE (n : Int) : AV := .tu [.sl true [] .unk, .sc (.int .i64 n)]
def runA (x : Timed) (es : List Evt) : AV :=
  if checkT x ≠ 0 then nilE (checkT x)
  else if checkEvts x.m.ins es ≠ 0 then nilE (checkEvts x.m.ins es)
  else if (runP x es (0, 0) 0 []).length ≤ 4096 then .tu [.sl (runP x es (0, 0) 0 []).isEmpty ((runP x es (0, 0) 0 []).map edgeC) .full, .sc (.int .i64 0)]
  else nilE 3
theorem runA_noref (x : Timed) (es : List Evt) : (runA x es).noref = true := by unfold runA nilE; repeat (first | rfl | split)
theorem evts_all {n : Int} : ∀ {es : List Evt}, evts n es = 0 → ∀ e ∈ es, 0 ≤ e.1 ∧ e.1 ≤ 1024 ∧ 0 ≤ e.2 ∧ e.2 < n
  | [], _, e, he => by cases he
  | d :: es, h, e, he => by
    simp only [evts] at h
    split at h
    · contradiction
    · rename_i h1
      rcases List.mem_cons.1 he with rfl | he
      · unfold evtOk at h1
        simp only [ne_eq, Decidable.not_not] at h1
        split at h1
        · cases h1
        · split at h1
          · cases h1
          · split at h1
            · cases h1
            · omega
      · exact evts_all h e he

theorem run_is (x : Timed) (hr : ∀ r ∈ x.m.rows, r.2.length < 1000000) (htl : x.ts.length < 1000000) (nl : Bool) (es : List Evt) (cp : Cp) (hel : es.length < 1000000) : PureIs prog 11 [.ag x.cells, .sl nl (es.map edgeC) cp] (runA x es) := by
  refine PureIs.of (nv := 3) (hid := [4, 5, 6, 8, 9, 10, 11, 13, 14, 15, 16, 17, 18, 19, 23, 27, 28, 29, 30, 31, 34, 38, 42, 56, 57, 58, 59, 65, 73, 89, 93, 95]) func11 rfl (by kernel_rfl) (by simp [ntmps11]) fun _ => ?_
  rw [ntmps11, results11]
  refine EvC.seq (EvC.rg (by (simp only [go_sem, Nat.reduceLT, Nat.reduceLeDiff, Nat.reduceEqDiff, Nat.reduceAdd, Nat.reduceSub, Nat.reduceMul, Nat.reduceBEq, Int.reduceToNat, Int.reduceEq, Int.reduceLT, Int.reduceLE, Int.reduceAdd, ↓reduceIte, reduceCtorEq, Timed.cells]) <;> rfl) (by simp) ?_)  -- R0
  refine EvC.frzB 0 (by (simp only [go_sem, Nat.reduceLT, Nat.reduceLeDiff, Nat.reduceEqDiff, Nat.reduceAdd, Nat.reduceSub, Nat.reduceMul, Nat.reduceBEq, Int.reduceToNat, Int.reduceEq, Int.reduceLT, Int.reduceLE, Int.reduceAdd, ↓reduceIte, reduceCtorEq]) <;> rfl) ?_
  refine EvC.seq ?_
  apply EvC.seq  -- R1
  apply EvC.tr
  · apply Tr.run
    · (simp only [go_sem, Nat.reduceLT, Nat.reduceLeDiff, Nat.reduceEqDiff, Nat.reduceAdd, Nat.reduceSub, Nat.reduceMul, Nat.reduceBEq, Int.reduceToNat, Int.reduceEq, Int.reduceLT, Int.reduceLE, Int.reduceAdd, ↓reduceIte, reduceCtorEq]) <;> rfl
    · simp
    apply Tr.cons
    · exact .call rfl rfl (by (simp only [go_sem, Nat.reduceLT, Nat.reduceLeDiff, Nat.reduceEqDiff, Nat.reduceAdd, Nat.reduceSub, Nat.reduceMul, Nat.reduceBEq, Int.reduceToNat, Int.reduceEq, Int.reduceLT, Int.reduceLE, Int.reduceAdd, ↓reduceIte, reduceCtorEq]) <;> rfl) (by (simp only [go_sem, Nat.reduceLT, Nat.reduceLeDiff, Nat.reduceEqDiff, Nat.reduceAdd, Nat.reduceSub, Nat.reduceMul, Nat.reduceBEq, Int.reduceToNat, Int.reduceEq, Int.reduceLT, Int.reduceLE, Int.reduceAdd, ↓reduceIte, reduceCtorEq]) <;> rfl) (by (simp only [go_sem, Nat.reduceLT, Nat.reduceLeDiff, Nat.reduceEqDiff, Nat.reduceAdd, Nat.reduceSub, Nat.reduceMul, Nat.reduceBEq, Int.reduceToNat, Int.reduceEq, Int.reduceLT, Int.reduceLE, Int.reduceAdd, ↓reduceIte, reduceCtorEq]) <;> rfl) (by (simp only [go_sem, Nat.reduceLT, Nat.reduceLeDiff, Nat.reduceEqDiff, Nat.reduceAdd, Nat.reduceSub, Nat.reduceMul, Nat.reduceBEq, Int.reduceToNat, Int.reduceEq, Int.reduceLT, Int.reduceLE, Int.reduceAdd, ↓reduceIte, reduceCtorEq]) <;> rfl) (by (simp only [go_sem, Nat.reduceLT, Nat.reduceLeDiff, Nat.reduceEqDiff, Nat.reduceAdd, Nat.reduceSub, Nat.reduceMul, Nat.reduceBEq, Int.reduceToNat, Int.reduceEq, Int.reduceLT, Int.reduceLE, Int.reduceAdd, ↓reduceIte, reduceCtorEq]) <;> rfl) (checkT_is x hr htl)
    apply Tr.done
    · (simp only [go_sem, Nat.reduceLT, Nat.reduceLeDiff, Nat.reduceEqDiff, Nat.reduceAdd, Nat.reduceSub, Nat.reduceMul, Nat.reduceBEq, Int.reduceToNat, Int.reduceEq, Int.reduceLT, Int.reduceLE, Int.reduceAdd, ↓reduceIte, reduceCtorEq]) <;> rfl
    · simp
  refine EvC.seq (EvC.rg (by (simp only [go_sem, Nat.reduceLT, Nat.reduceLeDiff, Nat.reduceEqDiff, Nat.reduceAdd, Nat.reduceSub, Nat.reduceMul, Nat.reduceBEq, Int.reduceToNat, Int.reduceEq, Int.reduceLT, Int.reduceLE, Int.reduceAdd, ↓reduceIte, reduceCtorEq]) <;> rfl) (by simp) ?_)  -- R2
  refine EvC.cond (by (simp only [go_sem, Nat.reduceLT, Nat.reduceLeDiff, Nat.reduceEqDiff, Nat.reduceAdd, Nat.reduceSub, Nat.reduceMul, Nat.reduceBEq, Int.reduceToNat, Int.reduceEq, Int.reduceLT, Int.reduceLE, Int.reduceAdd, ↓reduceIte, reduceCtorEq]) <;> rfl) (fun hc => ?_) (fun hc => ?_)
  · have hc : checkT x ≠ 0 := by simpa using hc
    refine EvC.seq (EvC.rg (by (simp only [go_sem, Nat.reduceLT, Nat.reduceLeDiff, Nat.reduceEqDiff, Nat.reduceAdd, Nat.reduceSub, Nat.reduceMul, Nat.reduceBEq, Int.reduceToNat, Int.reduceEq, Int.reduceLT, Int.reduceLE, Int.reduceAdd, ↓reduceIte, reduceCtorEq]) <;> rfl) (by simp) ?_)  -- R3
    refine EvC.ret ⟨.inl rfl, _, (by (simp only [go_sem, Nat.reduceLT, Nat.reduceLeDiff, Nat.reduceEqDiff, Nat.reduceAdd, Nat.reduceSub, Nat.reduceMul, Nat.reduceBEq, Int.reduceToNat, Int.reduceEq, Int.reduceLT, Int.reduceLE, Int.reduceAdd, ↓reduceIte, reduceCtorEq]) <;> rfl), ?_, runA_noref _ _⟩
    simp only [go_sem, Nat.reduceLT, Nat.reduceLeDiff, Nat.reduceEqDiff, Nat.reduceAdd, Nat.reduceSub, Nat.reduceMul, Nat.reduceBEq, Int.reduceToNat, Int.reduceEq, Int.reduceLT, Int.reduceLE, Int.reduceAdd, ↓reduceIte, reduceCtorEq]
    rw [runA, if_pos hc]; rfl
  have hck : ¬ checkT x ≠ 0 := by simpa using hc
  clear hc
  have hv : ValidT x := .of (by simpa using hck)
  refine EvC.skip ?_
  refine EvC.seq ?_
  refine EvC.seq (EvC.rg (by (simp only [go_sem, Nat.reduceLT, Nat.reduceLeDiff, Nat.reduceEqDiff, Nat.reduceAdd, Nat.reduceSub, Nat.reduceMul, Nat.reduceBEq, Int.reduceToNat, Int.reduceEq, Int.reduceLT, Int.reduceLE, Int.reduceAdd, ↓reduceIte, reduceCtorEq]) <;> rfl) (by simp) ?_)  -- R4
  refine EvC.cond (by (simp only [go_sem, Nat.reduceLT, Nat.reduceLeDiff, Nat.reduceEqDiff, Nat.reduceAdd, Nat.reduceSub, Nat.reduceMul, Nat.reduceBEq, Int.reduceToNat, Int.reduceEq, Int.reduceLT, Int.reduceLE, Int.reduceAdd, ↓reduceIte, reduceCtorEq]) <;> rfl) (fun hc => ?_) (fun hc => ?_)
  · have hc : 256 < (es.length : Int) := by simpa using hc
    refine EvC.seq (EvC.rg (by (simp only [go_sem, Nat.reduceLT, Nat.reduceLeDiff, Nat.reduceEqDiff, Nat.reduceAdd, Nat.reduceSub, Nat.reduceMul, Nat.reduceBEq, Int.reduceToNat, Int.reduceEq, Int.reduceLT, Int.reduceLE, Int.reduceAdd, ↓reduceIte, reduceCtorEq]) <;> rfl) (by simp) ?_)  -- R5
    refine EvC.ret ⟨.inl rfl, _, (by (simp only [go_sem, Nat.reduceLT, Nat.reduceLeDiff, Nat.reduceEqDiff, Nat.reduceAdd, Nat.reduceSub, Nat.reduceMul, Nat.reduceBEq, Int.reduceToNat, Int.reduceEq, Int.reduceLT, Int.reduceLE, Int.reduceAdd, ↓reduceIte, reduceCtorEq]) <;> rfl), ?_, runA_noref _ _⟩
    simp only [go_sem, Nat.reduceLT, Nat.reduceLeDiff, Nat.reduceEqDiff, Nat.reduceAdd, Nat.reduceSub, Nat.reduceMul, Nat.reduceBEq, Int.reduceToNat, Int.reduceEq, Int.reduceLT, Int.reduceLE, Int.reduceAdd, ↓reduceIte, reduceCtorEq]
    have : checkEvts x.m.ins es = 3 := if_pos hc
    rw [runA, if_neg hck, this, if_pos (by decide)]; rfl
  have hl256 : ¬ 256 < (es.length : Int) := by simpa using hc
  clear hc
  have hce : checkEvts x.m.ins es = evts x.m.ins es := if_neg hl256
  refine EvC.skip ?_
  refine EvC.seq ?_
  refine EvC.seq (EvC.rg (by (simp only [go_sem, Nat.reduceLT, Nat.reduceLeDiff, Nat.reduceEqDiff, Nat.reduceAdd, Nat.reduceSub, Nat.reduceMul, Nat.reduceBEq, Int.reduceToNat, Int.reduceEq, Int.reduceLT, Int.reduceLE, Int.reduceAdd, ↓reduceIte, reduceCtorEq]) <;> rfl) (by simp) ?_)  -- R6
  refine EvC.block ?_  -- 0
  refine EvC.loopS (σ := Nat) (fun i => ⟨[(1, .sl nl (es.map edgeC) cp), (2, .ia x.cells), (28, .sl nl (es.map edgeC) cp), (29, .sc (.int .i64 es.length)), (30, .sc (.int .i64 i))], [], [], 0⟩) (fun i => es.length - i)
    (fun i => i ≤ es.length ∧ evts x.m.ins es = evts x.m.ins (es.drop i)) [1, 2, 28, 29, 30] 0 ?_ ?_
  · refine ⟨[], 0, rfl, (by (simp only [go_sem, Nat.reduceLT, Nat.reduceLeDiff, Nat.reduceEqDiff, Nat.reduceAdd, Nat.reduceSub, Nat.reduceMul, Nat.reduceBEq, Int.reduceToNat, Int.reduceEq, Int.reduceLT, Int.reduceLE, Int.reduceAdd, ↓reduceIte, reduceCtorEq]) <;> rfl), Nat.zero_le _, rfl⟩
  rintro i ⟨h1, h2⟩
  refine EvC.seq (EvC.rg (by (simp only [go_sem, Nat.reduceLT, Nat.reduceLeDiff, Nat.reduceEqDiff, Nat.reduceAdd, Nat.reduceSub, Nat.reduceMul, Nat.reduceBEq, Int.reduceToNat, Int.reduceEq, Int.reduceLT, Int.reduceLE, Int.reduceAdd, ↓reduceIte, reduceCtorEq]) <;> rfl) (by simp) ?_)  -- R7
  refine EvC.seq ?_
  refine EvC.cond (by (simp only [go_sem, Nat.reduceLT, Nat.reduceLeDiff, Nat.reduceEqDiff, Nat.reduceAdd, Nat.reduceSub, Nat.reduceMul, Nat.reduceBEq, Int.reduceToNat, Int.reduceEq, Int.reduceLT, Int.reduceLE, Int.reduceAdd, ↓reduceIte, reduceCtorEq]) <;> rfl) (fun hc => ?_) (fun hc => ?_)
  · have hi : i < es.length := by simpa using hc
    have he : es[i]? = some es[i] := List.getElem?_eq_getElem hi
    have hd : es.drop i = es[i] :: es.drop (i + 1) := List.drop_eq_getElem_cons hi
    generalize es[i] = e at he hd
    rw [hd] at h2
    have hbad : ∀ n, evtOk x.m.ins e = n → n ≠ 0 → runA x es = nilE n := fun n hn h0 => by
      have : checkEvts x.m.ins es = n := by rw [hce, h2, evts, if_pos (by omega), hn]
      rw [runA, if_neg hck, this, if_pos h0]
    refine EvC.skip ?_
    refine EvC.seq ?_
    refine EvC.block ?_  -- 1
    refine EvC.seq (EvC.rg (by (simp only [go_sem, Nat.reduceLT, Nat.reduceLeDiff, Nat.reduceEqDiff, Nat.reduceAdd, Nat.reduceSub, Nat.reduceMul, Nat.reduceBEq, Int.reduceToNat, Int.reduceEq, Int.reduceLT, Int.reduceLE, Int.reduceAdd, ↓reduceIte, reduceCtorEq, he, edgeC]) <;> rfl) (by simp) ?_)  -- R8
    refine EvC.block ?_  -- 2
    refine EvC.seq (EvC.rg (by (simp only [go_sem, Nat.reduceLT, Nat.reduceLeDiff, Nat.reduceEqDiff, Nat.reduceAdd, Nat.reduceSub, Nat.reduceMul, Nat.reduceBEq, Int.reduceToNat, Int.reduceEq, Int.reduceLT, Int.reduceLE, Int.reduceAdd, ↓reduceIte, reduceCtorEq]) <;> rfl) (by simp) ?_)  -- R9
    refine EvC.cond (by (simp only [go_sem, Nat.reduceLT, Nat.reduceLeDiff, Nat.reduceEqDiff, Nat.reduceAdd, Nat.reduceSub, Nat.reduceMul, Nat.reduceBEq, Int.reduceToNat, Int.reduceEq, Int.reduceLT, Int.reduceLE, Int.reduceAdd, ↓reduceIte, reduceCtorEq]) <;> rfl) (fun hc => ?_) (fun hc => ?_)
    · have hc : e.1 < 0 := by simpa using hc
      refine EvC.seq (EvC.rg (by (simp only [go_sem, Nat.reduceLT, Nat.reduceLeDiff, Nat.reduceEqDiff, Nat.reduceAdd, Nat.reduceSub, Nat.reduceMul, Nat.reduceBEq, Int.reduceToNat, Int.reduceEq, Int.reduceLT, Int.reduceLE, Int.reduceAdd, ↓reduceIte, reduceCtorEq]) <;> rfl) (by simp) ?_)  -- R10
      refine EvC.ret ⟨.inl rfl, _, (by (simp only [go_sem, Nat.reduceLT, Nat.reduceLeDiff, Nat.reduceEqDiff, Nat.reduceAdd, Nat.reduceSub, Nat.reduceMul, Nat.reduceBEq, Int.reduceToNat, Int.reduceEq, Int.reduceLT, Int.reduceLE, Int.reduceAdd, ↓reduceIte, reduceCtorEq]) <;> rfl), ?_, runA_noref _ _⟩
      simp only [go_sem, Nat.reduceLT, Nat.reduceLeDiff, Nat.reduceEqDiff, Nat.reduceAdd, Nat.reduceSub, Nat.reduceMul, Nat.reduceBEq, Int.reduceToNat, Int.reduceEq, Int.reduceLT, Int.reduceLE, Int.reduceAdd, ↓reduceIte, reduceCtorEq]
      rw [hbad 1 (by unfold evtOk; rw [if_pos hc]) (by decide)]; rfl
    have hc1 : ¬ e.1 < 0 := by simpa using hc
    refine EvC.seq (EvC.rg (by (simp only [go_sem, Nat.reduceLT, Nat.reduceLeDiff, Nat.reduceEqDiff, Nat.reduceAdd, Nat.reduceSub, Nat.reduceMul, Nat.reduceBEq, Int.reduceToNat, Int.reduceEq, Int.reduceLT, Int.reduceLE, Int.reduceAdd, ↓reduceIte, reduceCtorEq]) <;> rfl) (by simp) ?_)  -- R11
    refine EvC.cond (by (simp only [go_sem, Nat.reduceLT, Nat.reduceLeDiff, Nat.reduceEqDiff, Nat.reduceAdd, Nat.reduceSub, Nat.reduceMul, Nat.reduceBEq, Int.reduceToNat, Int.reduceEq, Int.reduceLT, Int.reduceLE, Int.reduceAdd, ↓reduceIte, reduceCtorEq]) <;> rfl) (fun hc => ?_) (fun hc => ?_)
    · have hc : 1024 < e.1 := by simpa using hc
      refine EvC.seq (EvC.rg (by (simp only [go_sem, Nat.reduceLT, Nat.reduceLeDiff, Nat.reduceEqDiff, Nat.reduceAdd, Nat.reduceSub, Nat.reduceMul, Nat.reduceBEq, Int.reduceToNat, Int.reduceEq, Int.reduceLT, Int.reduceLE, Int.reduceAdd, ↓reduceIte, reduceCtorEq]) <;> rfl) (by simp) ?_)  -- R12
      refine EvC.ret ⟨.inl rfl, _, (by (simp only [go_sem, Nat.reduceLT, Nat.reduceLeDiff, Nat.reduceEqDiff, Nat.reduceAdd, Nat.reduceSub, Nat.reduceMul, Nat.reduceBEq, Int.reduceToNat, Int.reduceEq, Int.reduceLT, Int.reduceLE, Int.reduceAdd, ↓reduceIte, reduceCtorEq]) <;> rfl), ?_, runA_noref _ _⟩
      simp only [go_sem, Nat.reduceLT, Nat.reduceLeDiff, Nat.reduceEqDiff, Nat.reduceAdd, Nat.reduceSub, Nat.reduceMul, Nat.reduceBEq, Int.reduceToNat, Int.reduceEq, Int.reduceLT, Int.reduceLE, Int.reduceAdd, ↓reduceIte, reduceCtorEq]
      rw [hbad 3 (by unfold evtOk; rw [if_neg hc1, if_pos hc]) (by decide)]; rfl
    have hc2 : ¬ 1024 < e.1 := by simpa using hc
    apply EvC.seq  -- R13
    apply EvC.trd
    · (simp only [go_sem, Nat.reduceLT, Nat.reduceLeDiff, Nat.reduceEqDiff, Nat.reduceAdd, Nat.reduceSub, Nat.reduceMul, Nat.reduceBEq, Int.reduceToNat, Int.reduceEq, Int.reduceLT, Int.reduceLE, Int.reduceAdd, ↓reduceIte, reduceCtorEq, Timed.cells]) <;> rfl
    · simp
    refine EvC.cond (by (simp only [go_sem, Nat.reduceLT, Nat.reduceLeDiff, Nat.reduceEqDiff, Nat.reduceAdd, Nat.reduceSub, Nat.reduceMul, Nat.reduceBEq, Int.reduceToNat, Int.reduceEq, Int.reduceLT, Int.reduceLE, Int.reduceAdd, ↓reduceIte, reduceCtorEq]) <;> rfl) (fun hc => ?_) (fun hc => ?_)
    · have hc : e.2 < 0 ∨ x.m.ins ≤ e.2 := by by_cases h : e.2 < 0 <;> simp_all
      refine EvC.seq (EvC.rg (by (simp only [go_sem, Nat.reduceLT, Nat.reduceLeDiff, Nat.reduceEqDiff, Nat.reduceAdd, Nat.reduceSub, Nat.reduceMul, Nat.reduceBEq, Int.reduceToNat, Int.reduceEq, Int.reduceLT, Int.reduceLE, Int.reduceAdd, ↓reduceIte, reduceCtorEq]) <;> rfl) (by simp) ?_)  -- R14
      refine EvC.ret ⟨.inl rfl, _, (by (simp only [go_sem, Nat.reduceLT, Nat.reduceLeDiff, Nat.reduceEqDiff, Nat.reduceAdd, Nat.reduceSub, Nat.reduceMul, Nat.reduceBEq, Int.reduceToNat, Int.reduceEq, Int.reduceLT, Int.reduceLE, Int.reduceAdd, ↓reduceIte, reduceCtorEq]) <;> rfl), ?_, runA_noref _ _⟩
      simp only [go_sem, Nat.reduceLT, Nat.reduceLeDiff, Nat.reduceEqDiff, Nat.reduceAdd, Nat.reduceSub, Nat.reduceMul, Nat.reduceBEq, Int.reduceToNat, Int.reduceEq, Int.reduceLT, Int.reduceLE, Int.reduceAdd, ↓reduceIte, reduceCtorEq]
      rw [hbad 1 (by unfold evtOk; rw [if_neg hc1, if_neg hc2, if_pos hc]) (by decide)]; rfl
    have hc3 : ¬ (e.2 < 0 ∨ x.m.ins ≤ e.2) := by by_cases h : e.2 < 0 <;> simp_all
    refine EvC.skip ?_
    refine EvC.rg (by (simp only [go_sem, Nat.reduceLT, Nat.reduceLeDiff, Nat.reduceEqDiff, Nat.reduceAdd, Nat.reduceSub, Nat.reduceMul, Nat.reduceBEq, Int.reduceToNat, Int.reduceEq, Int.reduceLT, Int.reduceLE, Int.reduceAdd, ↓reduceIte, reduceCtorEq]) <;> rfl) (inI64_of (by omega) (by omega)) ?_  -- R15
    refine ⟨[], i + 1, rfl, (by (simp only [go_sem, Nat.reduceLT, Nat.reduceLeDiff, Nat.reduceEqDiff, Nat.reduceAdd, Nat.reduceSub, Nat.reduceMul, Nat.reduceBEq, Int.reduceToNat, Int.reduceEq, Int.reduceLT, Int.reduceLE, Int.reduceAdd, ↓reduceIte, reduceCtorEq, Timed.cells]) <;> rfl), ⟨by omega, ?_⟩, by omega⟩
    rw [h2, evts, if_neg]
    unfold evtOk
    rw [if_neg hc1, if_neg hc2, if_neg hc3]; simp
  refine EvC.exit ?_  -- 0
  have hi : ¬ i < es.length := by simpa using hc
  rw [List.drop_of_length_le (by omega)] at h2
  have hev : checkEvts x.m.ins es = 0 := by rw [hce, h2]; rfl
  have hall := evts_all (hce ▸ hev)
  clear h1 h2 hc hi
  obtain ⟨T, hT⟩ : ∃ T, T = runP x es (0, 0) 0 [] := ⟨_, rfl⟩
  have hres : runA x es = if T.length ≤ 4096 then .tu [.sl T.isEmpty (T.map edgeC) .full, .sc (.int .i64 0)] else nilE 3 := by
    rw [runA, if_neg hck, hev, ← hT]; rfl
  refine EvC.seq (EvC.rg (by (simp only [go_sem, Nat.reduceLT, Nat.reduceLeDiff, Nat.reduceEqDiff, Nat.reduceAdd, Nat.reduceSub, Nat.reduceMul, Nat.reduceBEq, Int.reduceToNat, Int.reduceEq, Int.reduceLT, Int.reduceLE, Int.reduceAdd, ↓reduceIte, reduceCtorEq]) <;> rfl) (by simp) ?_)  -- R16
  refine EvC.seq (EvC.rg (by (simp only [go_sem, Nat.reduceLT, Nat.reduceLeDiff, Nat.reduceEqDiff, Nat.reduceAdd, Nat.reduceSub, Nat.reduceMul, Nat.reduceBEq, Int.reduceToNat, Int.reduceEq, Int.reduceLT, Int.reduceLE, Int.reduceAdd, ↓reduceIte, reduceCtorEq]) <;> rfl) (by simp) ?_)  -- R17
  refine EvC.seq ?_
  refine EvC.seq (EvC.rg (by (simp only [go_sem, Nat.reduceLT, Nat.reduceLeDiff, Nat.reduceEqDiff, Nat.reduceAdd, Nat.reduceSub, Nat.reduceMul, Nat.reduceBEq, Int.reduceToNat, Int.reduceEq, Int.reduceLT, Int.reduceLE, Int.reduceAdd, ↓reduceIte, reduceCtorEq]) <;> rfl) (by simp) ?_)  -- R18
  refine EvC.block ?_  -- 3
  refine EvC.loopS (σ := Nat × Cfg × Int × List Rep) (fun g => ⟨[(2, .ia x.cells), (9, .tl 0 g.2.2.2.length g.2.2.2.isEmpty), (10, .rf 1 0), (11, .sc (.int .i64 g.2.2.1)), (56, .sl nl (es.map edgeC) cp), (57, .sc (.int .i64 es.length)), (58, .sc (.int .i64 g.1))], [],
      [(0, .arr 2 (g.2.2.2.map edgeC) true), (1, .cells (edgeC g.2.1))], 2⟩) (fun g => es.length - g.1)
    (fun g => g.1 ≤ es.length ∧ GoodC x g.2.1 ∧ 0 ≤ g.2.2.1 ∧ g.2.2.1 ≤ 1024 * g.1 ∧ g.2.2.2.length ≤ 4096 ∧ T = runP x (es.drop g.1) g.2.1 g.2.2.1 g.2.2.2) [2, 9, 10, 11, 56, 57, 58] 2 ?_ ?_
  · refine ⟨[(1, 0), (3, 1)], (0, (0, 0), 0, []), rfl, (by (simp only [go_sem, Nat.reduceLT, Nat.reduceLeDiff, Nat.reduceEqDiff, Nat.reduceAdd, Nat.reduceSub, Nat.reduceMul, Nat.reduceBEq, Int.reduceToNat, Int.reduceEq, Int.reduceLT, Int.reduceLE, Int.reduceAdd, ↓reduceIte, reduceCtorEq, edgeC]) <;> rfl), Nat.zero_le _, .zero hv, by simp, by simp, by simp, hT⟩
  rintro ⟨j, c0, now0, out0⟩ ⟨hj, hg0, hn0, hn1, ho0, hT0⟩
  simp only at hj hg0 hn0 hn1 ho0 hT0
  refine EvC.seq (EvC.rg (by (simp only [go_sem, Nat.reduceLT, Nat.reduceLeDiff, Nat.reduceEqDiff, Nat.reduceAdd, Nat.reduceSub, Nat.reduceMul, Nat.reduceBEq, Int.reduceToNat, Int.reduceEq, Int.reduceLT, Int.reduceLE, Int.reduceAdd, ↓reduceIte, reduceCtorEq]) <;> rfl) (by simp) ?_)  -- R19
  refine EvC.seq ?_
  refine EvC.cond (by (simp only [go_sem, Nat.reduceLT, Nat.reduceLeDiff, Nat.reduceEqDiff, Nat.reduceAdd, Nat.reduceSub, Nat.reduceMul, Nat.reduceBEq, Int.reduceToNat, Int.reduceEq, Int.reduceLT, Int.reduceLE, Int.reduceAdd, ↓reduceIte, reduceCtorEq]) <;> rfl) (fun hc => ?_) (fun hc => ?_)
  rotate_left
  · refine EvC.exit ?_  -- 3
    have hc : ¬ j < es.length := by simpa using hc
    rw [List.drop_of_length_le (by omega), runP] at hT0
    refine EvC.frz 0 (by (simp only [go_sem, Nat.reduceLT, Nat.reduceLeDiff, Nat.reduceEqDiff, Nat.reduceAdd, Nat.reduceSub, Nat.reduceMul, Nat.reduceBEq, Int.reduceToNat, Int.reduceEq, Int.reduceLT, Int.reduceLE, Int.reduceAdd, ↓reduceIte, reduceCtorEq]) <;> rfl) ?_
    apply EvC.seq  -- R37
    apply EvC.tr
    · apply Tr.run
      · (simp only [go_sem, Nat.reduceLT, Nat.reduceLeDiff, Nat.reduceEqDiff, Nat.reduceAdd, Nat.reduceSub, Nat.reduceMul, Nat.reduceBEq, Int.reduceToNat, Int.reduceEq, Int.reduceLT, Int.reduceLE, Int.reduceAdd, ↓reduceIte, reduceCtorEq]) <;> rfl
      · simp
      apply Tr.cons
      · exact .call rfl rfl (by (simp only [go_sem, Nat.reduceLT, Nat.reduceLeDiff, Nat.reduceEqDiff, Nat.reduceAdd, Nat.reduceSub, Nat.reduceMul, Nat.reduceBEq, Int.reduceToNat, Int.reduceEq, Int.reduceLT, Int.reduceLE, Int.reduceAdd, ↓reduceIte, reduceCtorEq]) <;> rfl) (by (simp only [go_sem, Nat.reduceLT, Nat.reduceLeDiff, Nat.reduceEqDiff, Nat.reduceAdd, Nat.reduceSub, Nat.reduceMul, Nat.reduceBEq, Int.reduceToNat, Int.reduceEq, Int.reduceLT, Int.reduceLE, Int.reduceAdd, ↓reduceIte, reduceCtorEq]) <;> rfl) (by (simp only [go_sem, Nat.reduceLT, Nat.reduceLeDiff, Nat.reduceEqDiff, Nat.reduceAdd, Nat.reduceSub, Nat.reduceMul, Nat.reduceBEq, Int.reduceToNat, Int.reduceEq, Int.reduceLT, Int.reduceLE, Int.reduceAdd, ↓reduceIte, reduceCtorEq]) <;> rfl) (by (simp only [go_sem, Nat.reduceLT, Nat.reduceLeDiff, Nat.reduceEqDiff, Nat.reduceAdd, Nat.reduceSub, Nat.reduceMul, Nat.reduceBEq, Int.reduceToNat, Int.reduceEq, Int.reduceLT, Int.reduceLE, Int.reduceAdd, ↓reduceIte, reduceCtorEq]) <;> rfl) (by (simp only [go_sem, Nat.reduceLT, Nat.reduceLeDiff, Nat.reduceEqDiff, Nat.reduceAdd, Nat.reduceSub, Nat.reduceMul, Nat.reduceBEq, Int.reduceToNat, Int.reduceEq, Int.reduceLT, Int.reduceLE, Int.reduceAdd, ↓reduceIte, reduceCtorEq]) <;> rfl) (clip_is out0.isEmpty (out0.map edgeC) .unk (by simp [edgeC]))
      apply Tr.done
      · (simp only [go_sem, Nat.reduceLT, Nat.reduceLeDiff, Nat.reduceEqDiff, Nat.reduceAdd, Nat.reduceSub, Nat.reduceMul, Nat.reduceBEq, Int.reduceToNat, Int.reduceEq, Int.reduceLT, Int.reduceLE, Int.reduceAdd, ↓reduceIte, reduceCtorEq]) <;> rfl
      · simp
    refine EvC.ret ⟨.inl rfl, _, (by (simp only [go_sem, Nat.reduceLT, Nat.reduceLeDiff, Nat.reduceEqDiff, Nat.reduceAdd, Nat.reduceSub, Nat.reduceMul, Nat.reduceBEq, Int.reduceToNat, Int.reduceEq, Int.reduceLT, Int.reduceLE, Int.reduceAdd, ↓reduceIte, reduceCtorEq]) <;> rfl), ?_, runA_noref _ _⟩
    simp only [go_sem, Nat.reduceLT, Nat.reduceLeDiff, Nat.reduceEqDiff, Nat.reduceAdd, Nat.reduceSub, Nat.reduceMul, Nat.reduceBEq, Int.reduceToNat, Int.reduceEq, Int.reduceLT, Int.reduceLE, Int.reduceAdd, ↓reduceIte, reduceCtorEq]
    rw [hres, hT0, if_pos ho0]
  have hc : j < es.length := by simpa using hc
  have he : es[j]? = some es[j] := List.getElem?_eq_getElem hc
  have hd : es.drop j = es[j] :: es.drop (j + 1) := List.drop_eq_getElem_cons hc
  have hev' := hall _ (List.getElem_mem hc)
  generalize es[j] = e at he hd hev'
  rw [hd, runP] at hT0
  obtain ⟨q, hq⟩ : ∃ q, q = ticksP x e.1.toNat c0 now0 out0 := ⟨_, rfl⟩
  rw [← hq] at hT0
  refine EvC.skip ?_
  refine EvC.seq ?_
  refine EvC.block ?_  -- 4
  refine EvC.seq (EvC.rg (by (simp only [go_sem, Nat.reduceLT, Nat.reduceLeDiff, Nat.reduceEqDiff, Nat.reduceAdd, Nat.reduceSub, Nat.reduceMul, Nat.reduceBEq, Int.reduceToNat, Int.reduceEq, Int.reduceLT, Int.reduceLE, Int.reduceAdd, ↓reduceIte, reduceCtorEq, he, edgeC]) <;> rfl) (by simp) ?_)  -- R20
  refine EvC.seq (EvC.rg (by (simp only [go_sem, Nat.reduceLT, Nat.reduceLeDiff, Nat.reduceEqDiff, Nat.reduceAdd, Nat.reduceSub, Nat.reduceMul, Nat.reduceBEq, Int.reduceToNat, Int.reduceEq, Int.reduceLT, Int.reduceLE, Int.reduceAdd, ↓reduceIte, reduceCtorEq]) <;> rfl) (by simp) ?_)  -- R21
  refine EvC.block ?_  -- 5
  refine EvC.loopS (σ := Nat × Cfg × Int × List Rep) (fun g => ⟨[(2, .ia x.cells), (9, .tl 0 g.2.2.2.length g.2.2.2.isEmpty), (10, .rf 1 0), (11, .sc (.int .i64 g.2.2.1)), (13, .rf 2 0), (14, .sc (.int .i64 g.1)), (56, .sl nl (es.map edgeC) cp), (57, .sc (.int .i64 es.length)), (58, .sc (.int .i64 j))], [],
      [(0, .arr 2 (g.2.2.2.map edgeC) true), (1, .cells (edgeC g.2.1)), (2, .cells (edgeC e))], 3⟩) (fun g => 2000 - g.1)
    (fun g => g.1 ≤ e.1.toNat + 1 ∧ (g.1 ≤ e.1.toNat → GoodC x g.2.1 ∧ 0 ≤ g.2.2.1 ∧ g.2.2.1 = now0 + g.1 ∧ g.2.2.2.length ≤ 4096 ∧ q = ticksP x (e.1.toNat - g.1) g.2.1 g.2.2.1 g.2.2.2) ∧
      (g.1 = e.1.toNat + 1 → GoodC x g.2.1 ∧ 0 ≤ g.2.2.1 ∧ g.2.2.1 = now0 + e.1 ∧ g.2.2.2.length ≤ 4096 ∧ T = runP x (es.drop (j + 1)) g.2.1 g.2.2.1 g.2.2.2)) [2, 9, 10, 11, 13, 14, 56, 57, 58] 3 ?_ ?_
  · refine ⟨[(0, 0), (1, 1), (5, 2)], (0, c0, now0, out0), rfl, (by (simp only [go_sem, Nat.reduceLT, Nat.reduceLeDiff, Nat.reduceEqDiff, Nat.reduceAdd, Nat.reduceSub, Nat.reduceMul, Nat.reduceBEq, Int.reduceToNat, Int.reduceEq, Int.reduceLT, Int.reduceLE, Int.reduceAdd, ↓reduceIte, reduceCtorEq, edgeC]) <;> rfl), Nat.zero_le _, fun _ => ⟨hg0, hn0, by simp, ho0, hq⟩, fun h => by simp only at h; omega⟩
  clear hg0 hn0 ho0
  rintro ⟨n, c, now, out⟩ ⟨h1, h2, h3⟩
  simp only at h1 h2 h3
  refine EvC.seq ?_
  refine EvC.seq (EvC.rg (by (simp only [go_sem, Nat.reduceLT, Nat.reduceLeDiff, Nat.reduceEqDiff, Nat.reduceAdd, Nat.reduceSub, Nat.reduceMul, Nat.reduceBEq, Int.reduceToNat, Int.reduceEq, Int.reduceLT, Int.reduceLE, Int.reduceAdd, ↓reduceIte, reduceCtorEq, edgeC]) <;> rfl) (by simp) ?_)  -- R22
  refine EvC.cond (by (simp only [go_sem, Nat.reduceLT, Nat.reduceLeDiff, Nat.reduceEqDiff, Nat.reduceAdd, Nat.reduceSub, Nat.reduceMul, Nat.reduceBEq, Int.reduceToNat, Int.reduceEq, Int.reduceLT, Int.reduceLE, Int.reduceAdd, ↓reduceIte, reduceCtorEq]) <;> rfl) (fun hc => ?_) (fun hc => ?_)
  rotate_left
  · refine EvC.exit ?_  -- 5
    have hc : e.1 < (n : Int) := by simpa using hc
    obtain ⟨k1, k2, k3, k4, k5⟩ := h3 (by omega)
    refine EvC.rg (by (simp only [go_sem, Nat.reduceLT, Nat.reduceLeDiff, Nat.reduceEqDiff, Nat.reduceAdd, Nat.reduceSub, Nat.reduceMul, Nat.reduceBEq, Int.reduceToNat, Int.reduceEq, Int.reduceLT, Int.reduceLE, Int.reduceAdd, ↓reduceIte, reduceCtorEq]) <;> rfl) (inI64_of (by omega) (by omega)) ?_  -- R36
    exact ⟨[(0, 0), (1, 1)], (j + 1, c, now, out), rfl, (by (simp only [go_sem, Nat.reduceLT, Nat.reduceLeDiff, Nat.reduceEqDiff, Nat.reduceAdd, Nat.reduceSub, Nat.reduceMul, Nat.reduceBEq, Int.reduceToNat, Int.reduceEq, Int.reduceLT, Int.reduceLE, Int.reduceAdd, ↓reduceIte, reduceCtorEq, edgeC]) <;> rfl), ⟨by simp only; omega, k1, k2, by simp only; omega, k4, k5⟩, by simp only; omega⟩
  have hc : (n : Int) ≤ e.1 := by simpa using hc
  clear h3
  obtain ⟨hg, hn0, hnow, ho, hq'⟩ := h2 (by omega)
  clear h2
  have hIn : inI64 ((n : Int) + 1) = true := inI64_of (by omega) (by omega)
  have hIw : inI64 (now + 1) = true := inI64_of (by omega) (by omega)
  have hst := hg.st
  obtain ⟨t1, t2⟩ := timAt_get hv hst.1 hst.2
  have htc := timOk_cases t2
  have hck0 := hg.ck
  have hckc := hg.clock hv
  refine EvC.skip ?_
  refine EvC.seq ?_
  refine EvC.block ?_  -- 6
  refine EvC.seq (EvC.rg (by (simp only [go_sem, Nat.reduceLT, Nat.reduceLeDiff, Nat.reduceEqDiff, Nat.reduceAdd, Nat.reduceSub, Nat.reduceMul, Nat.reduceBEq, Int.reduceToNat, Int.reduceEq, Int.reduceLT, Int.reduceLE, Int.reduceAdd, ↓reduceIte, reduceCtorEq]) <;> rfl) (by simp) ?_)  -- R24
  refine EvC.seq ?_
  refine EvC.seq (EvC.rg (by (simp only [go_sem, Nat.reduceLT, Nat.reduceLeDiff, Nat.reduceEqDiff, Nat.reduceAdd, Nat.reduceSub, Nat.reduceMul, Nat.reduceBEq, Int.reduceToNat, Int.reduceEq, Int.reduceLT, Int.reduceLE, Int.reduceAdd, ↓reduceIte, reduceCtorEq]) <;> rfl) (by simp) ?_)  -- R25
  refine EvC.cond (by (simp only [go_sem, Nat.reduceLT, Nat.reduceLeDiff, Nat.reduceEqDiff, Nat.reduceAdd, Nat.reduceSub, Nat.reduceMul, Nat.reduceBEq, Int.reduceToNat, Int.reduceEq, Int.reduceLT, Int.reduceLE, Int.reduceAdd, ↓reduceIte, reduceCtorEq]) <;> rfl) (fun hc1 => ?_) (fun hc1 => ?_)
  · -- the input
    have hc1 : (n : Int) = e.1 := by simpa using hc1
    have hn : e.1.toNat - n = 0 := by omega
    rw [hn, ticksP] at hq'
    rw [hq'] at hT0
    simp only at hT0
    obtain ⟨r, d, d1, d2, d3, d4⟩ := stepR_get hv.m hst.1 hst.2 ⟨hev'.2.2.1, hev'.2.2.2⟩
    rw [d3] at hT0
    have hnow' : now0 + e.1 = now := by omega
    rw [hnow'] at hT0
    have hdo := doIn_is x c e.2 r d hst.1 hev'.2.2.1 d1 d2
    refine EvC.rg (by (simp only [go_sem, Nat.reduceLT, Nat.reduceLeDiff, Nat.reduceEqDiff, Nat.reduceAdd, Nat.reduceSub, Nat.reduceMul, Nat.reduceBEq, Int.reduceToNat, Int.reduceEq, Int.reduceLT, Int.reduceLE, Int.reduceAdd, ↓reduceIte, reduceCtorEq]) <;> rfl) (by simp) ?_  -- R26
    apply EvC.seq  -- R28
    apply EvC.tr
    · apply Tr.run
      · (simp only [go_sem, Nat.reduceLT, Nat.reduceLeDiff, Nat.reduceEqDiff, Nat.reduceAdd, Nat.reduceSub, Nat.reduceMul, Nat.reduceBEq, Int.reduceToNat, Int.reduceEq, Int.reduceLT, Int.reduceLE, Int.reduceAdd, ↓reduceIte, reduceCtorEq, Timed.cells, edgeC]) <;> rfl
      · simp
      apply Tr.cons
      · exact .call rfl rfl (by (simp only [go_sem, Nat.reduceLT, Nat.reduceLeDiff, Nat.reduceEqDiff, Nat.reduceAdd, Nat.reduceSub, Nat.reduceMul, Nat.reduceBEq, Int.reduceToNat, Int.reduceEq, Int.reduceLT, Int.reduceLE, Int.reduceAdd, ↓reduceIte, reduceCtorEq]) <;> rfl) (by (simp only [go_sem, Nat.reduceLT, Nat.reduceLeDiff, Nat.reduceEqDiff, Nat.reduceAdd, Nat.reduceSub, Nat.reduceMul, Nat.reduceBEq, Int.reduceToNat, Int.reduceEq, Int.reduceLT, Int.reduceLE, Int.reduceAdd, ↓reduceIte, reduceCtorEq]) <;> rfl) (by (simp only [go_sem, Nat.reduceLT, Nat.reduceLeDiff, Nat.reduceEqDiff, Nat.reduceAdd, Nat.reduceSub, Nat.reduceMul, Nat.reduceBEq, Int.reduceToNat, Int.reduceEq, Int.reduceLT, Int.reduceLE, Int.reduceAdd, ↓reduceIte, reduceCtorEq]) <;> rfl) (by (simp only [go_sem, Nat.reduceLT, Nat.reduceLeDiff, Nat.reduceEqDiff, Nat.reduceAdd, Nat.reduceSub, Nat.reduceMul, Nat.reduceBEq, Int.reduceToNat, Int.reduceEq, Int.reduceLT, Int.reduceLE, Int.reduceAdd, ↓reduceIte, reduceCtorEq]) <;> rfl) (by (simp only [go_sem, Nat.reduceLT, Nat.reduceLeDiff, Nat.reduceEqDiff, Nat.reduceAdd, Nat.reduceSub, Nat.reduceMul, Nat.reduceBEq, Int.reduceToNat, Int.reduceEq, Int.reduceLT, Int.reduceLE, Int.reduceAdd, ↓reduceIte, reduceCtorEq]) <;> rfl) (by simpa [Timed.cells, edgeA] using hdo)
      apply Tr.done
      · (simp only [go_sem, Nat.reduceLT, Nat.reduceLeDiff, Nat.reduceEqDiff, Nat.reduceAdd, Nat.reduceSub, Nat.reduceMul, Nat.reduceBEq, Int.reduceToNat, Int.reduceEq, Int.reduceLT, Int.reduceLE, Int.reduceAdd, ↓reduceIte, reduceCtorEq, doA, doIn, edgeA]) <;> rfl
      · simp
    refine EvC.seq ?_
    refine EvC.seq (EvC.rg (by (simp only [go_sem, Nat.reduceLT, Nat.reduceLeDiff, Nat.reduceEqDiff, Nat.reduceAdd, Nat.reduceSub, Nat.reduceMul, Nat.reduceBEq, Int.reduceToNat, Int.reduceEq, Int.reduceLT, Int.reduceLE, Int.reduceAdd, ↓reduceIte, reduceCtorEq]) <;> rfl) (by simp) ?_)  -- R29
    refine EvC.cond_false (by (simp only [go_sem, Nat.reduceLT, Nat.reduceLeDiff, Nat.reduceEqDiff, Nat.reduceAdd, Nat.reduceSub, Nat.reduceMul, Nat.reduceBEq, Int.reduceToNat, Int.reduceEq, Int.reduceLT, Int.reduceLE, Int.reduceAdd, ↓reduceIte, reduceCtorEq]) <;> rfl) ?_
    refine EvC.skip ?_
    refine EvC.seq ?_
    refine EvC.seq (EvC.rg (by (simp only [go_sem, Nat.reduceLT, Nat.reduceLeDiff, Nat.reduceEqDiff, Nat.reduceAdd, Nat.reduceSub, Nat.reduceMul, Nat.reduceBEq, Int.reduceToNat, Int.reduceEq, Int.reduceLT, Int.reduceLE, Int.reduceAdd, ↓reduceIte, reduceCtorEq, List.length_map]) <;> rfl) (by simp) ?_)  -- R31
    refine EvC.cond (by (simp only [go_sem, Nat.reduceLT, Nat.reduceLeDiff, Nat.reduceEqDiff, Nat.reduceAdd, Nat.reduceSub, Nat.reduceMul, Nat.reduceBEq, Int.reduceToNat, Int.reduceEq, Int.reduceLT, Int.reduceLE, Int.reduceAdd, ↓reduceIte, reduceCtorEq]) <;> rfl) (fun hm => ?_) (fun hm => ?_)
    · have hm : out.length = 4096 := by
        have : (out.length : Int) = 4096 := by simpa using hm
        omega
      refine EvC.seq (EvC.rg (by (simp only [go_sem, Nat.reduceLT, Nat.reduceLeDiff, Nat.reduceEqDiff, Nat.reduceAdd, Nat.reduceSub, Nat.reduceMul, Nat.reduceBEq, Int.reduceToNat, Int.reduceEq, Int.reduceLT, Int.reduceLE, Int.reduceAdd, ↓reduceIte, reduceCtorEq]) <;> rfl) (by simp) ?_)  -- R32
      refine EvC.ret ⟨.inl rfl, _, (by (simp only [go_sem, Nat.reduceLT, Nat.reduceLeDiff, Nat.reduceEqDiff, Nat.reduceAdd, Nat.reduceSub, Nat.reduceMul, Nat.reduceBEq, Int.reduceToNat, Int.reduceEq, Int.reduceLT, Int.reduceLE, Int.reduceAdd, ↓reduceIte, reduceCtorEq]) <;> rfl), ?_, runA_noref _ _⟩
      simp only [go_sem, Nat.reduceLT, Nat.reduceLeDiff, Nat.reduceEqDiff, Nat.reduceAdd, Nat.reduceSub, Nat.reduceMul, Nat.reduceBEq, Int.reduceToNat, Int.reduceEq, Int.reduceLT, Int.reduceLE, Int.reduceAdd, ↓reduceIte, reduceCtorEq]
      have : ¬ T.length ≤ 4096 := by
        rw [hT0]
        split
        · simp; omega
        · have := runP_len x (es.drop (j + 1)) (d.1, 0) now (out ++ [(now, d.2)])
          simp only [List.length_append, List.length_cons, List.length_nil] at this
          omega
      rw [hres, if_neg this]; rfl
    have hm : ¬ out.length = 4096 := by
      have : ¬ (out.length : Int) = 4096 := by simpa using hm
      omega
    refine EvC.skip ?_
    refine EvC.seq ?_
    refine EvC.seq (EvC.rg (by (simp only [go_sem, Nat.reduceLT, Nat.reduceLeDiff, Nat.reduceEqDiff, Nat.reduceAdd, Nat.reduceSub, Nat.reduceMul, Nat.reduceBEq, Int.reduceToNat, Int.reduceEq, Int.reduceLT, Int.reduceLE, Int.reduceAdd, ↓reduceIte, reduceCtorEq]) <;> rfl) (by simp) ?_)  -- R33
    refine EvC.cond (by (simp only [go_sem, Nat.reduceLT, Nat.reduceLeDiff, Nat.reduceEqDiff, Nat.reduceAdd, Nat.reduceSub, Nat.reduceMul, Nat.reduceBEq, Int.reduceToNat, Int.reduceEq, Int.reduceLT, Int.reduceLE, Int.reduceAdd, ↓reduceIte, reduceCtorEq]) <;> rfl) (fun hu => ?_) (fun hu => ?_)
    · have hu : d.1 = -1 := by simpa using hu
      have hu2 : d.2 = -1 := by
        unfold fitsR at d4; simp at d4; omega
      rw [if_pos hu, hu2] at hT0
      apply EvC.seq  -- R34
      apply EvC.tr
      · apply Tr.run
        · (simp only [go_sem, Nat.reduceLT, Nat.reduceLeDiff, Nat.reduceEqDiff, Nat.reduceAdd, Nat.reduceSub, Nat.reduceMul, Nat.reduceBEq, Int.reduceToNat, Int.reduceEq, Int.reduceLT, Int.reduceLE, Int.reduceAdd, ↓reduceIte, reduceCtorEq]) <;> rfl
        · simp [room_eq, AV.norefs, AV.noref]; omega
        apply Tr.cons
        · exact .call rfl rfl (by (simp only [go_sem, Nat.reduceLT, Nat.reduceLeDiff, Nat.reduceEqDiff, Nat.reduceAdd, Nat.reduceSub, Nat.reduceMul, Nat.reduceBEq, Int.reduceToNat, Int.reduceEq, Int.reduceLT, Int.reduceLE, Int.reduceAdd, ↓reduceIte, reduceCtorEq]) <;> rfl) (by (simp only [go_sem, Nat.reduceLT, Nat.reduceLeDiff, Nat.reduceEqDiff, Nat.reduceAdd, Nat.reduceSub, Nat.reduceMul, Nat.reduceBEq, Int.reduceToNat, Int.reduceEq, Int.reduceLT, Int.reduceLE, Int.reduceAdd, ↓reduceIte, reduceCtorEq]) <;> rfl) (by (simp only [go_sem, Nat.reduceLT, Nat.reduceLeDiff, Nat.reduceEqDiff, Nat.reduceAdd, Nat.reduceSub, Nat.reduceMul, Nat.reduceBEq, Int.reduceToNat, Int.reduceEq, Int.reduceLT, Int.reduceLE, Int.reduceAdd, ↓reduceIte, reduceCtorEq]) <;> rfl) (by (simp only [go_sem, Nat.reduceLT, Nat.reduceLeDiff, Nat.reduceEqDiff, Nat.reduceAdd, Nat.reduceSub, Nat.reduceMul, Nat.reduceBEq, Int.reduceToNat, Int.reduceEq, Int.reduceLT, Int.reduceLE, Int.reduceAdd, ↓reduceIte, reduceCtorEq]) <;> rfl) (by (simp only [go_sem, Nat.reduceLT, Nat.reduceLeDiff, Nat.reduceEqDiff, Nat.reduceAdd, Nat.reduceSub, Nat.reduceMul, Nat.reduceBEq, Int.reduceToNat, Int.reduceEq, Int.reduceLT, Int.reduceLE, Int.reduceAdd, ↓reduceIte, reduceCtorEq]) <;> rfl) (clip_is false ((out ++ [(now, -1)]).map edgeC) .unk (by simp [edgeC]))
        apply Tr.done
        · (simp only [go_sem, Nat.reduceLT, Nat.reduceLeDiff, Nat.reduceEqDiff, Nat.reduceAdd, Nat.reduceSub, Nat.reduceMul, Nat.reduceBEq, Int.reduceToNat, Int.reduceEq, Int.reduceLT, Int.reduceLE, Int.reduceAdd, ↓reduceIte, reduceCtorEq]) <;> rfl
        · simp
      refine EvC.ret ⟨.inl rfl, _, (by (simp only [go_sem, Nat.reduceLT, Nat.reduceLeDiff, Nat.reduceEqDiff, Nat.reduceAdd, Nat.reduceSub, Nat.reduceMul, Nat.reduceBEq, Int.reduceToNat, Int.reduceEq, Int.reduceLT, Int.reduceLE, Int.reduceAdd, ↓reduceIte, reduceCtorEq]) <;> rfl), ?_, runA_noref _ _⟩
      simp only [go_sem, Nat.reduceLT, Nat.reduceLeDiff, Nat.reduceEqDiff, Nat.reduceAdd, Nat.reduceSub, Nat.reduceMul, Nat.reduceBEq, Int.reduceToNat, Int.reduceEq, Int.reduceLT, Int.reduceLE, Int.reduceAdd, ↓reduceIte, reduceCtorEq]
      rw [hres, hT0, if_pos (by simp; omega)]
      simp
    have hu : ¬ d.1 = -1 := by simpa using hu
    rw [if_neg hu] at hT0
    have hgd : GoodC x (d.1, 0) := by
      unfold fitsR at d4; simp at d4
      exact ⟨by simp only; omega, by simp⟩
    refine EvC.skip ?_
    apply EvC.drd mixed  -- R35
    · (simp only [go_sem, Nat.reduceLT, Nat.reduceLeDiff, Nat.reduceEqDiff, Nat.reduceAdd, Nat.reduceSub, Nat.reduceMul, Nat.reduceBEq, Int.reduceToNat, Int.reduceEq, Int.reduceLT, Int.reduceLE, Int.reduceAdd, ↓reduceIte, reduceCtorEq]) <;> rfl
    · simp [room_eq, AV.norefs, AV.noref]; omega
    · kernel_rfl
    refine EvC.rg (by (simp only [go_sem, Nat.reduceLT, Nat.reduceLeDiff, Nat.reduceEqDiff, Nat.reduceAdd, Nat.reduceSub, Nat.reduceMul, Nat.reduceBEq, Int.reduceToNat, Int.reduceEq, Int.reduceLT, Int.reduceLE, Int.reduceAdd, ↓reduceIte, reduceCtorEq]) <;> rfl) hIn ?_  -- R23
    exact ⟨[(0, 0), (1, 1), (2, 2)], (n + 1, (d.1, 0), now, out ++ [(now, d.2)]), rfl, (by (simp only [go_sem, Nat.reduceLT, Nat.reduceLeDiff, Nat.reduceEqDiff, Nat.reduceAdd, Nat.reduceSub, Nat.reduceMul, Nat.reduceBEq, Int.reduceToNat, Int.reduceEq, Int.reduceLT, Int.reduceLE, Int.reduceAdd, ↓reduceIte, reduceCtorEq, edgeC]) <;> rfl), ⟨by simp only; omega, fun h => by simp only at h; omega, fun _ => ⟨hgd, hn0, by simp only; omega, by simp; omega, hT0⟩⟩, by simp only; omega⟩
  -- a tick
  have hc1 : ¬ (n : Int) = e.1 := by simpa using hc1
  obtain ⟨m, hm⟩ : ∃ m, e.1.toNat - n = m + 1 := ⟨e.1.toNat - n - 1, by omega⟩
  have hm1 : e.1.toNat - (n + 1) = m := by omega
  rw [hm, ticksP] at hq'
  have hg1 := tick1_good hv hg now out
  have hdo := doTick_is x c (timAt x c.1) hst.1 t1 (by omega)
  unfold doTick at hdo
  refine EvC.rg (by (simp only [go_sem, Nat.reduceLT, Nat.reduceLeDiff, Nat.reduceEqDiff, Nat.reduceAdd, Nat.reduceSub, Nat.reduceMul, Nat.reduceBEq, Int.reduceToNat, Int.reduceEq, Int.reduceLT, Int.reduceLE, Int.reduceAdd, ↓reduceIte, reduceCtorEq]) <;> rfl) hIw ?_  -- R27
  by_cases k0 : (timAt x c.1).1 = 0
  · have ht1 : tick1 x c now out = (c, out) := if_pos k0
    rw [if_pos k0] at hdo
    apply EvC.seq  -- R28
    apply EvC.tr
    · apply Tr.run
      · (simp only [go_sem, Nat.reduceLT, Nat.reduceLeDiff, Nat.reduceEqDiff, Nat.reduceAdd, Nat.reduceSub, Nat.reduceMul, Nat.reduceBEq, Int.reduceToNat, Int.reduceEq, Int.reduceLT, Int.reduceLE, Int.reduceAdd, ↓reduceIte, reduceCtorEq, Timed.cells, edgeC]) <;> rfl
      · simp
      apply Tr.cons
      · exact .call rfl rfl (by (simp only [go_sem, Nat.reduceLT, Nat.reduceLeDiff, Nat.reduceEqDiff, Nat.reduceAdd, Nat.reduceSub, Nat.reduceMul, Nat.reduceBEq, Int.reduceToNat, Int.reduceEq, Int.reduceLT, Int.reduceLE, Int.reduceAdd, ↓reduceIte, reduceCtorEq]) <;> rfl) (by (simp only [go_sem, Nat.reduceLT, Nat.reduceLeDiff, Nat.reduceEqDiff, Nat.reduceAdd, Nat.reduceSub, Nat.reduceMul, Nat.reduceBEq, Int.reduceToNat, Int.reduceEq, Int.reduceLT, Int.reduceLE, Int.reduceAdd, ↓reduceIte, reduceCtorEq]) <;> rfl) (by (simp only [go_sem, Nat.reduceLT, Nat.reduceLeDiff, Nat.reduceEqDiff, Nat.reduceAdd, Nat.reduceSub, Nat.reduceMul, Nat.reduceBEq, Int.reduceToNat, Int.reduceEq, Int.reduceLT, Int.reduceLE, Int.reduceAdd, ↓reduceIte, reduceCtorEq]) <;> rfl) (by (simp only [go_sem, Nat.reduceLT, Nat.reduceLeDiff, Nat.reduceEqDiff, Nat.reduceAdd, Nat.reduceSub, Nat.reduceMul, Nat.reduceBEq, Int.reduceToNat, Int.reduceEq, Int.reduceLT, Int.reduceLE, Int.reduceAdd, ↓reduceIte, reduceCtorEq]) <;> rfl) (by (simp only [go_sem, Nat.reduceLT, Nat.reduceLeDiff, Nat.reduceEqDiff, Nat.reduceAdd, Nat.reduceSub, Nat.reduceMul, Nat.reduceBEq, Int.reduceToNat, Int.reduceEq, Int.reduceLT, Int.reduceLE, Int.reduceAdd, ↓reduceIte, reduceCtorEq]) <;> rfl) (by simpa [Timed.cells, edgeA] using hdo)
      apply Tr.done
      · (simp only [go_sem, Nat.reduceLT, Nat.reduceLeDiff, Nat.reduceEqDiff, Nat.reduceAdd, Nat.reduceSub, Nat.reduceMul, Nat.reduceBEq, Int.reduceToNat, Int.reduceEq, Int.reduceLT, Int.reduceLE, Int.reduceAdd, ↓reduceIte, reduceCtorEq, doA, edgeA]) <;> rfl
      · simp
    refine EvC.seq ?_
    refine EvC.seq (EvC.rg (by (simp only [go_sem, Nat.reduceLT, Nat.reduceLeDiff, Nat.reduceEqDiff, Nat.reduceAdd, Nat.reduceSub, Nat.reduceMul, Nat.reduceBEq, Int.reduceToNat, Int.reduceEq, Int.reduceLT, Int.reduceLE, Int.reduceAdd, ↓reduceIte, reduceCtorEq]) <;> rfl) (by simp) ?_)  -- R29
    refine EvC.cond_true (by (simp only [go_sem, Nat.reduceLT, Nat.reduceLeDiff, Nat.reduceEqDiff, Nat.reduceAdd, Nat.reduceSub, Nat.reduceMul, Nat.reduceBEq, Int.reduceToNat, Int.reduceEq, Int.reduceLT, Int.reduceLE, Int.reduceAdd, ↓reduceIte, reduceCtorEq]) <;> rfl) ?_
    refine EvC.seq (EvC.rg (by (simp only [go_sem, Nat.reduceLT, Nat.reduceLeDiff, Nat.reduceEqDiff, Nat.reduceAdd, Nat.reduceSub, Nat.reduceMul, Nat.reduceBEq, Int.reduceToNat, Int.reduceEq, Int.reduceLT, Int.reduceLE, Int.reduceAdd, ↓reduceIte, reduceCtorEq]) <;> rfl) (by simp) ?_)  -- R30
    refine EvC.exit ?_  -- 6
    refine EvC.rg (by (simp only [go_sem, Nat.reduceLT, Nat.reduceLeDiff, Nat.reduceEqDiff, Nat.reduceAdd, Nat.reduceSub, Nat.reduceMul, Nat.reduceBEq, Int.reduceToNat, Int.reduceEq, Int.reduceLT, Int.reduceLE, Int.reduceAdd, ↓reduceIte, reduceCtorEq]) <;> rfl) hIn ?_  -- R23
    exact ⟨[(0, 0), (1, 1), (2, 2)], (n + 1, (c), now + 1, out), rfl, (by (simp only [go_sem, Nat.reduceLT, Nat.reduceLeDiff, Nat.reduceEqDiff, Nat.reduceAdd, Nat.reduceSub, Nat.reduceMul, Nat.reduceBEq, Int.reduceToNat, Int.reduceEq, Int.reduceLT, Int.reduceLE, Int.reduceAdd, ↓reduceIte, reduceCtorEq, edgeC]) <;> rfl), ⟨by simp only; omega, fun _ => ⟨(by rw [ht1] at hg1; exact hg1), by simp only; omega, by simp only; omega, ho, by rw [hm1, hq', ht1]⟩, fun h => by simp only at h; omega⟩, by simp only; omega⟩
  rw [if_neg k0] at hdo
  by_cases k1 : c.2 + 1 = (timAt x c.1).1
  · have ht1 : tick1 x c now out = (((timAt x c.1).2.1, 0), out ++ [(now + 1, (timAt x c.1).2.2)]) := by unfold tick1; rw [if_neg k0, if_pos k1]
    rw [if_pos k1] at hdo
    apply EvC.seq  -- R28
    apply EvC.tr
    · apply Tr.run
      · (simp only [go_sem, Nat.reduceLT, Nat.reduceLeDiff, Nat.reduceEqDiff, Nat.reduceAdd, Nat.reduceSub, Nat.reduceMul, Nat.reduceBEq, Int.reduceToNat, Int.reduceEq, Int.reduceLT, Int.reduceLE, Int.reduceAdd, ↓reduceIte, reduceCtorEq, Timed.cells, edgeC]) <;> rfl
      · simp
      apply Tr.cons
      · exact .call rfl rfl (by (simp only [go_sem, Nat.reduceLT, Nat.reduceLeDiff, Nat.reduceEqDiff, Nat.reduceAdd, Nat.reduceSub, Nat.reduceMul, Nat.reduceBEq, Int.reduceToNat, Int.reduceEq, Int.reduceLT, Int.reduceLE, Int.reduceAdd, ↓reduceIte, reduceCtorEq]) <;> rfl) (by (simp only [go_sem, Nat.reduceLT, Nat.reduceLeDiff, Nat.reduceEqDiff, Nat.reduceAdd, Nat.reduceSub, Nat.reduceMul, Nat.reduceBEq, Int.reduceToNat, Int.reduceEq, Int.reduceLT, Int.reduceLE, Int.reduceAdd, ↓reduceIte, reduceCtorEq]) <;> rfl) (by (simp only [go_sem, Nat.reduceLT, Nat.reduceLeDiff, Nat.reduceEqDiff, Nat.reduceAdd, Nat.reduceSub, Nat.reduceMul, Nat.reduceBEq, Int.reduceToNat, Int.reduceEq, Int.reduceLT, Int.reduceLE, Int.reduceAdd, ↓reduceIte, reduceCtorEq]) <;> rfl) (by (simp only [go_sem, Nat.reduceLT, Nat.reduceLeDiff, Nat.reduceEqDiff, Nat.reduceAdd, Nat.reduceSub, Nat.reduceMul, Nat.reduceBEq, Int.reduceToNat, Int.reduceEq, Int.reduceLT, Int.reduceLE, Int.reduceAdd, ↓reduceIte, reduceCtorEq]) <;> rfl) (by (simp only [go_sem, Nat.reduceLT, Nat.reduceLeDiff, Nat.reduceEqDiff, Nat.reduceAdd, Nat.reduceSub, Nat.reduceMul, Nat.reduceBEq, Int.reduceToNat, Int.reduceEq, Int.reduceLT, Int.reduceLE, Int.reduceAdd, ↓reduceIte, reduceCtorEq]) <;> rfl) (by simpa [Timed.cells, edgeA] using hdo)
      apply Tr.done
      · (simp only [go_sem, Nat.reduceLT, Nat.reduceLeDiff, Nat.reduceEqDiff, Nat.reduceAdd, Nat.reduceSub, Nat.reduceMul, Nat.reduceBEq, Int.reduceToNat, Int.reduceEq, Int.reduceLT, Int.reduceLE, Int.reduceAdd, ↓reduceIte, reduceCtorEq, doA, edgeA]) <;> rfl
      · simp
    refine EvC.seq ?_
    refine EvC.seq (EvC.rg (by (simp only [go_sem, Nat.reduceLT, Nat.reduceLeDiff, Nat.reduceEqDiff, Nat.reduceAdd, Nat.reduceSub, Nat.reduceMul, Nat.reduceBEq, Int.reduceToNat, Int.reduceEq, Int.reduceLT, Int.reduceLE, Int.reduceAdd, ↓reduceIte, reduceCtorEq]) <;> rfl) (by simp) ?_)  -- R29
    refine EvC.cond_false (by (simp only [go_sem, Nat.reduceLT, Nat.reduceLeDiff, Nat.reduceEqDiff, Nat.reduceAdd, Nat.reduceSub, Nat.reduceMul, Nat.reduceBEq, Int.reduceToNat, Int.reduceEq, Int.reduceLT, Int.reduceLE, Int.reduceAdd, ↓reduceIte, reduceCtorEq]) <;> rfl) ?_
    refine EvC.skip ?_
    refine EvC.seq ?_
    refine EvC.seq (EvC.rg (by (simp only [go_sem, Nat.reduceLT, Nat.reduceLeDiff, Nat.reduceEqDiff, Nat.reduceAdd, Nat.reduceSub, Nat.reduceMul, Nat.reduceBEq, Int.reduceToNat, Int.reduceEq, Int.reduceLT, Int.reduceLE, Int.reduceAdd, ↓reduceIte, reduceCtorEq, List.length_map]) <;> rfl) (by simp) ?_)  -- R31
    refine EvC.cond (by (simp only [go_sem, Nat.reduceLT, Nat.reduceLeDiff, Nat.reduceEqDiff, Nat.reduceAdd, Nat.reduceSub, Nat.reduceMul, Nat.reduceBEq, Int.reduceToNat, Int.reduceEq, Int.reduceLT, Int.reduceLE, Int.reduceAdd, ↓reduceIte, reduceCtorEq]) <;> rfl) (fun hm => ?_) (fun hm => ?_)
    · have hm : out.length = 4096 := by
        have : (out.length : Int) = 4096 := by simpa using hm
        omega
      refine EvC.seq (EvC.rg (by (simp only [go_sem, Nat.reduceLT, Nat.reduceLeDiff, Nat.reduceEqDiff, Nat.reduceAdd, Nat.reduceSub, Nat.reduceMul, Nat.reduceBEq, Int.reduceToNat, Int.reduceEq, Int.reduceLT, Int.reduceLE, Int.reduceAdd, ↓reduceIte, reduceCtorEq]) <;> rfl) (by simp) ?_)  -- R32
      refine EvC.ret ⟨.inl rfl, _, (by (simp only [go_sem, Nat.reduceLT, Nat.reduceLeDiff, Nat.reduceEqDiff, Nat.reduceAdd, Nat.reduceSub, Nat.reduceMul, Nat.reduceBEq, Int.reduceToNat, Int.reduceEq, Int.reduceLT, Int.reduceLE, Int.reduceAdd, ↓reduceIte, reduceCtorEq]) <;> rfl), ?_, runA_noref _ _⟩
      simp only [go_sem, Nat.reduceLT, Nat.reduceLeDiff, Nat.reduceEqDiff, Nat.reduceAdd, Nat.reduceSub, Nat.reduceMul, Nat.reduceBEq, Int.reduceToNat, Int.reduceEq, Int.reduceLT, Int.reduceLE, Int.reduceAdd, ↓reduceIte, reduceCtorEq]
      have : ¬ T.length ≤ 4096 := by
        have h1 := ticksP_len x m (tick1 x c now out).1 (now + 1) (tick1 x c now out).2
        rw [← hq', ht1] at h1
        simp only [List.length_append, List.length_cons, List.length_nil] at h1
        rw [hT0]
        split
        · simp; omega
        · have := runP_len x (es.drop (j + 1)) ((stepR x.m q.1.1 e.2).1, 0) (now0 + e.1) (q.2 ++ [(now0 + e.1, (stepR x.m q.1.1 e.2).2)])
          simp only [List.length_append, List.length_cons, List.length_nil] at this
          omega
      rw [hres, if_neg this]; rfl
    have hm : ¬ out.length = 4096 := by
      have : ¬ (out.length : Int) = 4096 := by simpa using hm
      omega
    refine EvC.skip ?_
    refine EvC.seq ?_
    refine EvC.seq (EvC.rg (by (simp only [go_sem, Nat.reduceLT, Nat.reduceLeDiff, Nat.reduceEqDiff, Nat.reduceAdd, Nat.reduceSub, Nat.reduceMul, Nat.reduceBEq, Int.reduceToNat, Int.reduceEq, Int.reduceLT, Int.reduceLE, Int.reduceAdd, ↓reduceIte, reduceCtorEq]) <;> rfl) (by simp) ?_)  -- R33
    refine EvC.cond_false (by (simp only [go_sem, Nat.reduceLT, Nat.reduceLeDiff, Nat.reduceEqDiff, Nat.reduceAdd, Nat.reduceSub, Nat.reduceMul, Nat.reduceBEq, Int.reduceToNat, Int.reduceEq, Int.reduceLT, Int.reduceLE, Int.reduceAdd, ↓reduceIte, reduceCtorEq]) <;> rfl) ?_
    refine EvC.skip ?_
    apply EvC.drd mixed  -- R35
    · (simp only [go_sem, Nat.reduceLT, Nat.reduceLeDiff, Nat.reduceEqDiff, Nat.reduceAdd, Nat.reduceSub, Nat.reduceMul, Nat.reduceBEq, Int.reduceToNat, Int.reduceEq, Int.reduceLT, Int.reduceLE, Int.reduceAdd, ↓reduceIte, reduceCtorEq]) <;> rfl
    · simp [room_eq, AV.norefs, AV.noref]; omega
    · kernel_rfl
    refine EvC.rg (by (simp only [go_sem, Nat.reduceLT, Nat.reduceLeDiff, Nat.reduceEqDiff, Nat.reduceAdd, Nat.reduceSub, Nat.reduceMul, Nat.reduceBEq, Int.reduceToNat, Int.reduceEq, Int.reduceLT, Int.reduceLE, Int.reduceAdd, ↓reduceIte, reduceCtorEq]) <;> rfl) hIn ?_  -- R23
    exact ⟨[(0, 0), (1, 1), (2, 2)], (n + 1, ((timAt x c.1).2.1, 0), now + 1, out ++ [(now + 1, (timAt x c.1).2.2)]), rfl, (by (simp only [go_sem, Nat.reduceLT, Nat.reduceLeDiff, Nat.reduceEqDiff, Nat.reduceAdd, Nat.reduceSub, Nat.reduceMul, Nat.reduceBEq, Int.reduceToNat, Int.reduceEq, Int.reduceLT, Int.reduceLE, Int.reduceAdd, ↓reduceIte, reduceCtorEq, edgeC]) <;> rfl), ⟨by simp only; omega, fun _ => ⟨(by rw [ht1] at hg1; exact hg1), by simp only; omega, by simp only; omega, by simp; omega, by rw [hm1, hq', ht1]⟩, fun h => by simp only at h; omega⟩, by simp only; omega⟩
  · have ht1 : tick1 x c now out = ((c.1, c.2 + 1), out) := by unfold tick1; rw [if_neg k0, if_neg k1]
    rw [if_neg k1] at hdo
    apply EvC.seq  -- R28
    apply EvC.tr
    · apply Tr.run
      · (simp only [go_sem, Nat.reduceLT, Nat.reduceLeDiff, Nat.reduceEqDiff, Nat.reduceAdd, Nat.reduceSub, Nat.reduceMul, Nat.reduceBEq, Int.reduceToNat, Int.reduceEq, Int.reduceLT, Int.reduceLE, Int.reduceAdd, ↓reduceIte, reduceCtorEq, Timed.cells, edgeC]) <;> rfl
      · simp
      apply Tr.cons
      · exact .call rfl rfl (by (simp only [go_sem, Nat.reduceLT, Nat.reduceLeDiff, Nat.reduceEqDiff, Nat.reduceAdd, Nat.reduceSub, Nat.reduceMul, Nat.reduceBEq, Int.reduceToNat, Int.reduceEq, Int.reduceLT, Int.reduceLE, Int.reduceAdd, ↓reduceIte, reduceCtorEq]) <;> rfl) (by (simp only [go_sem, Nat.reduceLT, Nat.reduceLeDiff, Nat.reduceEqDiff, Nat.reduceAdd, Nat.reduceSub, Nat.reduceMul, Nat.reduceBEq, Int.reduceToNat, Int.reduceEq, Int.reduceLT, Int.reduceLE, Int.reduceAdd, ↓reduceIte, reduceCtorEq]) <;> rfl) (by (simp only [go_sem, Nat.reduceLT, Nat.reduceLeDiff, Nat.reduceEqDiff, Nat.reduceAdd, Nat.reduceSub, Nat.reduceMul, Nat.reduceBEq, Int.reduceToNat, Int.reduceEq, Int.reduceLT, Int.reduceLE, Int.reduceAdd, ↓reduceIte, reduceCtorEq]) <;> rfl) (by (simp only [go_sem, Nat.reduceLT, Nat.reduceLeDiff, Nat.reduceEqDiff, Nat.reduceAdd, Nat.reduceSub, Nat.reduceMul, Nat.reduceBEq, Int.reduceToNat, Int.reduceEq, Int.reduceLT, Int.reduceLE, Int.reduceAdd, ↓reduceIte, reduceCtorEq]) <;> rfl) (by (simp only [go_sem, Nat.reduceLT, Nat.reduceLeDiff, Nat.reduceEqDiff, Nat.reduceAdd, Nat.reduceSub, Nat.reduceMul, Nat.reduceBEq, Int.reduceToNat, Int.reduceEq, Int.reduceLT, Int.reduceLE, Int.reduceAdd, ↓reduceIte, reduceCtorEq]) <;> rfl) (by simpa [Timed.cells, edgeA] using hdo)
      apply Tr.done
      · (simp only [go_sem, Nat.reduceLT, Nat.reduceLeDiff, Nat.reduceEqDiff, Nat.reduceAdd, Nat.reduceSub, Nat.reduceMul, Nat.reduceBEq, Int.reduceToNat, Int.reduceEq, Int.reduceLT, Int.reduceLE, Int.reduceAdd, ↓reduceIte, reduceCtorEq, doA, edgeA]) <;> rfl
      · simp
    refine EvC.seq ?_
    refine EvC.seq (EvC.rg (by (simp only [go_sem, Nat.reduceLT, Nat.reduceLeDiff, Nat.reduceEqDiff, Nat.reduceAdd, Nat.reduceSub, Nat.reduceMul, Nat.reduceBEq, Int.reduceToNat, Int.reduceEq, Int.reduceLT, Int.reduceLE, Int.reduceAdd, ↓reduceIte, reduceCtorEq]) <;> rfl) (by simp) ?_)  -- R29
    refine EvC.cond_true (by (simp only [go_sem, Nat.reduceLT, Nat.reduceLeDiff, Nat.reduceEqDiff, Nat.reduceAdd, Nat.reduceSub, Nat.reduceMul, Nat.reduceBEq, Int.reduceToNat, Int.reduceEq, Int.reduceLT, Int.reduceLE, Int.reduceAdd, ↓reduceIte, reduceCtorEq]) <;> rfl) ?_
    refine EvC.seq (EvC.rg (by (simp only [go_sem, Nat.reduceLT, Nat.reduceLeDiff, Nat.reduceEqDiff, Nat.reduceAdd, Nat.reduceSub, Nat.reduceMul, Nat.reduceBEq, Int.reduceToNat, Int.reduceEq, Int.reduceLT, Int.reduceLE, Int.reduceAdd, ↓reduceIte, reduceCtorEq]) <;> rfl) (by simp) ?_)  -- R30
    refine EvC.exit ?_  -- 6
    refine EvC.rg (by (simp only [go_sem, Nat.reduceLT, Nat.reduceLeDiff, Nat.reduceEqDiff, Nat.reduceAdd, Nat.reduceSub, Nat.reduceMul, Nat.reduceBEq, Int.reduceToNat, Int.reduceEq, Int.reduceLT, Int.reduceLE, Int.reduceAdd, ↓reduceIte, reduceCtorEq]) <;> rfl) hIn ?_  -- R23
    exact ⟨[(0, 0), (1, 1), (2, 2)], (n + 1, (c.1, c.2 + 1), now + 1, out), rfl, (by (simp only [go_sem, Nat.reduceLT, Nat.reduceLeDiff, Nat.reduceEqDiff, Nat.reduceAdd, Nat.reduceSub, Nat.reduceMul, Nat.reduceBEq, Int.reduceToNat, Int.reduceEq, Int.reduceLT, Int.reduceLE, Int.reduceAdd, ↓reduceIte, reduceCtorEq, edgeC]) <;> rfl), ⟨by simp only; omega, fun _ => ⟨(by rw [ht1] at hg1; exact hg1), by simp only; omega, by simp only; omega, ho, by rw [hm1, hq', ht1]⟩, fun h => by simp only at h; omega⟩, by simp only; omega⟩
end Go.Avl
