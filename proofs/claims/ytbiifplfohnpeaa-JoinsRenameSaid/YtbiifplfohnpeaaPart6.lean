/-
  Lemmas.
  Lemmas.
  Lemmas.
  Lemmas.
  Lemmas.
  Lemmas.
  Lemmas.
  Lemmas.
  Lemmas.
-/
import Derived.Test.YtbiifplfohnpeaaPart5
set_option linter.unusedSimpArgs false
set_option linter.unusedVariables false
set_option linter.unnecessarySimpa false
set_option linter.deprecated false
namespace Go.Avl
open Go Go.Proofs.Try
set_option maxRecDepth 10000
set_option linter.unusedSimpArgs false
def rowF (r : List (Int × Int)) : List AV := rowC (false, r)
@[go_sem] theorem norefs_rowF (l : List (List (Int × Int))) : (l.map rowF).all AV.norefs = true := by simp [List.all_eq_true, rowF, rowC, AV.norefs, AV.noref]
/-- The plain data of a machine. -/
structure LM where
  st : Int
  ins : Int
  outs : Int
  part : Bool
  nl : Bool
  es : List Int
  cap : Cp
def u16C (x : Int) : List AV := [.sc (.int .u16 x)]
@[go_sem] theorem norefs_u16 (l : List Int) : (l.map u16C).all AV.norefs = true := by simp [List.all_eq_true, u16C, AV.norefs, AV.noref]
def LM.cells (x : LM) : List AV := [.sc (.int .u8 x.st), .sc (.int .u8 x.ins), .sc (.int .u8 x.outs), .sc (.bool x.part), .sl x.nl (x.es.map u16C) x.cap]
structure LM.Ok (x : LM) : Prop where
  st : 0 ≤ x.st
  ins : 0 ≤ x.ins
  outs : 0 ≤ x.outs
  es : ∀ e ∈ x.es, 0 ≤ e ∧ e < 65536
def LM.n (x : LM) : Nat := (1 + x.st % 6).toNat
def LM.i (x : LM) : Nat := (1 + x.ins % 3).toNat
def LM.o (x : LM) : Int := 1 + x.outs % 3
def LM.v (x : LM) (s i : Nat) : Int := (x.es[s * x.i + i]?).getD 0
def LM.edge (x : LM) (s i : Nat) : Int × Int :=
  if x.part = true ∧ x.v s i % 4 = 3 then (-1, -1) else (x.v s i / 4 % x.n, x.v s i / 4 / x.n % x.o)
def LM.row (x : LM) (s : Nat) : List (Int × Int) := (List.range x.i).map (x.edge s)
def LM.mach (x : LM) : Mach := ⟨x.i, x.o, false, (List.range x.n).map fun s => (false, x.row s)⟩

theorem LM.bounds {x : LM} (h : x.Ok) : 1 ≤ x.n ∧ x.n ≤ 6 ∧ 1 ≤ x.i ∧ x.i ≤ 3 ∧ 1 ≤ x.o ∧ x.o ≤ 3 ∧ (x.n : Int) = 1 + x.st % 6 ∧ (x.i : Int) = 1 + x.ins % 3 := by
  have h1 := h.st
  have h2 := h.ins
  have h3 := h.outs
  unfold LM.n LM.i LM.o
  omega
theorem LM.v_ok {x : LM} (h : x.Ok) (s i : Nat) : 0 ≤ x.v s i ∧ x.v s i < 65536 := by
  unfold LM.v
  cases he : x.es[s * x.i + i]? with
  | none => simp
  | some e => exact h.es e (List.mem_of_getElem? he)

theorem mOf_is {x : LM} (h : x.Ok) : PureIs prog 12 [.ag x.cells] (.ag x.mach.cells) := by
  refine PureIs.of (nv := 10) (hid := [28, 34, 47, 60]) func12 rfl (by kernel_rfl) (by simp [ntmps12]) fun _ => ?_
  rw [ntmps12, results12]
  obtain ⟨b1, b2, b3, b4, b5, b6, b7, b8⟩ := LM.bounds h
  have h1 := h.st
  have h2 := h.ins
  have h3 := h.outs
  have hI1 : inI64 (x.st % 6) = true := inI64_of (by omega) (by omega)
  have hI2 : inI64 (x.ins % 3) = true := inI64_of (by omega) (by omega)
  have hI3 : inI64 (x.outs % 3) = true := inI64_of (by omega) (by omega)
  have hI4 : inI64 (1 + x.st % 6) = true := inI64_of (by omega) (by omega)
  have hI5 : inI64 (1 + x.ins % 3) = true := inI64_of (by omega) (by omega)
  have hI6 : inI64 (1 + x.outs % 3) = true := inI64_of (by omega) (by omega)
  refine EvC.seq (EvC.rg (by (simp only [go_sem, Nat.reduceLT, Nat.reduceLeDiff, Nat.reduceEqDiff, Nat.reduceAdd, Nat.reduceSub, Nat.reduceMul, Nat.reduceBEq, Int.reduceToNat, Int.reduceEq, Int.reduceLT, Int.reduceLE, Int.reduceAdd, ↓reduceIte, reduceCtorEq, LM.cells]) <;> rfl) (by simp) ?_)  -- R0
  refine EvC.frzB 0 (by (simp only [go_sem, Nat.reduceLT, Nat.reduceLeDiff, Nat.reduceEqDiff, Nat.reduceAdd, Nat.reduceSub, Nat.reduceMul, Nat.reduceBEq, Int.reduceToNat, Int.reduceEq, Int.reduceLT, Int.reduceLE, Int.reduceAdd, ↓reduceIte, reduceCtorEq]) <;> rfl) ?_
  refine EvC.seq (EvC.rg (by (simp only [go_sem, Nat.reduceLT, Nat.reduceLeDiff, Nat.reduceEqDiff, Nat.reduceAdd, Nat.reduceSub, Nat.reduceMul, Nat.reduceBEq, Int.reduceToNat, Int.reduceEq, Int.reduceLT, Int.reduceLE, Int.reduceAdd, ↓reduceIte, reduceCtorEq]) <;> rfl) (by simp [hI1, hI4, h1]) ?_)  -- R1
  refine EvC.seq (EvC.rg (by (simp only [go_sem, Nat.reduceLT, Nat.reduceLeDiff, Nat.reduceEqDiff, Nat.reduceAdd, Nat.reduceSub, Nat.reduceMul, Nat.reduceBEq, Int.reduceToNat, Int.reduceEq, Int.reduceLT, Int.reduceLE, Int.reduceAdd, ↓reduceIte, reduceCtorEq]) <;> rfl) (by simp [hI2, hI3, hI5, hI6, h2, h3]) ?_)  -- R2
  refine EvC.seq ?_
  refine EvC.seq (EvC.rg (by (simp only [go_sem, Nat.reduceLT, Nat.reduceLeDiff, Nat.reduceEqDiff, Nat.reduceAdd, Nat.reduceSub, Nat.reduceMul, Nat.reduceBEq, Int.reduceToNat, Int.reduceEq, Int.reduceLT, Int.reduceLE, Int.reduceAdd, ↓reduceIte, reduceCtorEq]) <;> rfl) (by simp) ?_)  -- R3
  refine EvC.block ?_  -- 0
  have hmem : ∀ {s : Nat}, (fun s => ((false, x.row s) : Row)) s = (false, x.row s) := fun {_} => rfl
  have hO : x.o = 1 + x.outs % 3 := rfl
  refine EvC.ownC 19 2 1 (by (simp only [go_sem, Nat.reduceLT, Nat.reduceLeDiff, Nat.reduceEqDiff, Nat.reduceAdd, Nat.reduceSub, Nat.reduceMul, Nat.reduceBEq, Int.reduceToNat, Int.reduceEq, Int.reduceLT, Int.reduceLE, Int.reduceAdd, ↓reduceIte, reduceCtorEq]) <;> rfl) ?_
  refine EvC.loopS (σ := Nat) (fun s => ⟨[(1, .ia x.cells), (2, .rf 0 0), (3, .sc (.int .i64 x.n)), (4, .rf 1 0), (5, .sc (.int .i64 s))], [],
      [(0, .cells [.sc (.int .i64 0), .sc (.int .i64 0), .sl true [] .zer]), (1, .cells [.sc (.int .i64 x.i), .sc (.int .i64 x.o), .tl 2 s (s == 0)]), (2, .arr 1 (((List.range s).map x.row).map rowF) true)], 3⟩) (fun s => x.n - s)
    (fun s => s ≤ x.n) [1, 2, 3, 4, 5] 3 ?_ ?_
  · exact ⟨[(1, 0), (19, 1), (22, 2)], 0, rfl, (by (simp only [go_sem, Nat.reduceLT, Nat.reduceLeDiff, Nat.reduceEqDiff, Nat.reduceAdd, Nat.reduceSub, Nat.reduceMul, Nat.reduceBEq, Int.reduceToNat, Int.reduceEq, Int.reduceLT, Int.reduceLE, Int.reduceAdd, ↓reduceIte, reduceCtorEq, LM.cells, ← b7, ← b8, ← hO, List.range_zero]) <;> rfl), Nat.zero_le _⟩
  intro s hs
  have hls : (((List.range s).map x.row).map rowF).length = s := by simp
  refine EvC.seq ?_
  refine EvC.seq (EvC.rg (by (simp only [go_sem, Nat.reduceLT, Nat.reduceLeDiff, Nat.reduceEqDiff, Nat.reduceAdd, Nat.reduceSub, Nat.reduceMul, Nat.reduceBEq, Int.reduceToNat, Int.reduceEq, Int.reduceLT, Int.reduceLE, Int.reduceAdd, ↓reduceIte, reduceCtorEq]) <;> rfl) (by simp) ?_)  -- R4
  refine EvC.cond (by (simp only [go_sem, Nat.reduceLT, Nat.reduceLeDiff, Nat.reduceEqDiff, Nat.reduceAdd, Nat.reduceSub, Nat.reduceMul, Nat.reduceBEq, Int.reduceToNat, Int.reduceEq, Int.reduceLT, Int.reduceLE, Int.reduceAdd, ↓reduceIte, reduceCtorEq]) <;> rfl) (fun hc => ?_) (fun hc => ?_)
  rotate_left
  · refine EvC.exit ?_  -- 0
    have hc : ¬ s < x.n := by simpa using hc
    obtain rfl : s = x.n := by omega
    refine EvC.frzD 2 (by (simp only [go_sem, Nat.reduceLT, Nat.reduceLeDiff, Nat.reduceEqDiff, Nat.reduceAdd, Nat.reduceSub, Nat.reduceMul, Nat.reduceBEq, Int.reduceToNat, Int.reduceEq, Int.reduceLT, Int.reduceLE, Int.reduceAdd, ↓reduceIte, reduceCtorEq, hls]) <;> rfl) ?_
    refine EvC.seq (EvC.rg (by (simp only [go_sem, Nat.reduceLT, Nat.reduceLeDiff, Nat.reduceEqDiff, Nat.reduceAdd, Nat.reduceSub, Nat.reduceMul, Nat.reduceBEq, Int.reduceToNat, Int.reduceEq, Int.reduceLT, Int.reduceLE, Int.reduceAdd, ↓reduceIte, reduceCtorEq]) <;> rfl) (by simp) ?_)  -- R18
    refine EvC.ret ⟨.inl rfl, _, (by (simp only [go_sem, Nat.reduceLT, Nat.reduceLeDiff, Nat.reduceEqDiff, Nat.reduceAdd, Nat.reduceSub, Nat.reduceMul, Nat.reduceBEq, Int.reduceToNat, Int.reduceEq, Int.reduceLT, Int.reduceLE, Int.reduceAdd, ↓reduceIte, reduceCtorEq]) <;> rfl), ?_, rfl⟩
    simp only [go_sem, Nat.reduceLT, Nat.reduceLeDiff, Nat.reduceEqDiff, Nat.reduceAdd, Nat.reduceSub, Nat.reduceMul, Nat.reduceBEq, Int.reduceToNat, Int.reduceEq, Int.reduceLT, Int.reduceLE, Int.reduceAdd, ↓reduceIte, reduceCtorEq]
    have hne : (x.n == 0) = false := by simp; omega
    simp only [Mach.cells, LM.mach, hne]
    rw [List.map_map, List.map_map]
    rfl
  have hc : s < x.n := by simpa using hc
  refine EvC.skip ?_
  refine EvC.seq ?_
  refine EvC.block ?_  -- 1
  refine EvC.seq (EvC.rg (by (simp only [go_sem, Nat.reduceLT, Nat.reduceLeDiff, Nat.reduceEqDiff, Nat.reduceAdd, Nat.reduceSub, Nat.reduceMul, Nat.reduceBEq, Int.reduceToNat, Int.reduceEq, Int.reduceLT, Int.reduceLE, Int.reduceAdd, ↓reduceIte, reduceCtorEq]) <;> rfl) (by simp) ?_)  -- R6
  refine EvC.seq ?_
  refine EvC.seq (EvC.rg (by (simp only [go_sem, Nat.reduceLT, Nat.reduceLeDiff, Nat.reduceEqDiff, Nat.reduceAdd, Nat.reduceSub, Nat.reduceMul, Nat.reduceBEq, Int.reduceToNat, Int.reduceEq, Int.reduceLT, Int.reduceLE, Int.reduceAdd, ↓reduceIte, reduceCtorEq]) <;> rfl) (by simp) ?_)  -- R7
  refine EvC.block ?_  -- 2
  refine EvC.loopS (σ := Nat) (fun i => ⟨[(1, .ia x.cells), (2, .rf 0 0), (3, .sc (.int .i64 x.n)), (4, .rf 1 0), (5, .sc (.int .i64 s)), (6, .tl 3 i (i == 0)), (7, .sc (.int .i64 i))], [],
      [(0, .cells [.sc (.int .i64 0), .sc (.int .i64 0), .sl true [] .zer]), (1, .cells [.sc (.int .i64 x.i), .sc (.int .i64 x.o), .tl 2 s (s == 0)]), (2, .arr 1 (((List.range s).map x.row).map rowF) true),
       (3, .arr 2 (((List.range i).map (x.edge s)).map edgeC) true)], 4⟩) (fun i => x.i - i)
    (fun i => i ≤ x.i) [1, 2, 3, 4, 5, 6, 7] 4 ?_ ?_
  · exact ⟨[(0, 0), (1, 1), (2, 2), (6, 3)], 0, rfl, (by (simp only [go_sem, Nat.reduceLT, Nat.reduceLeDiff, Nat.reduceEqDiff, Nat.reduceAdd, Nat.reduceSub, Nat.reduceMul, Nat.reduceBEq, Int.reduceToNat, Int.reduceEq, Int.reduceLT, Int.reduceLE, Int.reduceAdd, ↓reduceIte, reduceCtorEq, List.range_zero]) <;> rfl), Nat.zero_le _⟩
  intro i hi
  have hli : (((List.range i).map (x.edge s)).map edgeC).length = i := by simp
  refine EvC.seq ?_
  refine EvC.seq (EvC.rg (by (simp only [go_sem, Nat.reduceLT, Nat.reduceLeDiff, Nat.reduceEqDiff, Nat.reduceAdd, Nat.reduceSub, Nat.reduceMul, Nat.reduceBEq, Int.reduceToNat, Int.reduceEq, Int.reduceLT, Int.reduceLE, Int.reduceAdd, ↓reduceIte, reduceCtorEq]) <;> rfl) (by simp) ?_)  -- R8
  refine EvC.cond (by (simp only [go_sem, Nat.reduceLT, Nat.reduceLeDiff, Nat.reduceEqDiff, Nat.reduceAdd, Nat.reduceSub, Nat.reduceMul, Nat.reduceBEq, Int.reduceToNat, Int.reduceEq, Int.reduceLT, Int.reduceLE, Int.reduceAdd, ↓reduceIte, reduceCtorEq]) <;> rfl) (fun hc => ?_) (fun hc => ?_)
  rotate_left
  · refine EvC.exit ?_  -- 2
    have hc : ¬ i < x.i := by simpa using hc
    obtain rfl : i = x.i := by omega
    have hne : (x.i == 0) = false := by simp; omega
    refine EvC.frz 3 (by (simp only [go_sem, Nat.reduceLT, Nat.reduceLeDiff, Nat.reduceEqDiff, Nat.reduceAdd, Nat.reduceSub, Nat.reduceMul, Nat.reduceBEq, Int.reduceToNat, Int.reduceEq, Int.reduceLT, Int.reduceLE, Int.reduceAdd, ↓reduceIte, reduceCtorEq, hli, hne]) <;> rfl) ?_
    refine EvC.rg (by (simp only [go_sem, Nat.reduceLT, Nat.reduceLeDiff, Nat.reduceEqDiff, Nat.reduceAdd, Nat.reduceSub, Nat.reduceMul, Nat.reduceBEq, Int.reduceToNat, Int.reduceEq, Int.reduceLT, Int.reduceLE, Int.reduceAdd, ↓reduceIte, reduceCtorEq]) <;> rfl) (by simp [room_eq, AV.norefs, AV.noref, hls]; omega) ?_  -- R17
    refine EvC.rg (by (simp only [go_sem, Nat.reduceLT, Nat.reduceLeDiff, Nat.reduceEqDiff, Nat.reduceAdd, Nat.reduceSub, Nat.reduceMul, Nat.reduceBEq, Int.reduceToNat, Int.reduceEq, Int.reduceLT, Int.reduceLE, Int.reduceAdd, ↓reduceIte, reduceCtorEq]) <;> rfl) (inI64_of (by omega) (by omega)) ?_  -- R5
    refine ⟨[(0, 0), (1, 1), (2, 2)], s + 1, rfl, ?_, by omega, by omega⟩
    have hs0 : (s + 1 == 0) = false := rfl
    (simp only [go_sem, Nat.reduceLT, Nat.reduceLeDiff, Nat.reduceEqDiff, Nat.reduceAdd, Nat.reduceSub, Nat.reduceMul, Nat.reduceBEq, Int.reduceToNat, Int.reduceEq, Int.reduceLT, Int.reduceLE, Int.reduceAdd, ↓reduceIte, reduceCtorEq, hs0, List.range_succ, rowF, rowC, LM.row, List.length_map, List.length_range]) <;> rfl
  have hc : i < x.i := by simpa using hc
  have hv := LM.v_ok h s i
  have hsi : (0 : Int) ≤ (s : Int) * x.i := Int.mul_nonneg (by omega) (by omega)
  have hsi2 : (s : Int) * x.i ≤ 18 := by
    have : s * x.i ≤ 6 * 3 := Nat.mul_le_mul (by omega) (by omega)
    have := Int.ofNat_le.2 this
    simpa using this
  have hk : ((s * x.i + i : Nat) : Int) = (s : Int) * x.i + i := by simp
  have hkn : ((s : Int) * x.i + i).toNat = s * x.i + i := by omega
  have hIm : inI64 ((s : Int) * x.i) = true := inI64_of (by omega) (by omega)
  have hIk : inI64 ((s : Int) * x.i + i) = true := inI64_of (by omega) (by omega)
  have hIi : inI64 ((i : Int) + 1) = true := inI64_of (by omega) (by omega)
  have hIv : inI64 (x.v s i) = true := inI64_of (by omega) (by omega)
  refine EvC.skip ?_
  refine EvC.seq ?_
  refine EvC.block ?_  -- 3
  refine EvC.seq (EvC.rg (by (simp only [go_sem, Nat.reduceLT, Nat.reduceLeDiff, Nat.reduceEqDiff, Nat.reduceAdd, Nat.reduceSub, Nat.reduceMul, Nat.reduceBEq, Int.reduceToNat, Int.reduceEq, Int.reduceLT, Int.reduceLE, Int.reduceAdd, ↓reduceIte, reduceCtorEq]) <;> rfl) (by simp) ?_)  -- R10
  refine EvC.seq ?_
  refine EvC.seq (EvC.rg (by (simp only [go_sem, Nat.reduceLT, Nat.reduceLeDiff, Nat.reduceEqDiff, Nat.reduceAdd, Nat.reduceSub, Nat.reduceMul, Nat.reduceBEq, Int.reduceToNat, Int.reduceEq, Int.reduceLT, Int.reduceLE, Int.reduceAdd, ↓reduceIte, reduceCtorEq]) <;> rfl) (by simp [hIm, hIk]) ?_)  -- R11
  refine EvC.seq (EvC.rg (by (simp only [go_sem, Nat.reduceLT, Nat.reduceLeDiff, Nat.reduceEqDiff, Nat.reduceAdd, Nat.reduceSub, Nat.reduceMul, Nat.reduceBEq, Int.reduceToNat, Int.reduceEq, Int.reduceLT, Int.reduceLE, Int.reduceAdd, ↓reduceIte, reduceCtorEq, LM.cells]) <;> rfl) (by simp) ?_)  -- R12
  refine EvC.cond (by (simp only [go_sem, Nat.reduceLT, Nat.reduceLeDiff, Nat.reduceEqDiff, Nat.reduceAdd, Nat.reduceSub, Nat.reduceMul, Nat.reduceBEq, Int.reduceToNat, Int.reduceEq, Int.reduceLT, Int.reduceLE, Int.reduceAdd, ↓reduceIte, reduceCtorEq]) <;> rfl) (fun hc => ?_) (fun hc => ?_)
  · have hkl : s * x.i + i < x.es.length := by
      have : (s : Int) * x.i + i < x.es.length := by simpa using hc
      omega
    have hev : x.es[s * x.i + i]? = some (x.v s i) := by
      unfold LM.v
      rw [List.getElem?_eq_getElem hkl]; rfl
    refine EvC.rg (by (simp only [go_sem, Nat.reduceLT, Nat.reduceLeDiff, Nat.reduceEqDiff, Nat.reduceAdd, Nat.reduceSub, Nat.reduceMul, Nat.reduceBEq, Int.reduceToNat, Int.reduceEq, Int.reduceLT, Int.reduceLE, Int.reduceAdd, ↓reduceIte, reduceCtorEq, LM.cells, hkn, hev, u16C]) <;> rfl) (by simp [hIv]; omega) ?_  -- R13
    apply EvC.seq  -- R14
    apply EvC.trd
    · (simp only [go_sem, Nat.reduceLT, Nat.reduceLeDiff, Nat.reduceEqDiff, Nat.reduceAdd, Nat.reduceSub, Nat.reduceMul, Nat.reduceBEq, Int.reduceToNat, Int.reduceEq, Int.reduceLT, Int.reduceLE, Int.reduceAdd, ↓reduceIte, reduceCtorEq, LM.cells]) <;> rfl
    · simp [hv.1]
    have hi0 : (i + 1 == 0) = false := rfl
    refine EvC.cond (by (simp only [go_sem, Nat.reduceLT, Nat.reduceLeDiff, Nat.reduceEqDiff, Nat.reduceAdd, Nat.reduceSub, Nat.reduceMul, Nat.reduceBEq, Int.reduceToNat, Int.reduceEq, Int.reduceLT, Int.reduceLE, Int.reduceAdd, ↓reduceIte, reduceCtorEq]) <;> rfl) (fun hp => ?_) (fun hp => ?_)
    · have hp : x.part = true ∧ x.v s i % 4 = 3 := by
        by_cases h1 : x.part = true
        · simp [h1] at hp; exact ⟨h1, hp⟩
        · simp [h1] at hp
      have he : x.edge s i = (-1, -1) := if_pos hp
      refine EvC.rg (by (simp only [go_sem, Nat.reduceLT, Nat.reduceLeDiff, Nat.reduceEqDiff, Nat.reduceAdd, Nat.reduceSub, Nat.reduceMul, Nat.reduceBEq, Int.reduceToNat, Int.reduceEq, Int.reduceLT, Int.reduceLE, Int.reduceAdd, ↓reduceIte, reduceCtorEq]) <;> rfl) (by simp [room_eq, AV.norefs, AV.noref]; omega) ?_  -- R15
      refine EvC.rg (by (simp only [go_sem, Nat.reduceLT, Nat.reduceLeDiff, Nat.reduceEqDiff, Nat.reduceAdd, Nat.reduceSub, Nat.reduceMul, Nat.reduceBEq, Int.reduceToNat, Int.reduceEq, Int.reduceLT, Int.reduceLE, Int.reduceAdd, ↓reduceIte, reduceCtorEq]) <;> rfl) hIi ?_  -- R9
      refine ⟨[(0, 0), (1, 1), (2, 2), (3, 3)], i + 1, rfl, ?_, by omega, by omega⟩
      (simp only [go_sem, Nat.reduceLT, Nat.reduceLeDiff, Nat.reduceEqDiff, Nat.reduceAdd, Nat.reduceSub, Nat.reduceMul, Nat.reduceBEq, Int.reduceToNat, Int.reduceEq, Int.reduceLT, Int.reduceLE, Int.reduceAdd, ↓reduceIte, reduceCtorEq, hi0, List.range_succ, he, edgeC, List.length_map, List.length_range]) <;> rfl
    · have hp : ¬ (x.part = true ∧ x.v s i % 4 = 3) := by
        rintro ⟨h1, h2⟩
        simp [h1, h2] at hp
      have he : x.edge s i = (x.v s i / 4 % x.n, x.v s i / 4 / x.n % x.o) := if_neg hp
      have hq1 : 0 ≤ x.v s i / 4 := Int.ediv_nonneg hv.1 (by omega)
      have hq2 : 0 ≤ x.v s i / 4 / x.n := Int.ediv_nonneg hq1 (by omega)
      have hq3 : x.v s i / 4 ≤ 65536 := by omega
      have hq4 : x.v s i / 4 / x.n ≤ x.v s i / 4 := Int.ediv_le_self _ hq1
      have hIq1 : inI64 (x.v s i / 4) = true := inI64_of (by omega) (by omega)
      have hIq2 : inI64 (x.v s i / 4 / x.n) = true := inI64_of (by omega) (by omega)
      apply EvC.drd mixed  -- R16
      · (simp only [go_sem, Nat.reduceLT, Nat.reduceLeDiff, Nat.reduceEqDiff, Nat.reduceAdd, Nat.reduceSub, Nat.reduceMul, Nat.reduceBEq, Int.reduceToNat, Int.reduceEq, Int.reduceLT, Int.reduceLE, Int.reduceAdd, ↓reduceIte, reduceCtorEq]) <;> rfl
      · simp [room_eq, AV.norefs, AV.noref, hv.1, hq1, hq2, hIq1, hIq2]; omega
      · kernel_rfl
      refine EvC.rg (by (simp only [go_sem, Nat.reduceLT, Nat.reduceLeDiff, Nat.reduceEqDiff, Nat.reduceAdd, Nat.reduceSub, Nat.reduceMul, Nat.reduceBEq, Int.reduceToNat, Int.reduceEq, Int.reduceLT, Int.reduceLE, Int.reduceAdd, ↓reduceIte, reduceCtorEq]) <;> rfl) hIi ?_  -- R9
      refine ⟨[(0, 0), (1, 1), (2, 2), (3, 3)], i + 1, rfl, ?_, by omega, by omega⟩
      (simp only [go_sem, Nat.reduceLT, Nat.reduceLeDiff, Nat.reduceEqDiff, Nat.reduceAdd, Nat.reduceSub, Nat.reduceMul, Nat.reduceBEq, Int.reduceToNat, Int.reduceEq, Int.reduceLT, Int.reduceLE, Int.reduceAdd, ↓reduceIte, reduceCtorEq, hi0, List.range_succ, he, edgeC, List.length_map, List.length_range]) <;> rfl
  · have hkl : ¬ s * x.i + i < x.es.length := by
      have : ¬ (s : Int) * x.i + i < x.es.length := by simpa using hc
      omega
    have hev : x.v s i = 0 := by
      unfold LM.v
      rw [List.getElem?_eq_none (by omega)]; rfl
    refine EvC.skip ?_
    rw [← hev]
    apply EvC.seq  -- R14
    apply EvC.trd
    · (simp only [go_sem, Nat.reduceLT, Nat.reduceLeDiff, Nat.reduceEqDiff, Nat.reduceAdd, Nat.reduceSub, Nat.reduceMul, Nat.reduceBEq, Int.reduceToNat, Int.reduceEq, Int.reduceLT, Int.reduceLE, Int.reduceAdd, ↓reduceIte, reduceCtorEq, LM.cells]) <;> rfl
    · simp [hv.1]
    have hi0 : (i + 1 == 0) = false := rfl
    refine EvC.cond (by (simp only [go_sem, Nat.reduceLT, Nat.reduceLeDiff, Nat.reduceEqDiff, Nat.reduceAdd, Nat.reduceSub, Nat.reduceMul, Nat.reduceBEq, Int.reduceToNat, Int.reduceEq, Int.reduceLT, Int.reduceLE, Int.reduceAdd, ↓reduceIte, reduceCtorEq]) <;> rfl) (fun hp => ?_) (fun hp => ?_)
    · have hp : x.part = true ∧ x.v s i % 4 = 3 := by
        by_cases h1 : x.part = true
        · simp [h1] at hp; exact ⟨h1, hp⟩
        · simp [h1] at hp
      have he : x.edge s i = (-1, -1) := if_pos hp
      refine EvC.rg (by (simp only [go_sem, Nat.reduceLT, Nat.reduceLeDiff, Nat.reduceEqDiff, Nat.reduceAdd, Nat.reduceSub, Nat.reduceMul, Nat.reduceBEq, Int.reduceToNat, Int.reduceEq, Int.reduceLT, Int.reduceLE, Int.reduceAdd, ↓reduceIte, reduceCtorEq]) <;> rfl) (by simp [room_eq, AV.norefs, AV.noref]; omega) ?_  -- R15
      refine EvC.rg (by (simp only [go_sem, Nat.reduceLT, Nat.reduceLeDiff, Nat.reduceEqDiff, Nat.reduceAdd, Nat.reduceSub, Nat.reduceMul, Nat.reduceBEq, Int.reduceToNat, Int.reduceEq, Int.reduceLT, Int.reduceLE, Int.reduceAdd, ↓reduceIte, reduceCtorEq]) <;> rfl) hIi ?_  -- R9
      refine ⟨[(0, 0), (1, 1), (2, 2), (3, 3)], i + 1, rfl, ?_, by omega, by omega⟩
      (simp only [go_sem, Nat.reduceLT, Nat.reduceLeDiff, Nat.reduceEqDiff, Nat.reduceAdd, Nat.reduceSub, Nat.reduceMul, Nat.reduceBEq, Int.reduceToNat, Int.reduceEq, Int.reduceLT, Int.reduceLE, Int.reduceAdd, ↓reduceIte, reduceCtorEq, hi0, List.range_succ, he, edgeC, List.length_map, List.length_range]) <;> rfl
    · have hp : ¬ (x.part = true ∧ x.v s i % 4 = 3) := by
        rintro ⟨h1, h2⟩
        simp [h1, h2] at hp
      have he : x.edge s i = (x.v s i / 4 % x.n, x.v s i / 4 / x.n % x.o) := if_neg hp
      have hq1 : 0 ≤ x.v s i / 4 := Int.ediv_nonneg hv.1 (by omega)
      have hq2 : 0 ≤ x.v s i / 4 / x.n := Int.ediv_nonneg hq1 (by omega)
      have hq3 : x.v s i / 4 ≤ 65536 := by omega
      have hq4 : x.v s i / 4 / x.n ≤ x.v s i / 4 := Int.ediv_le_self _ hq1
      have hIq1 : inI64 (x.v s i / 4) = true := inI64_of (by omega) (by omega)
      have hIq2 : inI64 (x.v s i / 4 / x.n) = true := inI64_of (by omega) (by omega)
      apply EvC.drd mixed  -- R16
      · (simp only [go_sem, Nat.reduceLT, Nat.reduceLeDiff, Nat.reduceEqDiff, Nat.reduceAdd, Nat.reduceSub, Nat.reduceMul, Nat.reduceBEq, Int.reduceToNat, Int.reduceEq, Int.reduceLT, Int.reduceLE, Int.reduceAdd, ↓reduceIte, reduceCtorEq]) <;> rfl
      · simp [room_eq, AV.norefs, AV.noref, hv.1, hq1, hq2, hIq1, hIq2]; omega
      · kernel_rfl
      refine EvC.rg (by (simp only [go_sem, Nat.reduceLT, Nat.reduceLeDiff, Nat.reduceEqDiff, Nat.reduceAdd, Nat.reduceSub, Nat.reduceMul, Nat.reduceBEq, Int.reduceToNat, Int.reduceEq, Int.reduceLT, Int.reduceLE, Int.reduceAdd, ↓reduceIte, reduceCtorEq]) <;> rfl) hIi ?_  -- R9
      refine ⟨[(0, 0), (1, 1), (2, 2), (3, 3)], i + 1, rfl, ?_, by omega, by omega⟩
      (simp only [go_sem, Nat.reduceLT, Nat.reduceLeDiff, Nat.reduceEqDiff, Nat.reduceAdd, Nat.reduceSub, Nat.reduceMul, Nat.reduceBEq, Int.reduceToNat, Int.reduceEq, Int.reduceLT, Int.reduceLE, Int.reduceAdd, ↓reduceIte, reduceCtorEq, hi0, List.range_succ, he, edgeC, List.length_map, List.length_range]) <;> rfl
end Go.Avl
namespace Go.Avl
open Go Go.Proofs.Try
set_option maxRecDepth 10000
set_option linter.unusedSimpArgs false

def fdiff : List Int → List Int → Int
  | x :: xs, y :: ys => if x < y then -1 else if y < x then 1 else fdiff xs ys
  | _, _ => 0
def cmpW (a b : List Int) : Int := if a.length < b.length then -1 else if b.length < a.length then 1 else fdiff a b
theorem fdiff_zero : ∀ {a b : List Int}, a.length = b.length → (fdiff a b = 0 ↔ a = b)
  | [], [], _ => by simp [fdiff]
  | x :: xs, y :: ys, h => by
    have := fdiff_zero (a := xs) (b := ys) (by simpa using h)
    unfold fdiff
    split
    · rename_i h1
      constructor
      · intro h; cases h
      · intro h; cases h; omega
    · split
      · constructor
        · intro h; cases h
        · intro h; cases h; omega
      · rw [this]
        have : x = y := by omega
        simp [this]
theorem cmpW_zero {a b : List Int} : cmpW a b = 0 ↔ a = b := by
  unfold cmpW
  split
  · rename_i h
    constructor
    · intro h; cases h
    · rintro rfl; omega
  · split
    · constructor
      · intro h; cases h
      · rintro rfl; omega
    · exact fdiff_zero (by omega)
theorem compare_is (na : Bool) (a : List Int) (ca : Cp) (nb : Bool) (b : List Int) (cb : Cp) (hl : a.length < 1000000) : PureIs prog 52 [.sl na (a.map intC) ca, .sl nb (b.map intC) cb] (.sc (.int .i64 (cmpW a b))) := by
  refine PureIs.of (nv := 2) (hid := [4, 5, 10, 15, 19, 30, 39]) func52 rfl (by kernel_rfl) (by simp [ntmps52]) fun _ => ?_
  rw [ntmps52, results52]
  refine EvC.seq (EvC.rg (by (simp only [go_sem, Nat.reduceLT, Nat.reduceLeDiff, Nat.reduceEqDiff, Nat.reduceAdd, Nat.reduceSub, Nat.reduceMul, Nat.reduceBEq, Int.reduceToNat, Int.reduceEq, Int.reduceLT, Int.reduceLE, Int.reduceAdd, ↓reduceIte, reduceCtorEq]) <;> rfl) (by simp) ?_)
  refine EvC.seq ?_
  refine EvC.seq (EvC.rg (by (simp only [go_sem, Nat.reduceLT, Nat.reduceLeDiff, Nat.reduceEqDiff, Nat.reduceAdd, Nat.reduceSub, Nat.reduceMul, Nat.reduceBEq, Int.reduceToNat, Int.reduceEq, Int.reduceLT, Int.reduceLE, Int.reduceAdd, ↓reduceIte, reduceCtorEq]) <;> rfl) (by simp) ?_)
  refine EvC.cond (by (simp only [go_sem, Nat.reduceLT, Nat.reduceLeDiff, Nat.reduceEqDiff, Nat.reduceAdd, Nat.reduceSub, Nat.reduceMul, Nat.reduceBEq, Int.reduceToNat, Int.reduceEq, Int.reduceLT, Int.reduceLE, Int.reduceAdd, ↓reduceIte, reduceCtorEq]) <;> rfl) (fun hc => ?_) (fun hc => ?_)
  · have hc : a.length < b.length := by have : (a.length : Int) < b.length := by simpa using hc
                                        omega
    refine EvC.seq (EvC.rg (by (simp only [go_sem, Nat.reduceLT, Nat.reduceLeDiff, Nat.reduceEqDiff, Nat.reduceAdd, Nat.reduceSub, Nat.reduceMul, Nat.reduceBEq, Int.reduceToNat, Int.reduceEq, Int.reduceLT, Int.reduceLE, Int.reduceAdd, ↓reduceIte, reduceCtorEq]) <;> rfl) (by simp) ?_)
    refine EvC.ret ⟨.inl rfl, _, (by (simp only [go_sem, Nat.reduceLT, Nat.reduceLeDiff, Nat.reduceEqDiff, Nat.reduceAdd, Nat.reduceSub, Nat.reduceMul, Nat.reduceBEq, Int.reduceToNat, Int.reduceEq, Int.reduceLT, Int.reduceLE, Int.reduceAdd, ↓reduceIte, reduceCtorEq]) <;> rfl), ?_, rfl⟩
    simp only [go_sem, Nat.reduceLT, Nat.reduceLeDiff, Nat.reduceEqDiff, Nat.reduceAdd, Nat.reduceSub, Nat.reduceMul, Nat.reduceBEq, Int.reduceToNat, Int.reduceEq, Int.reduceLT, Int.reduceLE, Int.reduceAdd, ↓reduceIte, reduceCtorEq]
    rw [cmpW, if_pos hc]
  have h1 : ¬ a.length < b.length := by have : ¬ (a.length : Int) < b.length := by simpa using hc
                                        omega
  clear hc
  refine EvC.skip ?_
  refine EvC.seq ?_
  refine EvC.seq (EvC.rg (by (simp only [go_sem, Nat.reduceLT, Nat.reduceLeDiff, Nat.reduceEqDiff, Nat.reduceAdd, Nat.reduceSub, Nat.reduceMul, Nat.reduceBEq, Int.reduceToNat, Int.reduceEq, Int.reduceLT, Int.reduceLE, Int.reduceAdd, ↓reduceIte, reduceCtorEq]) <;> rfl) (by simp) ?_)
  refine EvC.cond (by (simp only [go_sem, Nat.reduceLT, Nat.reduceLeDiff, Nat.reduceEqDiff, Nat.reduceAdd, Nat.reduceSub, Nat.reduceMul, Nat.reduceBEq, Int.reduceToNat, Int.reduceEq, Int.reduceLT, Int.reduceLE, Int.reduceAdd, ↓reduceIte, reduceCtorEq]) <;> rfl) (fun hc => ?_) (fun hc => ?_)
  · have hc : b.length < a.length := by have : (b.length : Int) < a.length := by simpa using hc
                                        omega
    refine EvC.seq (EvC.rg (by (simp only [go_sem, Nat.reduceLT, Nat.reduceLeDiff, Nat.reduceEqDiff, Nat.reduceAdd, Nat.reduceSub, Nat.reduceMul, Nat.reduceBEq, Int.reduceToNat, Int.reduceEq, Int.reduceLT, Int.reduceLE, Int.reduceAdd, ↓reduceIte, reduceCtorEq]) <;> rfl) (by simp) ?_)
    refine EvC.ret ⟨.inl rfl, _, (by (simp only [go_sem, Nat.reduceLT, Nat.reduceLeDiff, Nat.reduceEqDiff, Nat.reduceAdd, Nat.reduceSub, Nat.reduceMul, Nat.reduceBEq, Int.reduceToNat, Int.reduceEq, Int.reduceLT, Int.reduceLE, Int.reduceAdd, ↓reduceIte, reduceCtorEq]) <;> rfl), ?_, rfl⟩
    simp only [go_sem, Nat.reduceLT, Nat.reduceLeDiff, Nat.reduceEqDiff, Nat.reduceAdd, Nat.reduceSub, Nat.reduceMul, Nat.reduceBEq, Int.reduceToNat, Int.reduceEq, Int.reduceLT, Int.reduceLE, Int.reduceAdd, ↓reduceIte, reduceCtorEq]
    rw [cmpW, if_neg h1, if_pos hc]
  have h2 : ¬ b.length < a.length := by have : ¬ (b.length : Int) < a.length := by simpa using hc
                                        omega
  clear hc
  have hw : cmpW a b = fdiff a b := by rw [cmpW, if_neg h1, if_neg h2]
  refine EvC.skip ?_
  refine EvC.seq ?_
  refine EvC.seq (EvC.rg (by (simp only [go_sem, Nat.reduceLT, Nat.reduceLeDiff, Nat.reduceEqDiff, Nat.reduceAdd, Nat.reduceSub, Nat.reduceMul, Nat.reduceBEq, Int.reduceToNat, Int.reduceEq, Int.reduceLT, Int.reduceLE, Int.reduceAdd, ↓reduceIte, reduceCtorEq]) <;> rfl) (by simp) ?_)
  refine EvC.block ?_  -- 0
  refine EvC.loopS (σ := Nat) (fun i => ⟨[(0, .sl na (a.map intC) ca), (1, .sl nb (b.map intC) cb), (5, .sc (.int .i64 i))], [], [], 0⟩) (fun i => a.length - i) (fun i => i ≤ a.length ∧ fdiff a b = fdiff (a.drop i) (b.drop i)) [0, 1, 5] 0 ?_ ?_
  · refine ⟨[], 0, rfl, (by (simp only [go_sem, Nat.reduceLT, Nat.reduceLeDiff, Nat.reduceEqDiff, Nat.reduceAdd, Nat.reduceSub, Nat.reduceMul, Nat.reduceBEq, Int.reduceToNat, Int.reduceEq, Int.reduceLT, Int.reduceLE, Int.reduceAdd, ↓reduceIte, reduceCtorEq]) <;> rfl), Nat.zero_le _, by simp⟩
  rintro i ⟨hi, h3⟩
  refine EvC.seq ?_
  refine EvC.seq (EvC.rg (by (simp only [go_sem, Nat.reduceLT, Nat.reduceLeDiff, Nat.reduceEqDiff, Nat.reduceAdd, Nat.reduceSub, Nat.reduceMul, Nat.reduceBEq, Int.reduceToNat, Int.reduceEq, Int.reduceLT, Int.reduceLE, Int.reduceAdd, ↓reduceIte, reduceCtorEq]) <;> rfl) (by simp) ?_)
  refine EvC.cond (by (simp only [go_sem, Nat.reduceLT, Nat.reduceLeDiff, Nat.reduceEqDiff, Nat.reduceAdd, Nat.reduceSub, Nat.reduceMul, Nat.reduceBEq, Int.reduceToNat, Int.reduceEq, Int.reduceLT, Int.reduceLE, Int.reduceAdd, ↓reduceIte, reduceCtorEq]) <;> rfl) (fun hc => ?_) (fun hc => ?_)
  rotate_left
  · refine EvC.exit ?_  -- 0
    have hi : ¬ i < a.length := by simpa using hc
    refine EvC.seq (EvC.rg (by (simp only [go_sem, Nat.reduceLT, Nat.reduceLeDiff, Nat.reduceEqDiff, Nat.reduceAdd, Nat.reduceSub, Nat.reduceMul, Nat.reduceBEq, Int.reduceToNat, Int.reduceEq, Int.reduceLT, Int.reduceLE, Int.reduceAdd, ↓reduceIte, reduceCtorEq]) <;> rfl) (by simp) ?_)
    refine EvC.ret ⟨.inl rfl, _, (by (simp only [go_sem, Nat.reduceLT, Nat.reduceLeDiff, Nat.reduceEqDiff, Nat.reduceAdd, Nat.reduceSub, Nat.reduceMul, Nat.reduceBEq, Int.reduceToNat, Int.reduceEq, Int.reduceLT, Int.reduceLE, Int.reduceAdd, ↓reduceIte, reduceCtorEq]) <;> rfl), ?_, rfl⟩
    simp only [go_sem, Nat.reduceLT, Nat.reduceLeDiff, Nat.reduceEqDiff, Nat.reduceAdd, Nat.reduceSub, Nat.reduceMul, Nat.reduceBEq, Int.reduceToNat, Int.reduceEq, Int.reduceLT, Int.reduceLE, Int.reduceAdd, ↓reduceIte, reduceCtorEq]
    rw [hw, h3, List.drop_of_length_le (by omega)]; rfl
  have hi : i < a.length := by simpa using hc
  have hi2 : i < b.length := by omega
  have ha : a[i]? = some a[i] := List.getElem?_eq_getElem hi
  have hb : b[i]? = some b[i] := List.getElem?_eq_getElem hi2
  have hda : a.drop i = a[i] :: a.drop (i + 1) := List.drop_eq_getElem_cons hi
  have hdb : b.drop i = b[i] :: b.drop (i + 1) := List.drop_eq_getElem_cons hi2
  generalize a[i] = x at ha hda
  generalize b[i] = y at hb hdb
  refine EvC.skip ?_
  refine EvC.seq ?_
  refine EvC.block ?_  -- 1
  refine EvC.seq ?_
  apply EvC.seq
  apply EvC.drd mixed
  · (simp only [go_sem, Nat.reduceLT, Nat.reduceLeDiff, Nat.reduceEqDiff, Nat.reduceAdd, Nat.reduceSub, Nat.reduceMul, Nat.reduceBEq, Int.reduceToNat, Int.reduceEq, Int.reduceLT, Int.reduceLE, Int.reduceAdd, ↓reduceIte, reduceCtorEq, ha, hb, intC]) <;> rfl
  · simp
  · kernel_rfl
  refine EvC.cond (by (simp only [go_sem, Nat.reduceLT, Nat.reduceLeDiff, Nat.reduceEqDiff, Nat.reduceAdd, Nat.reduceSub, Nat.reduceMul, Nat.reduceBEq, Int.reduceToNat, Int.reduceEq, Int.reduceLT, Int.reduceLE, Int.reduceAdd, ↓reduceIte, reduceCtorEq]) <;> rfl) (fun hc => ?_) (fun hc => ?_)
  · have hc : x < y := by simpa using hc
    refine EvC.seq (EvC.rg (by (simp only [go_sem, Nat.reduceLT, Nat.reduceLeDiff, Nat.reduceEqDiff, Nat.reduceAdd, Nat.reduceSub, Nat.reduceMul, Nat.reduceBEq, Int.reduceToNat, Int.reduceEq, Int.reduceLT, Int.reduceLE, Int.reduceAdd, ↓reduceIte, reduceCtorEq]) <;> rfl) (by simp) ?_)
    refine EvC.ret ⟨.inl rfl, _, (by (simp only [go_sem, Nat.reduceLT, Nat.reduceLeDiff, Nat.reduceEqDiff, Nat.reduceAdd, Nat.reduceSub, Nat.reduceMul, Nat.reduceBEq, Int.reduceToNat, Int.reduceEq, Int.reduceLT, Int.reduceLE, Int.reduceAdd, ↓reduceIte, reduceCtorEq]) <;> rfl), ?_, rfl⟩
    simp only [go_sem, Nat.reduceLT, Nat.reduceLeDiff, Nat.reduceEqDiff, Nat.reduceAdd, Nat.reduceSub, Nat.reduceMul, Nat.reduceBEq, Int.reduceToNat, Int.reduceEq, Int.reduceLT, Int.reduceLE, Int.reduceAdd, ↓reduceIte, reduceCtorEq]
    rw [hw, h3, hda, hdb, fdiff, if_pos hc]
  have hc1 : ¬ x < y := by simpa using hc
  refine EvC.skip ?_
  apply EvC.seq
  apply EvC.drd mixed
  · (simp only [go_sem, Nat.reduceLT, Nat.reduceLeDiff, Nat.reduceEqDiff, Nat.reduceAdd, Nat.reduceSub, Nat.reduceMul, Nat.reduceBEq, Int.reduceToNat, Int.reduceEq, Int.reduceLT, Int.reduceLE, Int.reduceAdd, ↓reduceIte, reduceCtorEq, ha, hb, intC]) <;> rfl
  · simp
  · kernel_rfl
  refine EvC.cond (by (simp only [go_sem, Nat.reduceLT, Nat.reduceLeDiff, Nat.reduceEqDiff, Nat.reduceAdd, Nat.reduceSub, Nat.reduceMul, Nat.reduceBEq, Int.reduceToNat, Int.reduceEq, Int.reduceLT, Int.reduceLE, Int.reduceAdd, ↓reduceIte, reduceCtorEq]) <;> rfl) (fun hc => ?_) (fun hc => ?_)
  · have hc : y < x := by simpa using hc
    refine EvC.seq (EvC.rg (by (simp only [go_sem, Nat.reduceLT, Nat.reduceLeDiff, Nat.reduceEqDiff, Nat.reduceAdd, Nat.reduceSub, Nat.reduceMul, Nat.reduceBEq, Int.reduceToNat, Int.reduceEq, Int.reduceLT, Int.reduceLE, Int.reduceAdd, ↓reduceIte, reduceCtorEq]) <;> rfl) (by simp) ?_)
    refine EvC.ret ⟨.inl rfl, _, (by (simp only [go_sem, Nat.reduceLT, Nat.reduceLeDiff, Nat.reduceEqDiff, Nat.reduceAdd, Nat.reduceSub, Nat.reduceMul, Nat.reduceBEq, Int.reduceToNat, Int.reduceEq, Int.reduceLT, Int.reduceLE, Int.reduceAdd, ↓reduceIte, reduceCtorEq]) <;> rfl), ?_, rfl⟩
    simp only [go_sem, Nat.reduceLT, Nat.reduceLeDiff, Nat.reduceEqDiff, Nat.reduceAdd, Nat.reduceSub, Nat.reduceMul, Nat.reduceBEq, Int.reduceToNat, Int.reduceEq, Int.reduceLT, Int.reduceLE, Int.reduceAdd, ↓reduceIte, reduceCtorEq]
    rw [hw, h3, hda, hdb, fdiff, if_neg hc1, if_pos hc]
  have hc2 : ¬ y < x := by simpa using hc
  refine EvC.skip ?_
  refine EvC.rg (by (simp only [go_sem, Nat.reduceLT, Nat.reduceLeDiff, Nat.reduceEqDiff, Nat.reduceAdd, Nat.reduceSub, Nat.reduceMul, Nat.reduceBEq, Int.reduceToNat, Int.reduceEq, Int.reduceLT, Int.reduceLE, Int.reduceAdd, ↓reduceIte, reduceCtorEq]) <;> rfl) (by exact inI64_of (by omega) (by omega)) ?_
  refine ⟨[], i + 1, rfl, (by (simp only [go_sem, Nat.reduceLT, Nat.reduceLeDiff, Nat.reduceEqDiff, Nat.reduceAdd, Nat.reduceSub, Nat.reduceMul, Nat.reduceBEq, Int.reduceToNat, Int.reduceEq, Int.reduceLT, Int.reduceLE, Int.reduceAdd, ↓reduceIte, reduceCtorEq]) <;> rfl), ⟨by omega, ?_⟩, by omega⟩
  rw [h3, hda, hdb, fdiff, if_neg hc1, if_neg hc2]
theorem same_is (na : Bool) (a : List Int) (ca : Cp) (nb : Bool) (b : List Int) (cb : Cp) (hl : a.length < 1000000) : PureIs prog 30 [.sl na (a.map intC) ca, .sl nb (b.map intC) cb] (.sc (.bool (decide (a = b)))) := by
  refine PureIs.of (nv := 2) (hid := [4]) func30 rfl (by kernel_rfl) (by simp [ntmps30]) fun _ => ?_
  rw [ntmps30, results30]
  refine EvC.seq (EvC.rg (by (simp only [go_sem, Nat.reduceLT, Nat.reduceLeDiff, Nat.reduceEqDiff, Nat.reduceAdd, Nat.reduceSub, Nat.reduceMul, Nat.reduceBEq, Int.reduceToNat, Int.reduceEq, Int.reduceLT, Int.reduceLE, Int.reduceAdd, ↓reduceIte, reduceCtorEq]) <;> rfl) (by simp) ?_)
  apply EvC.seq
  apply EvC.tr
  · apply Tr.run
    · (simp only [go_sem, Nat.reduceLT, Nat.reduceLeDiff, Nat.reduceEqDiff, Nat.reduceAdd, Nat.reduceSub, Nat.reduceMul, Nat.reduceBEq, Int.reduceToNat, Int.reduceEq, Int.reduceLT, Int.reduceLE, Int.reduceAdd, ↓reduceIte, reduceCtorEq]) <;> rfl
    · simp
    apply Tr.cons
    · exact .call rfl rfl (by (simp only [go_sem, Nat.reduceLT, Nat.reduceLeDiff, Nat.reduceEqDiff, Nat.reduceAdd, Nat.reduceSub, Nat.reduceMul, Nat.reduceBEq, Int.reduceToNat, Int.reduceEq, Int.reduceLT, Int.reduceLE, Int.reduceAdd, ↓reduceIte, reduceCtorEq]) <;> rfl) (by (simp only [go_sem, Nat.reduceLT, Nat.reduceLeDiff, Nat.reduceEqDiff, Nat.reduceAdd, Nat.reduceSub, Nat.reduceMul, Nat.reduceBEq, Int.reduceToNat, Int.reduceEq, Int.reduceLT, Int.reduceLE, Int.reduceAdd, ↓reduceIte, reduceCtorEq]) <;> rfl) (by (simp only [go_sem, Nat.reduceLT, Nat.reduceLeDiff, Nat.reduceEqDiff, Nat.reduceAdd, Nat.reduceSub, Nat.reduceMul, Nat.reduceBEq, Int.reduceToNat, Int.reduceEq, Int.reduceLT, Int.reduceLE, Int.reduceAdd, ↓reduceIte, reduceCtorEq]) <;> rfl) (by (simp only [go_sem, Nat.reduceLT, Nat.reduceLeDiff, Nat.reduceEqDiff, Nat.reduceAdd, Nat.reduceSub, Nat.reduceMul, Nat.reduceBEq, Int.reduceToNat, Int.reduceEq, Int.reduceLT, Int.reduceLE, Int.reduceAdd, ↓reduceIte, reduceCtorEq]) <;> rfl) (by (simp only [go_sem, Nat.reduceLT, Nat.reduceLeDiff, Nat.reduceEqDiff, Nat.reduceAdd, Nat.reduceSub, Nat.reduceMul, Nat.reduceBEq, Int.reduceToNat, Int.reduceEq, Int.reduceLT, Int.reduceLE, Int.reduceAdd, ↓reduceIte, reduceCtorEq]) <;> rfl) (compare_is na a ca nb b cb hl)
    apply Tr.done
    · (simp only [go_sem, Nat.reduceLT, Nat.reduceLeDiff, Nat.reduceEqDiff, Nat.reduceAdd, Nat.reduceSub, Nat.reduceMul, Nat.reduceBEq, Int.reduceToNat, Int.reduceEq, Int.reduceLT, Int.reduceLE, Int.reduceAdd, ↓reduceIte, reduceCtorEq]) <;> rfl
    · simp
  refine EvC.ret ⟨.inl rfl, _, (by (simp only [go_sem, Nat.reduceLT, Nat.reduceLeDiff, Nat.reduceEqDiff, Nat.reduceAdd, Nat.reduceSub, Nat.reduceMul, Nat.reduceBEq, Int.reduceToNat, Int.reduceEq, Int.reduceLT, Int.reduceLE, Int.reduceAdd, ↓reduceIte, reduceCtorEq]) <;> rfl), ?_, rfl⟩
  simp only [go_sem, Nat.reduceLT, Nat.reduceLeDiff, Nat.reduceEqDiff, Nat.reduceAdd, Nat.reduceSub, Nat.reduceMul, Nat.reduceBEq, Int.reduceToNat, Int.reduceEq, Int.reduceLT, Int.reduceLE, Int.reduceAdd, ↓reduceIte, reduceCtorEq]
  simp [cmpW_zero]
end Go.Avl
namespace Go.Avl
open Go Go.Proofs.Try
set_option maxRecDepth 10000
set_option linter.unusedSimpArgs false

def u8C (x : Int) : List AV := [.sc (.int .u8 x)]
@[go_sem] theorem norefs_u8 (l : List Int) : (l.map u8C).all AV.norefs = true := by simp [List.all_eq_true, u8C, AV.norefs, AV.noref]
/-- The symbols of a word's plain data. -/
def wOf (l : List Int) (n : Int) : List Int := (l.take 12).map (· % n)
theorem wOf_snoc {l : List Int} {i : Nat} {x n : Int} (h : l[i]? = some x) (hi : i < 12) : wOf (l.take (i + 1)) n = wOf (l.take i) n ++ [x % n] := by
  unfold wOf
  obtain ⟨h1, rfl⟩ := List.getElem?_eq_some_iff.1 h
  rw [List.take_take, List.take_take, Nat.min_eq_right (by omega), Nat.min_eq_right (by omega), List.take_add_one, List.getElem?_eq_getElem h1, List.map_append]
  rfl
theorem isEmpty_len {α : Type} (l : List α) : l.isEmpty = (l.length == 0) := by cases l <;> rfl
theorem wOf_is (nl : Bool) (l : List Int) (c : Cp) (n : Int) (hn : 1 ≤ n) (hl : ∀ x ∈ l, 0 ≤ x ∧ x < 256) : PureIs prog 13 [.ag [.sl nl (l.map u8C) c], .sc (.int .i64 n)] (.sl (wOf l n).isEmpty ((wOf l n).map intC) .unk) := by
  refine PureIs.of (nv := 3) (hid := [4, 5, 6, 15]) func13 rfl (by kernel_rfl) (by simp [ntmps13]) fun _ => ?_
  rw [ntmps13, results13]
  refine EvC.seq (EvC.rg (by (simp only [go_sem, Nat.reduceLT, Nat.reduceLeDiff, Nat.reduceEqDiff, Nat.reduceAdd, Nat.reduceSub, Nat.reduceMul, Nat.reduceBEq, Int.reduceToNat, Int.reduceEq, Int.reduceLT, Int.reduceLE, Int.reduceAdd, ↓reduceIte, reduceCtorEq]) <;> rfl) (by simp) ?_)
  refine EvC.frzB 0 (by (simp only [go_sem, Nat.reduceLT, Nat.reduceLeDiff, Nat.reduceEqDiff, Nat.reduceAdd, Nat.reduceSub, Nat.reduceMul, Nat.reduceBEq, Int.reduceToNat, Int.reduceEq, Int.reduceLT, Int.reduceLE, Int.reduceAdd, ↓reduceIte, reduceCtorEq]) <;> rfl) ?_
  refine EvC.seq (EvC.rg (by (simp only [go_sem, Nat.reduceLT, Nat.reduceLeDiff, Nat.reduceEqDiff, Nat.reduceAdd, Nat.reduceSub, Nat.reduceMul, Nat.reduceBEq, Int.reduceToNat, Int.reduceEq, Int.reduceLT, Int.reduceLE, Int.reduceAdd, ↓reduceIte, reduceCtorEq]) <;> rfl) (by simp) ?_)
  refine EvC.seq ?_
  refine EvC.seq (EvC.rg (by (simp only [go_sem, Nat.reduceLT, Nat.reduceLeDiff, Nat.reduceEqDiff, Nat.reduceAdd, Nat.reduceSub, Nat.reduceMul, Nat.reduceBEq, Int.reduceToNat, Int.reduceEq, Int.reduceLT, Int.reduceLE, Int.reduceAdd, ↓reduceIte, reduceCtorEq]) <;> rfl) (by simp) ?_)
  refine EvC.block ?_  -- 0
  refine EvC.loopS (σ := Nat) (fun i => ⟨[(1, .sc (.int .i64 n)), (2, .ia [.sl nl (l.map u8C) c]), (5, .tl 0 i (i == 0)), (6, .sc (.int .i64 i))], [], [(0, .arr 1 ((wOf (l.take i) n).map intC) true)], 1⟩) (fun i => l.length - i) (fun i => i ≤ l.length ∧ i ≤ 12) [1, 2, 5, 6] 1 ?_ ?_
  · refine ⟨[(2, 0)], 0, rfl, (by simp only [List.take_zero, wOf]; (simp only [go_sem, Nat.reduceLT, Nat.reduceLeDiff, Nat.reduceEqDiff, Nat.reduceAdd, Nat.reduceSub, Nat.reduceMul, Nat.reduceBEq, Int.reduceToNat, Int.reduceEq, Int.reduceLT, Int.reduceLE, Int.reduceAdd, ↓reduceIte, reduceCtorEq]) <;> rfl), Nat.zero_le _, Nat.zero_le _⟩
  rintro i ⟨h1, h2⟩
  have hlw : (wOf (l.take i) n).length = i := by simp [wOf]; omega
  have hlen : ((wOf (l.take i) n).map intC).length = i := by simp [hlw]
  refine EvC.seq ?_
  apply EvC.seq
  apply EvC.trd
  · (simp only [go_sem, Nat.reduceLT, Nat.reduceLeDiff, Nat.reduceEqDiff, Nat.reduceAdd, Nat.reduceSub, Nat.reduceMul, Nat.reduceBEq, Int.reduceToNat, Int.reduceEq, Int.reduceLT, Int.reduceLE, Int.reduceAdd, ↓reduceIte, reduceCtorEq]) <;> rfl
  · simp
  refine EvC.cond (by (simp only [go_sem, Nat.reduceLT, Nat.reduceLeDiff, Nat.reduceEqDiff, Nat.reduceAdd, Nat.reduceSub, Nat.reduceMul, Nat.reduceBEq, Int.reduceToNat, Int.reduceEq, Int.reduceLT, Int.reduceLE, Int.reduceAdd, ↓reduceIte, reduceCtorEq]) <;> rfl) (fun hc => ?_) (fun hc => ?_)
  rotate_left
  · refine EvC.exit ?_  -- 0
    have hi : i = l.length ∨ i = 12 := by
      by_cases h : (i : Int) < l.length
      · simp [h] at hc; omega
      · omega
    have hw : wOf (l.take i) n = wOf l n := by
      unfold wOf
      rcases hi with rfl | rfl
      · rw [List.take_length]
      · rw [List.take_take]; rfl
    have he : (wOf l n).isEmpty = (i == 0) := by
      rw [← hw, isEmpty_len, hlw]
    refine EvC.frz 0 (by (simp only [go_sem, Nat.reduceLT, Nat.reduceLeDiff, Nat.reduceEqDiff, Nat.reduceAdd, Nat.reduceSub, Nat.reduceMul, Nat.reduceBEq, Int.reduceToNat, Int.reduceEq, Int.reduceLT, Int.reduceLE, Int.reduceAdd, ↓reduceIte, reduceCtorEq, hlen]) <;> rfl) ?_
    refine EvC.seq (EvC.rg (by (simp only [go_sem, Nat.reduceLT, Nat.reduceLeDiff, Nat.reduceEqDiff, Nat.reduceAdd, Nat.reduceSub, Nat.reduceMul, Nat.reduceBEq, Int.reduceToNat, Int.reduceEq, Int.reduceLT, Int.reduceLE, Int.reduceAdd, ↓reduceIte, reduceCtorEq]) <;> rfl) (by simp) ?_)
    refine EvC.ret ⟨.inl rfl, _, (by (simp only [go_sem, Nat.reduceLT, Nat.reduceLeDiff, Nat.reduceEqDiff, Nat.reduceAdd, Nat.reduceSub, Nat.reduceMul, Nat.reduceBEq, Int.reduceToNat, Int.reduceEq, Int.reduceLT, Int.reduceLE, Int.reduceAdd, ↓reduceIte, reduceCtorEq]) <;> rfl), ?_, rfl⟩
    simp only [go_sem, Nat.reduceLT, Nat.reduceLeDiff, Nat.reduceEqDiff, Nat.reduceAdd, Nat.reduceSub, Nat.reduceMul, Nat.reduceBEq, Int.reduceToNat, Int.reduceEq, Int.reduceLT, Int.reduceLE, Int.reduceAdd, ↓reduceIte, reduceCtorEq]
    rw [hw, he]
  have hi : i < l.length ∧ i < 12 := by
    by_cases h : (i : Int) < l.length
    · simp [h] at hc; omega
    · simp [h] at hc
  have he : l[i]? = some l[i] := List.getElem?_eq_getElem hi.1
  have hx := hl _ (List.getElem_mem hi.1)
  generalize l[i] = x at he hx
  refine EvC.skip ?_
  refine EvC.seq ?_
  refine EvC.block ?_  -- 1
  have hI : inI64 x = true := inI64_of (by omega) (by omega)
  refine EvC.rg (by (simp only [go_sem, Nat.reduceLT, Nat.reduceLeDiff, Nat.reduceEqDiff, Nat.reduceAdd, Nat.reduceSub, Nat.reduceMul, Nat.reduceBEq, Int.reduceToNat, Int.reduceEq, Int.reduceLT, Int.reduceLE, Int.reduceAdd, ↓reduceIte, reduceCtorEq, he, u8C]) <;> rfl) (by simp [room_eq, AV.norefs, AV.noref, hI, hlw, hx.1]; omega) ?_
  refine EvC.rg (by (simp only [go_sem, Nat.reduceLT, Nat.reduceLeDiff, Nat.reduceEqDiff, Nat.reduceAdd, Nat.reduceSub, Nat.reduceMul, Nat.reduceBEq, Int.reduceToNat, Int.reduceEq, Int.reduceLT, Int.reduceLE, Int.reduceAdd, ↓reduceIte, reduceCtorEq]) <;> rfl) (by exact inI64_of (by omega) (by omega)) ?_
  refine ⟨[(0, 0)], i + 1, rfl, ?_, ⟨by omega, by omega⟩, by omega⟩
  have h0 : (i + 1 == 0) = false := by simp
  (simp only [go_sem, Nat.reduceLT, Nat.reduceLeDiff, Nat.reduceEqDiff, Nat.reduceAdd, Nat.reduceSub, Nat.reduceMul, Nat.reduceBEq, Int.reduceToNat, Int.reduceEq, Int.reduceLT, Int.reduceLE, Int.reduceAdd, ↓reduceIte, reduceCtorEq, h0, hlw, wOf_snoc he hi.2, intC, List.length_append, List.length_map]) <;> rfl

theorem edge_is (a b : Int) : PureIs prog 27 [.sc (.int .i64 a), .sc (.int .i64 b)] (.ag [.sc (.int .i64 a), .sc (.int .i64 b)]) := by
  refine PureIs.of (nv := 2) (hid := [4]) func27 rfl (by kernel_rfl) (by simp [ntmps27]) fun _ => ?_
  rw [ntmps27, results27]
  refine EvC.seq (EvC.rg (by (simp only [go_sem, Nat.reduceLT, Nat.reduceLeDiff, Nat.reduceEqDiff, Nat.reduceAdd, Nat.reduceSub, Nat.reduceMul, Nat.reduceBEq, Int.reduceToNat, Int.reduceEq, Int.reduceLT, Int.reduceLE, Int.reduceAdd, ↓reduceIte, reduceCtorEq]) <;> rfl) (by simp) ?_)
  refine EvC.seq (EvC.rg (by (simp only [go_sem, Nat.reduceLT, Nat.reduceLeDiff, Nat.reduceEqDiff, Nat.reduceAdd, Nat.reduceSub, Nat.reduceMul, Nat.reduceBEq, Int.reduceToNat, Int.reduceEq, Int.reduceLT, Int.reduceLE, Int.reduceAdd, ↓reduceIte, reduceCtorEq]) <;> rfl) (by simp) ?_)
  refine EvC.ret ⟨.inl rfl, _, (by (simp only [go_sem, Nat.reduceLT, Nat.reduceLeDiff, Nat.reduceEqDiff, Nat.reduceAdd, Nat.reduceSub, Nat.reduceMul, Nat.reduceBEq, Int.reduceToNat, Int.reduceEq, Int.reduceLT, Int.reduceLE, Int.reduceAdd, ↓reduceIte, reduceCtorEq]) <;> rfl), ?_, rfl⟩
  simp only [go_sem, Nat.reduceLT, Nat.reduceLeDiff, Nat.reduceEqDiff, Nat.reduceAdd, Nat.reduceSub, Nat.reduceMul, Nat.reduceBEq, Int.reduceToNat, Int.reduceEq, Int.reduceLT, Int.reduceLE, Int.reduceAdd, ↓reduceIte, reduceCtorEq]
end Go.Avl
namespace Go.Avl
open Go Go.Proofs.Try
set_option maxRecDepth 10000
set_option linter.unusedSimpArgs false

theorem none11_is : PureIs prog 39 [] (.ag [.sc (.int .i64 (-1)), .sc (.int .i64 (-1))]) := by
  refine PureIs.of (nv := 1) (hid := []) func39 rfl (by kernel_rfl) (by simp [ntmps39]) fun _ => ?_
  rw [ntmps39, results39]
  refine EvC.seq (EvC.rg (by (simp only [go_sem, Nat.reduceLT, Nat.reduceLeDiff, Nat.reduceEqDiff, Nat.reduceAdd, Nat.reduceSub, Nat.reduceMul, Nat.reduceBEq, Int.reduceToNat, Int.reduceEq, Int.reduceLT, Int.reduceLE, Int.reduceAdd, ↓reduceIte, reduceCtorEq]) <;> rfl) (by simp) ?_)
  refine EvC.seq (EvC.rg (by (simp only [go_sem, Nat.reduceLT, Nat.reduceLeDiff, Nat.reduceEqDiff, Nat.reduceAdd, Nat.reduceSub, Nat.reduceMul, Nat.reduceBEq, Int.reduceToNat, Int.reduceEq, Int.reduceLT, Int.reduceLE, Int.reduceAdd, ↓reduceIte, reduceCtorEq]) <;> rfl) (by simp) ?_)
  refine EvC.ret ⟨.inl rfl, _, (by (simp only [go_sem, Nat.reduceLT, Nat.reduceLeDiff, Nat.reduceEqDiff, Nat.reduceAdd, Nat.reduceSub, Nat.reduceMul, Nat.reduceBEq, Int.reduceToNat, Int.reduceEq, Int.reduceLT, Int.reduceLE, Int.reduceAdd, ↓reduceIte, reduceCtorEq]) <;> rfl), ?_, rfl⟩
  simp only [go_sem, Nat.reduceLT, Nat.reduceLeDiff, Nat.reduceEqDiff, Nat.reduceAdd, Nat.reduceSub, Nat.reduceMul, Nat.reduceBEq, Int.reduceToNat, Int.reduceEq, Int.reduceLT, Int.reduceLE, Int.reduceAdd, ↓reduceIte, reduceCtorEq]

/-- A row, a machine without spare capacity. -/
def rowG (r : Row) : List AV := [.sl r.1 (r.2.map edgeC) .full]
@[go_sem] theorem norefs_rowG (l : List Row) : (l.map rowG).all AV.norefs = true := by simp [List.all_eq_true, rowG, AV.norefs, AV.noref]
@[go_sem] theorem norefs_rowC (l : List Row) : (l.map rowC).all AV.norefs = true := by simp [List.all_eq_true, rowC, AV.norefs, AV.noref]
def Mach.cellsF (m : Mach) : List AV := [.sc (.int .i64 m.ins), .sc (.int .i64 m.outs), .sl m.nl (m.rows.map rowG) .full]
theorem edges_unk (l : List (Int × Int)) : AV.unkss (l.map edgeC) = l.map edgeC := unkss_map edgeC (fun _ => rfl) l
theorem rowC_unk (r : Row) : AV.unks (rowC r) = rowC r := by simp only [rowC, AV.unks, AV.unk, edges_unk]
theorem rowG_unk (r : Row) : AV.unks (rowG r) = rowC r := by simp only [rowC, rowG, AV.unks, AV.unk, edges_unk]
theorem rowsC_unk (l : List Row) : AV.unkss (l.map rowC) = l.map rowC := unkss_map rowC rowC_unk l
theorem rowsG_unk (l : List Row) : AV.unkss (l.map rowG) = l.map rowC := by rw [unkss_eq, List.map_map]; exact List.map_congr_left fun r _ => rowG_unk r
theorem Mach.cells_unk (m : Mach) : AV.unks m.cells = m.cells := by simp only [Mach.cells, AV.unks, AV.unk, rowsC_unk]
theorem Mach.cellsF_unk (m : Mach) : AV.unks m.cellsF = m.cells := by simp only [Mach.cells, Mach.cellsF, AV.unks, AV.unk, rowsG_unk]
@[go_sem] theorem norefs_cells (m : Mach) : AV.norefs m.cells = true := by simp [Mach.cells, AV.norefs, AV.noref]
@[go_sem] theorem norefs_cellsF (m : Mach) : AV.norefs m.cellsF = true := by simp [Mach.cellsF, AV.norefs, AV.noref]

theorem clipped_is (m : Mach) (hl : m.rows.length < 1000000) : PureIs prog 16 [.ag m.cellsF] (.sc (.bool true)) := by
  refine PureIs.of (nv := 4) (hid := [8, 23]) func16 rfl (by kernel_rfl) (by simp [ntmps16]) fun _ => ?_
  rw [ntmps16, results16]
  refine EvC.seq (EvC.rg (by (simp only [go_sem, Nat.reduceLT, Nat.reduceLeDiff, Nat.reduceEqDiff, Nat.reduceAdd, Nat.reduceSub, Nat.reduceMul, Nat.reduceBEq, Int.reduceToNat, Int.reduceEq, Int.reduceLT, Int.reduceLE, Int.reduceAdd, ↓reduceIte, reduceCtorEq, Mach.cellsF]) <;> rfl) (by simp) ?_)
  refine EvC.frzB 0 (by (simp only [go_sem, Nat.reduceLT, Nat.reduceLeDiff, Nat.reduceEqDiff, Nat.reduceAdd, Nat.reduceSub, Nat.reduceMul, Nat.reduceBEq, Int.reduceToNat, Int.reduceEq, Int.reduceLT, Int.reduceLE, Int.reduceAdd, ↓reduceIte, reduceCtorEq]) <;> rfl) ?_
  refine EvC.seq ?_
  refine EvC.seq (EvC.rg (by (simp only [go_sem, Nat.reduceLT, Nat.reduceLeDiff, Nat.reduceEqDiff, Nat.reduceAdd, Nat.reduceSub, Nat.reduceMul, Nat.reduceBEq, Int.reduceToNat, Int.reduceEq, Int.reduceLT, Int.reduceLE, Int.reduceAdd, ↓reduceIte, reduceCtorEq]) <;> rfl) (by simp) ?_)
  refine EvC.block ?_  -- 0
  refine EvC.loopS (σ := Nat) (fun i => ⟨[(1, .ia m.cellsF), (3, .sc (.int .i64 i))], [], [], 0⟩) (fun i => m.rows.length - i) (fun i => i ≤ m.rows.length) [1, 3] 0 ?_ ?_
  · refine ⟨[], 0, rfl, (by (simp only [go_sem, Nat.reduceLT, Nat.reduceLeDiff, Nat.reduceEqDiff, Nat.reduceAdd, Nat.reduceSub, Nat.reduceMul, Nat.reduceBEq, Int.reduceToNat, Int.reduceEq, Int.reduceLT, Int.reduceLE, Int.reduceAdd, ↓reduceIte, reduceCtorEq, Mach.cellsF]) <;> rfl), Nat.zero_le _⟩
  intro i h1
  refine EvC.seq ?_
  refine EvC.seq (EvC.rg (by (simp only [go_sem, Nat.reduceLT, Nat.reduceLeDiff, Nat.reduceEqDiff, Nat.reduceAdd, Nat.reduceSub, Nat.reduceMul, Nat.reduceBEq, Int.reduceToNat, Int.reduceEq, Int.reduceLT, Int.reduceLE, Int.reduceAdd, ↓reduceIte, reduceCtorEq, Mach.cellsF]) <;> rfl) (by simp) ?_)
  refine EvC.cond (by (simp only [go_sem, Nat.reduceLT, Nat.reduceLeDiff, Nat.reduceEqDiff, Nat.reduceAdd, Nat.reduceSub, Nat.reduceMul, Nat.reduceBEq, Int.reduceToNat, Int.reduceEq, Int.reduceLT, Int.reduceLE, Int.reduceAdd, ↓reduceIte, reduceCtorEq]) <;> rfl) (fun hc => ?_) (fun hc => ?_)
  rotate_left
  · refine EvC.exit ?_  -- 0
    refine EvC.seq (EvC.rg (by (simp only [go_sem, Nat.reduceLT, Nat.reduceLeDiff, Nat.reduceEqDiff, Nat.reduceAdd, Nat.reduceSub, Nat.reduceMul, Nat.reduceBEq, Int.reduceToNat, Int.reduceEq, Int.reduceLT, Int.reduceLE, Int.reduceAdd, ↓reduceIte, reduceCtorEq, Mach.cellsF]) <;> rfl) (by simp) ?_)
    refine EvC.ret ⟨.inl rfl, _, (by (simp only [go_sem, Nat.reduceLT, Nat.reduceLeDiff, Nat.reduceEqDiff, Nat.reduceAdd, Nat.reduceSub, Nat.reduceMul, Nat.reduceBEq, Int.reduceToNat, Int.reduceEq, Int.reduceLT, Int.reduceLE, Int.reduceAdd, ↓reduceIte, reduceCtorEq]) <;> rfl), ?_, rfl⟩
    simp only [go_sem, Nat.reduceLT, Nat.reduceLeDiff, Nat.reduceEqDiff, Nat.reduceAdd, Nat.reduceSub, Nat.reduceMul, Nat.reduceBEq, Int.reduceToNat, Int.reduceEq, Int.reduceLT, Int.reduceLE, Int.reduceAdd, ↓reduceIte, reduceCtorEq]
  have hi : i < m.rows.length := by simpa using hc
  have he : m.rows[i]? = some m.rows[i] := List.getElem?_eq_getElem hi
  generalize m.rows[i] = r at he
  refine EvC.skip ?_
  refine EvC.seq ?_
  refine EvC.block ?_  -- 1
  apply EvC.seq
  apply EvC.drd mixed
  · (simp only [go_sem, Nat.reduceLT, Nat.reduceLeDiff, Nat.reduceEqDiff, Nat.reduceAdd, Nat.reduceSub, Nat.reduceMul, Nat.reduceBEq, Int.reduceToNat, Int.reduceEq, Int.reduceLT, Int.reduceLE, Int.reduceAdd, ↓reduceIte, reduceCtorEq, he, rowG, Mach.cellsF]) <;> rfl
  · simp
  · kernel_rfl
  refine EvC.cond_false (by (simp only [go_sem, Nat.reduceLT, Nat.reduceLeDiff, Nat.reduceEqDiff, Nat.reduceAdd, Nat.reduceSub, Nat.reduceMul, Nat.reduceBEq, Int.reduceToNat, Int.reduceEq, Int.reduceLT, Int.reduceLE, Int.reduceAdd, ↓reduceIte, reduceCtorEq]) <;> rfl) ?_
  refine EvC.skip ?_
  refine EvC.rg (by (simp only [go_sem, Nat.reduceLT, Nat.reduceLeDiff, Nat.reduceEqDiff, Nat.reduceAdd, Nat.reduceSub, Nat.reduceMul, Nat.reduceBEq, Int.reduceToNat, Int.reduceEq, Int.reduceLT, Int.reduceLE, Int.reduceAdd, ↓reduceIte, reduceCtorEq]) <;> rfl) (by exact inI64_of (by omega) (by omega)) ?_
  exact ⟨[], i + 1, rfl, (by (simp only [go_sem, Nat.reduceLT, Nat.reduceLeDiff, Nat.reduceEqDiff, Nat.reduceAdd, Nat.reduceSub, Nat.reduceMul, Nat.reduceBEq, Int.reduceToNat, Int.reduceEq, Int.reduceLT, Int.reduceLE, Int.reduceAdd, ↓reduceIte, reduceCtorEq]) <;> rfl), by omega, by omega⟩

/-- What is returned with an error. -/
def zeroM : List AV := [.sc (.int .i64 0), .sc (.int .i64 0), .sl true [] .zer]
theorem nothing_is (e : Int) (c : Cp) : PureIs prog 18 [.ag [.sc (.int .i64 0), .sc (.int .i64 0), .sl true [] c], .sc (.int .i64 e), .sc (.int .i64 e)] (.sc (.bool true)) := by
  refine PureIs.of (nv := 4) (hid := [6]) func18 rfl (by kernel_rfl) (by simp [ntmps18]) fun _ => ?_
  rw [ntmps18, results18]
  refine EvC.seq (EvC.rg (by (simp only [go_sem, Nat.reduceLT, Nat.reduceLeDiff, Nat.reduceEqDiff, Nat.reduceAdd, Nat.reduceSub, Nat.reduceMul, Nat.reduceBEq, Int.reduceToNat, Int.reduceEq, Int.reduceLT, Int.reduceLE, Int.reduceAdd, ↓reduceIte, reduceCtorEq]) <;> rfl) (by simp) ?_)
  apply EvC.seq
  apply EvC.trd
  · (simp only [go_sem, Nat.reduceLT, Nat.reduceLeDiff, Nat.reduceEqDiff, Nat.reduceAdd, Nat.reduceSub, Nat.reduceMul, Nat.reduceBEq, Int.reduceToNat, Int.reduceEq, Int.reduceLT, Int.reduceLE, Int.reduceAdd, ↓reduceIte, reduceCtorEq]) <;> rfl
  · simp
  refine EvC.ret ⟨.inl rfl, _, (by (simp only [go_sem, Nat.reduceLT, Nat.reduceLeDiff, Nat.reduceEqDiff, Nat.reduceAdd, Nat.reduceSub, Nat.reduceMul, Nat.reduceBEq, Int.reduceToNat, Int.reduceEq, Int.reduceLT, Int.reduceLE, Int.reduceAdd, ↓reduceIte, reduceCtorEq]) <;> rfl), ?_, rfl⟩
  simp only [go_sem, Nat.reduceLT, Nat.reduceLeDiff, Nat.reduceEqDiff, Nat.reduceAdd, Nat.reduceSub, Nat.reduceMul, Nat.reduceBEq, Int.reduceToNat, Int.reduceEq, Int.reduceLT, Int.reduceLE, Int.reduceAdd, ↓reduceIte, reduceCtorEq]
end Go.Avl
namespace Go.Avl
open Go Go.Proofs.Try
set_option maxRecDepth 10000
set_option linter.unusedSimpArgs false

theorem rows_get {a b : Mach} (h : a.rows.map (·.2) = b.rows.map (·.2)) {i : Nat} {r : Row} (hr : a.rows[i]? = some r) : ∃ n, b.rows[i]? = some (n, r.2) := by
  have h2 := congrArg (fun l => l[i]?) h
  simp only [List.getElem?_map, hr, Option.map_some] at h2
  cases hb : b.rows[i]? with
  | none => rw [hb] at h2; cases h2
  | some q => rw [hb] at h2; simp only [Option.map_some, Option.some.injEq] at h2; exact ⟨q.1, by rw [h2]⟩

theorem sameM_is {a b : Mach} (h1 : a.ins = b.ins) (h2 : a.outs = b.outs) (h3 : a.rows.map (·.2) = b.rows.map (·.2)) (hl : a.rows.length < 1000000) (hr : ∀ r ∈ a.rows, r.2.length < 1000000) : PureIs prog 42 [.ag a.cells, .ag b.cells] (.sc (.bool true)) := by
  have hl2 : b.rows.length = a.rows.length := by have := congrArg List.length h3; simpa using this.symm
  refine PureIs.of (nv := 7) (hid := [27, 32, 47, 55, 74]) func42 rfl (by kernel_rfl) (by simp [ntmps42]) fun _ => ?_
  rw [ntmps42, results42]
  refine EvC.seq (EvC.rg (by (simp only [go_sem, Nat.reduceLT, Nat.reduceLeDiff, Nat.reduceEqDiff, Nat.reduceAdd, Nat.reduceSub, Nat.reduceMul, Nat.reduceBEq, Int.reduceToNat, Int.reduceEq, Int.reduceLT, Int.reduceLE, Int.reduceAdd, ↓reduceIte, reduceCtorEq, Mach.cells]) <;> rfl) (by simp) ?_)
  refine EvC.frzB 0 (by (simp only [go_sem, Nat.reduceLT, Nat.reduceLeDiff, Nat.reduceEqDiff, Nat.reduceAdd, Nat.reduceSub, Nat.reduceMul, Nat.reduceBEq, Int.reduceToNat, Int.reduceEq, Int.reduceLT, Int.reduceLE, Int.reduceAdd, ↓reduceIte, reduceCtorEq]) <;> rfl) ?_
  refine EvC.frzB 1 (by (simp only [go_sem, Nat.reduceLT, Nat.reduceLeDiff, Nat.reduceEqDiff, Nat.reduceAdd, Nat.reduceSub, Nat.reduceMul, Nat.reduceBEq, Int.reduceToNat, Int.reduceEq, Int.reduceLT, Int.reduceLE, Int.reduceAdd, ↓reduceIte, reduceCtorEq]) <;> rfl) ?_
  refine EvC.seq ?_
  apply EvC.seq
  apply EvC.trd
  · (simp only [go_sem, Nat.reduceLT, Nat.reduceLeDiff, Nat.reduceEqDiff, Nat.reduceAdd, Nat.reduceSub, Nat.reduceMul, Nat.reduceBEq, Int.reduceToNat, Int.reduceEq, Int.reduceLT, Int.reduceLE, Int.reduceAdd, ↓reduceIte, reduceCtorEq, h1, h2, hl2]) <;> rfl
  · simp
  refine EvC.cond_false (by (simp only [go_sem, Nat.reduceLT, Nat.reduceLeDiff, Nat.reduceEqDiff, Nat.reduceAdd, Nat.reduceSub, Nat.reduceMul, Nat.reduceBEq, Int.reduceToNat, Int.reduceEq, Int.reduceLT, Int.reduceLE, Int.reduceAdd, ↓reduceIte, reduceCtorEq]) <;> rfl) ?_
  refine EvC.skip ?_
  refine EvC.seq ?_
  refine EvC.seq (EvC.rg (by (simp only [go_sem, Nat.reduceLT, Nat.reduceLeDiff, Nat.reduceEqDiff, Nat.reduceAdd, Nat.reduceSub, Nat.reduceMul, Nat.reduceBEq, Int.reduceToNat, Int.reduceEq, Int.reduceLT, Int.reduceLE, Int.reduceAdd, ↓reduceIte, reduceCtorEq]) <;> rfl) (by simp) ?_)
  refine EvC.block ?_  -- 0
  refine EvC.loopS (σ := Nat) (fun i => ⟨[(2, .ia a.cells), (3, .ia b.cells), (5, .sc (.int .i64 i))], [], [], 0⟩) (fun i => a.rows.length - i) (fun i => i ≤ a.rows.length) [2, 3, 5] 0 ?_ ?_
  · exact ⟨[], 0, rfl, (by (simp only [go_sem, Nat.reduceLT, Nat.reduceLeDiff, Nat.reduceEqDiff, Nat.reduceAdd, Nat.reduceSub, Nat.reduceMul, Nat.reduceBEq, Int.reduceToNat, Int.reduceEq, Int.reduceLT, Int.reduceLE, Int.reduceAdd, ↓reduceIte, reduceCtorEq, Mach.cells, h1, h2]) <;> rfl), Nat.zero_le _⟩
  intro i hi
  refine EvC.seq ?_
  refine EvC.seq (EvC.rg (by (simp only [go_sem, Nat.reduceLT, Nat.reduceLeDiff, Nat.reduceEqDiff, Nat.reduceAdd, Nat.reduceSub, Nat.reduceMul, Nat.reduceBEq, Int.reduceToNat, Int.reduceEq, Int.reduceLT, Int.reduceLE, Int.reduceAdd, ↓reduceIte, reduceCtorEq, Mach.cells]) <;> rfl) (by simp) ?_)
  refine EvC.cond (by (simp only [go_sem, Nat.reduceLT, Nat.reduceLeDiff, Nat.reduceEqDiff, Nat.reduceAdd, Nat.reduceSub, Nat.reduceMul, Nat.reduceBEq, Int.reduceToNat, Int.reduceEq, Int.reduceLT, Int.reduceLE, Int.reduceAdd, ↓reduceIte, reduceCtorEq]) <;> rfl) (fun hc => ?_) (fun hc => ?_)
  rotate_left
  · refine EvC.exit ?_  -- 0
    refine EvC.seq (EvC.rg (by (simp only [go_sem, Nat.reduceLT, Nat.reduceLeDiff, Nat.reduceEqDiff, Nat.reduceAdd, Nat.reduceSub, Nat.reduceMul, Nat.reduceBEq, Int.reduceToNat, Int.reduceEq, Int.reduceLT, Int.reduceLE, Int.reduceAdd, ↓reduceIte, reduceCtorEq]) <;> rfl) (by simp) ?_)
    refine EvC.ret ⟨.inl rfl, _, (by (simp only [go_sem, Nat.reduceLT, Nat.reduceLeDiff, Nat.reduceEqDiff, Nat.reduceAdd, Nat.reduceSub, Nat.reduceMul, Nat.reduceBEq, Int.reduceToNat, Int.reduceEq, Int.reduceLT, Int.reduceLE, Int.reduceAdd, ↓reduceIte, reduceCtorEq]) <;> rfl), ?_, rfl⟩
    simp only [go_sem, Nat.reduceLT, Nat.reduceLeDiff, Nat.reduceEqDiff, Nat.reduceAdd, Nat.reduceSub, Nat.reduceMul, Nat.reduceBEq, Int.reduceToNat, Int.reduceEq, Int.reduceLT, Int.reduceLE, Int.reduceAdd, ↓reduceIte, reduceCtorEq]
  have hi : i < a.rows.length := by simpa using hc
  have he : a.rows[i]? = some a.rows[i] := List.getElem?_eq_getElem hi
  have hm := List.getElem_mem hi
  generalize a.rows[i] = r at he hm
  obtain ⟨n, hb⟩ := rows_get h3 he
  obtain ⟨na, es⟩ := r
  have hes := hr _ hm
  simp only at hb hes
  refine EvC.skip ?_
  refine EvC.seq ?_
  refine EvC.block ?_  -- 1
  refine EvC.seq ?_
  apply EvC.seq
  apply EvC.drd mixed
  · (simp only [go_sem, Nat.reduceLT, Nat.reduceLeDiff, Nat.reduceEqDiff, Nat.reduceAdd, Nat.reduceSub, Nat.reduceMul, Nat.reduceBEq, Int.reduceToNat, Int.reduceEq, Int.reduceLT, Int.reduceLE, Int.reduceAdd, ↓reduceIte, reduceCtorEq, he, hb, rowC, Mach.cells]) <;> rfl
  · simp
  · kernel_rfl
  refine EvC.cond_false (by (simp only [go_sem, Nat.reduceLT, Nat.reduceLeDiff, Nat.reduceEqDiff, Nat.reduceAdd, Nat.reduceSub, Nat.reduceMul, Nat.reduceBEq, Int.reduceToNat, Int.reduceEq, Int.reduceLT, Int.reduceLE, Int.reduceAdd, ↓reduceIte, reduceCtorEq]) <;> rfl) ?_
  refine EvC.skip ?_
  refine EvC.seq (EvC.rg (by (simp only [go_sem, Nat.reduceLT, Nat.reduceLeDiff, Nat.reduceEqDiff, Nat.reduceAdd, Nat.reduceSub, Nat.reduceMul, Nat.reduceBEq, Int.reduceToNat, Int.reduceEq, Int.reduceLT, Int.reduceLE, Int.reduceAdd, ↓reduceIte, reduceCtorEq]) <;> rfl) (by simp) ?_)
  refine EvC.block ?_  -- 2
  refine EvC.loopS (σ := Nat) (fun k => ⟨[(2, .ia a.cells), (3, .ia b.cells), (5, .sc (.int .i64 i)), (6, .sc (.int .i64 k))], [], [], 0⟩) (fun k => es.length - k) (fun k => k ≤ es.length) [2, 3, 5, 6] 0 ?_ ?_
  · exact ⟨[], 0, rfl, (by (simp only [go_sem, Nat.reduceLT, Nat.reduceLeDiff, Nat.reduceEqDiff, Nat.reduceAdd, Nat.reduceSub, Nat.reduceMul, Nat.reduceBEq, Int.reduceToNat, Int.reduceEq, Int.reduceLT, Int.reduceLE, Int.reduceAdd, ↓reduceIte, reduceCtorEq, Mach.cells, h1, h2]) <;> rfl), Nat.zero_le _⟩
  intro k hk
  refine EvC.seq ?_
  refine EvC.seq (EvC.rg (by (simp only [go_sem, Nat.reduceLT, Nat.reduceLeDiff, Nat.reduceEqDiff, Nat.reduceAdd, Nat.reduceSub, Nat.reduceMul, Nat.reduceBEq, Int.reduceToNat, Int.reduceEq, Int.reduceLT, Int.reduceLE, Int.reduceAdd, ↓reduceIte, reduceCtorEq, he, rowC, Mach.cells]) <;> rfl) (by simp) ?_)
  refine EvC.cond (by (simp only [go_sem, Nat.reduceLT, Nat.reduceLeDiff, Nat.reduceEqDiff, Nat.reduceAdd, Nat.reduceSub, Nat.reduceMul, Nat.reduceBEq, Int.reduceToNat, Int.reduceEq, Int.reduceLT, Int.reduceLE, Int.reduceAdd, ↓reduceIte, reduceCtorEq]) <;> rfl) (fun hc => ?_) (fun hc => ?_)
  rotate_left
  · refine EvC.exit ?_  -- 2
    refine EvC.rg (by (simp only [go_sem, Nat.reduceLT, Nat.reduceLeDiff, Nat.reduceEqDiff, Nat.reduceAdd, Nat.reduceSub, Nat.reduceMul, Nat.reduceBEq, Int.reduceToNat, Int.reduceEq, Int.reduceLT, Int.reduceLE, Int.reduceAdd, ↓reduceIte, reduceCtorEq]) <;> rfl) (by exact inI64_of (by omega) (by omega)) ?_
    exact ⟨[], i + 1, rfl, (by (simp only [go_sem, Nat.reduceLT, Nat.reduceLeDiff, Nat.reduceEqDiff, Nat.reduceAdd, Nat.reduceSub, Nat.reduceMul, Nat.reduceBEq, Int.reduceToNat, Int.reduceEq, Int.reduceLT, Int.reduceLE, Int.reduceAdd, ↓reduceIte, reduceCtorEq, Mach.cells]) <;> rfl), by omega, by omega⟩
  have hk : k < es.length := by simpa using hc
  have hek : es[k]? = some es[k] := List.getElem?_eq_getElem hk
  generalize es[k] = e at hek
  refine EvC.skip ?_
  refine EvC.seq ?_
  refine EvC.block ?_  -- 3
  apply EvC.seq
  apply EvC.drd mixed
  · (simp only [go_sem, Nat.reduceLT, Nat.reduceLeDiff, Nat.reduceEqDiff, Nat.reduceAdd, Nat.reduceSub, Nat.reduceMul, Nat.reduceBEq, Int.reduceToNat, Int.reduceEq, Int.reduceLT, Int.reduceLE, Int.reduceAdd, ↓reduceIte, reduceCtorEq, he, hb, rowC, Mach.cells, hek, edgeC]) <;> rfl
  · simp
  · kernel_rfl
  refine EvC.cond_false (by (simp only [go_sem, Nat.reduceLT, Nat.reduceLeDiff, Nat.reduceEqDiff, Nat.reduceAdd, Nat.reduceSub, Nat.reduceMul, Nat.reduceBEq, Int.reduceToNat, Int.reduceEq, Int.reduceLT, Int.reduceLE, Int.reduceAdd, ↓reduceIte, reduceCtorEq]) <;> rfl) ?_
  refine EvC.skip ?_
  refine EvC.rg (by (simp only [go_sem, Nat.reduceLT, Nat.reduceLeDiff, Nat.reduceEqDiff, Nat.reduceAdd, Nat.reduceSub, Nat.reduceMul, Nat.reduceBEq, Int.reduceToNat, Int.reduceEq, Int.reduceLT, Int.reduceLE, Int.reduceAdd, ↓reduceIte, reduceCtorEq]) <;> rfl) (by exact inI64_of (by omega) (by omega)) ?_
  exact ⟨[], k + 1, rfl, (by (simp only [go_sem, Nat.reduceLT, Nat.reduceLeDiff, Nat.reduceEqDiff, Nat.reduceAdd, Nat.reduceSub, Nat.reduceMul, Nat.reduceBEq, Int.reduceToNat, Int.reduceEq, Int.reduceLT, Int.reduceLE, Int.reduceAdd, ↓reduceIte, reduceCtorEq, Mach.cells]) <;> rfl), by omega, by omega⟩

theorem machine_is {a b : Mach} (h1 : a.ins = b.ins) (h2 : a.outs = b.outs) (h3 : a.rows.map (·.2) = b.rows.map (·.2)) (hl : a.rows.length < 1000000) (hr : ∀ r ∈ a.rows, r.2.length < 1000000) : PureIs prog 21 [.ag a.cellsF, .sc (.int .i64 0), .ag b.cells] (.sc (.bool true)) := by
  have hs : PureIs prog 42 [.ag a.cellsF, .ag b.cells] (.sc (.bool true)) := by
    refine PureIs.weak ?_
    simp only [List.map_cons, List.map_nil, AV.unk, Mach.cellsF_unk, Mach.cells_unk]
    exact sameM_is h1 h2 h3 hl hr
  refine PureIs.of (nv := 4) (hid := [5, 6]) func21 rfl (by kernel_rfl) (by simp [ntmps21]) fun _ => ?_
  rw [ntmps21, results21]
  refine EvC.seq (EvC.rg (by (simp only [go_sem, Nat.reduceLT, Nat.reduceLeDiff, Nat.reduceEqDiff, Nat.reduceAdd, Nat.reduceSub, Nat.reduceMul, Nat.reduceBEq, Int.reduceToNat, Int.reduceEq, Int.reduceLT, Int.reduceLE, Int.reduceAdd, ↓reduceIte, reduceCtorEq, Mach.cellsF, Mach.cells]) <;> rfl) (by simp) ?_)
  refine EvC.frzB 0 (by (simp only [go_sem, Nat.reduceLT, Nat.reduceLeDiff, Nat.reduceEqDiff, Nat.reduceAdd, Nat.reduceSub, Nat.reduceMul, Nat.reduceBEq, Int.reduceToNat, Int.reduceEq, Int.reduceLT, Int.reduceLE, Int.reduceAdd, ↓reduceIte, reduceCtorEq]) <;> rfl) ?_
  refine EvC.frzB 1 (by (simp only [go_sem, Nat.reduceLT, Nat.reduceLeDiff, Nat.reduceEqDiff, Nat.reduceAdd, Nat.reduceSub, Nat.reduceMul, Nat.reduceBEq, Int.reduceToNat, Int.reduceEq, Int.reduceLT, Int.reduceLE, Int.reduceAdd, ↓reduceIte, reduceCtorEq]) <;> rfl) ?_
  apply EvC.seq
  apply EvC.tr
  · apply Tr.run
    · (simp only [go_sem, Nat.reduceLT, Nat.reduceLeDiff, Nat.reduceEqDiff, Nat.reduceAdd, Nat.reduceSub, Nat.reduceMul, Nat.reduceBEq, Int.reduceToNat, Int.reduceEq, Int.reduceLT, Int.reduceLE, Int.reduceAdd, ↓reduceIte, reduceCtorEq, Mach.cellsF, Mach.cells]) <;> rfl
    · simp
    apply Tr.cons
    · exact .callG rfl rfl (by (simp only [go_sem, Nat.reduceLT, Nat.reduceLeDiff, Nat.reduceEqDiff, Nat.reduceAdd, Nat.reduceSub, Nat.reduceMul, Nat.reduceBEq, Int.reduceToNat, Int.reduceEq, Int.reduceLT, Int.reduceLE, Int.reduceAdd, ↓reduceIte, reduceCtorEq]) <;> rfl) rfl (by (simp only [go_sem, Nat.reduceLT, Nat.reduceLeDiff, Nat.reduceEqDiff, Nat.reduceAdd, Nat.reduceSub, Nat.reduceMul, Nat.reduceBEq, Int.reduceToNat, Int.reduceEq, Int.reduceLT, Int.reduceLE, Int.reduceAdd, ↓reduceIte, reduceCtorEq]) <;> rfl) (by (simp only [go_sem, Nat.reduceLT, Nat.reduceLeDiff, Nat.reduceEqDiff, Nat.reduceAdd, Nat.reduceSub, Nat.reduceMul, Nat.reduceBEq, Int.reduceToNat, Int.reduceEq, Int.reduceLT, Int.reduceLE, Int.reduceAdd, ↓reduceIte, reduceCtorEq]) <;> rfl) (by (simp only [go_sem, Nat.reduceLT, Nat.reduceLeDiff, Nat.reduceEqDiff, Nat.reduceAdd, Nat.reduceSub, Nat.reduceMul, Nat.reduceBEq, Int.reduceToNat, Int.reduceEq, Int.reduceLT, Int.reduceLE, Int.reduceAdd, ↓reduceIte, reduceCtorEq]) <;> rfl) (by (simp only [go_sem, Nat.reduceLT, Nat.reduceLeDiff, Nat.reduceEqDiff, Nat.reduceAdd, Nat.reduceSub, Nat.reduceMul, Nat.reduceBEq, Int.reduceToNat, Int.reduceEq, Int.reduceLT, Int.reduceLE, Int.reduceAdd, ↓reduceIte, reduceCtorEq]) <;> rfl) (by (simp only [go_sem, Nat.reduceLT, Nat.reduceLeDiff, Nat.reduceEqDiff, Nat.reduceAdd, Nat.reduceSub, Nat.reduceMul, Nat.reduceBEq, Int.reduceToNat, Int.reduceEq, Int.reduceLT, Int.reduceLE, Int.reduceAdd, ↓reduceIte, reduceCtorEq]) <;> rfl) (by simpa [Mach.cellsF, Mach.cells] using hs)
    apply Tr.run
    · (simp only [go_sem, Nat.reduceLT, Nat.reduceLeDiff, Nat.reduceEqDiff, Nat.reduceAdd, Nat.reduceSub, Nat.reduceMul, Nat.reduceBEq, Int.reduceToNat, Int.reduceEq, Int.reduceLT, Int.reduceLE, Int.reduceAdd, ↓reduceIte, reduceCtorEq]) <;> rfl
    · simp
    apply Tr.cons
    · exact .callG rfl rfl (by (simp only [go_sem, Nat.reduceLT, Nat.reduceLeDiff, Nat.reduceEqDiff, Nat.reduceAdd, Nat.reduceSub, Nat.reduceMul, Nat.reduceBEq, Int.reduceToNat, Int.reduceEq, Int.reduceLT, Int.reduceLE, Int.reduceAdd, ↓reduceIte, reduceCtorEq]) <;> rfl) rfl (by (simp only [go_sem, Nat.reduceLT, Nat.reduceLeDiff, Nat.reduceEqDiff, Nat.reduceAdd, Nat.reduceSub, Nat.reduceMul, Nat.reduceBEq, Int.reduceToNat, Int.reduceEq, Int.reduceLT, Int.reduceLE, Int.reduceAdd, ↓reduceIte, reduceCtorEq]) <;> rfl) (by (simp only [go_sem, Nat.reduceLT, Nat.reduceLeDiff, Nat.reduceEqDiff, Nat.reduceAdd, Nat.reduceSub, Nat.reduceMul, Nat.reduceBEq, Int.reduceToNat, Int.reduceEq, Int.reduceLT, Int.reduceLE, Int.reduceAdd, ↓reduceIte, reduceCtorEq]) <;> rfl) (by (simp only [go_sem, Nat.reduceLT, Nat.reduceLeDiff, Nat.reduceEqDiff, Nat.reduceAdd, Nat.reduceSub, Nat.reduceMul, Nat.reduceBEq, Int.reduceToNat, Int.reduceEq, Int.reduceLT, Int.reduceLE, Int.reduceAdd, ↓reduceIte, reduceCtorEq]) <;> rfl) (by (simp only [go_sem, Nat.reduceLT, Nat.reduceLeDiff, Nat.reduceEqDiff, Nat.reduceAdd, Nat.reduceSub, Nat.reduceMul, Nat.reduceBEq, Int.reduceToNat, Int.reduceEq, Int.reduceLT, Int.reduceLE, Int.reduceAdd, ↓reduceIte, reduceCtorEq]) <;> rfl) (by (simp only [go_sem, Nat.reduceLT, Nat.reduceLeDiff, Nat.reduceEqDiff, Nat.reduceAdd, Nat.reduceSub, Nat.reduceMul, Nat.reduceBEq, Int.reduceToNat, Int.reduceEq, Int.reduceLT, Int.reduceLE, Int.reduceAdd, ↓reduceIte, reduceCtorEq]) <;> rfl) (by simpa [Mach.cellsF] using clipped_is a hl)
    apply Tr.done
    · (simp only [go_sem, Nat.reduceLT, Nat.reduceLeDiff, Nat.reduceEqDiff, Nat.reduceAdd, Nat.reduceSub, Nat.reduceMul, Nat.reduceBEq, Int.reduceToNat, Int.reduceEq, Int.reduceLT, Int.reduceLE, Int.reduceAdd, ↓reduceIte, reduceCtorEq]) <;> rfl
    · simp
  refine EvC.ret ⟨.inl rfl, _, (by (simp only [go_sem, Nat.reduceLT, Nat.reduceLeDiff, Nat.reduceEqDiff, Nat.reduceAdd, Nat.reduceSub, Nat.reduceMul, Nat.reduceBEq, Int.reduceToNat, Int.reduceEq, Int.reduceLT, Int.reduceLE, Int.reduceAdd, ↓reduceIte, reduceCtorEq]) <;> rfl), ?_, rfl⟩
  simp only [go_sem, Nat.reduceLT, Nat.reduceLeDiff, Nat.reduceEqDiff, Nat.reduceAdd, Nat.reduceSub, Nat.reduceMul, Nat.reduceBEq, Int.reduceToNat, Int.reduceEq, Int.reduceLT, Int.reduceLE, Int.reduceAdd, ↓reduceIte, reduceCtorEq]
end Go.Avl
namespace Go.Avl
open Go Go.Proofs.Try
set_option maxRecDepth 10000
set_option linter.unusedSimpArgs false

/-- What a pair of states does. -/
def stepJ (a b : Mach) (par : Int) (p : Int × Int) (i : Int) : (Int × Int) × Int :=
  if (stepR a p.1 i).1 < 0 then ((0, 0), -1)
  else if par = 1 then
    if (stepR b p.2 i).1 < 0 then ((0, 0), -1) else (((stepR a p.1 i).1, (stepR b p.2 i).1), (stepR a p.1 i).2 * b.outs + (stepR b p.2 i).2)
  else if (stepR b p.2 (stepR a p.1 i).2).1 < 0 then ((0, 0), -1) else (((stepR a p.1 i).1, (stepR b p.2 (stepR a p.1 i).2).1), (stepR b p.2 (stepR a p.1 i).2).2)
/-- Machines that fit, in series or in parallel. -/
structure Fit (a b : Mach) (par : Int) : Prop where
  va : Valid a
  vb : Valid b
  p : par = 0 ∨ par = 1
  ser : par = 0 → a.outs = b.ins
  par : par = 1 → a.ins = b.ins
theorem fits_edge {n : Nat} {o : Int} {e : Int × Int} (h : fitsR n o e.1 e.2 = true) : (e.1 = -1 ∧ e.2 = -1) ∨ (0 ≤ e.1 ∧ e.1 < n ∧ 0 ≤ e.2 ∧ e.2 < o) := by
  simp only [fitsR, Bool.or_eq_true, Bool.and_eq_true, decide_eq_true_eq] at h
  rcases h with h | h
  · exact .inl h
  · exact .inr ⟨h.1.1.1, h.1.1.2, h.1.2, h.2⟩
theorem step40_is {a b : Mach} {par : Int} (h : Fit a b par) (s t : Int) (i : Int) (hs : 0 ≤ s ∧ s < a.rows.length) (ht : 0 ≤ t ∧ t < b.rows.length) (hi : 0 ≤ i ∧ i < a.ins) :
    PureIs prog 40 [.ag a.cells, .ag b.cells, .sc (.int .i64 par), edgeA (s, t), .sc (.int .i64 i)] (.tu [edgeA (stepJ a b par (s, t) i).1, .sc (.int .i64 (stepJ a b par (s, t) i).2)]) := by
  obtain ⟨r1, x, k1, k2, k3, k4⟩ := stepR_get h.va hs.1 hs.2 hi
  have hx := fits_edge k4
  have ho := h.vb.outs
  have hao := h.va.outs
  refine PureIs.of (nv := 7) (hid := [8, 10, 11, 12, 13, 14, 26, 29, 41, 68]) func40 rfl (by kernel_rfl) (by simp [ntmps40]) fun _ => ?_
  rw [ntmps40, results40]
  refine EvC.seq (EvC.rg (by (simp only [go_sem, Nat.reduceLT, Nat.reduceLeDiff, Nat.reduceEqDiff, Nat.reduceAdd, Nat.reduceSub, Nat.reduceMul, Nat.reduceBEq, Int.reduceToNat, Int.reduceEq, Int.reduceLT, Int.reduceLE, Int.reduceAdd, ↓reduceIte, reduceCtorEq, Mach.cells, edgeA]) <;> rfl) (by simp) ?_)
  refine EvC.frzB 0 (by (simp only [go_sem, Nat.reduceLT, Nat.reduceLeDiff, Nat.reduceEqDiff, Nat.reduceAdd, Nat.reduceSub, Nat.reduceMul, Nat.reduceBEq, Int.reduceToNat, Int.reduceEq, Int.reduceLT, Int.reduceLE, Int.reduceAdd, ↓reduceIte, reduceCtorEq]) <;> rfl) ?_
  refine EvC.frzB 1 (by (simp only [go_sem, Nat.reduceLT, Nat.reduceLeDiff, Nat.reduceEqDiff, Nat.reduceAdd, Nat.reduceSub, Nat.reduceMul, Nat.reduceBEq, Int.reduceToNat, Int.reduceEq, Int.reduceLT, Int.reduceLE, Int.reduceAdd, ↓reduceIte, reduceCtorEq]) <;> rfl) ?_
  refine EvC.frzB 2 (by (simp only [go_sem, Nat.reduceLT, Nat.reduceLeDiff, Nat.reduceEqDiff, Nat.reduceAdd, Nat.reduceSub, Nat.reduceMul, Nat.reduceBEq, Int.reduceToNat, Int.reduceEq, Int.reduceLT, Int.reduceLE, Int.reduceAdd, ↓reduceIte, reduceCtorEq]) <;> rfl) ?_
  refine EvC.seq (EvC.rg (by (simp only [go_sem, Nat.reduceLT, Nat.reduceLeDiff, Nat.reduceEqDiff, Nat.reduceAdd, Nat.reduceSub, Nat.reduceMul, Nat.reduceBEq, Int.reduceToNat, Int.reduceEq, Int.reduceLT, Int.reduceLE, Int.reduceAdd, ↓reduceIte, reduceCtorEq, k1, rowC, k2, edgeC]) <;> rfl) (by simp [hs.1, hi.1]) ?_)
  refine EvC.seq ?_
  refine EvC.seq (EvC.rg (by (simp only [go_sem, Nat.reduceLT, Nat.reduceLeDiff, Nat.reduceEqDiff, Nat.reduceAdd, Nat.reduceSub, Nat.reduceMul, Nat.reduceBEq, Int.reduceToNat, Int.reduceEq, Int.reduceLT, Int.reduceLE, Int.reduceAdd, ↓reduceIte, reduceCtorEq]) <;> rfl) (by simp) ?_)
  refine EvC.cond (by (simp only [go_sem, Nat.reduceLT, Nat.reduceLeDiff, Nat.reduceEqDiff, Nat.reduceAdd, Nat.reduceSub, Nat.reduceMul, Nat.reduceBEq, Int.reduceToNat, Int.reduceEq, Int.reduceLT, Int.reduceLE, Int.reduceAdd, ↓reduceIte, reduceCtorEq]) <;> rfl) (fun hc => ?_) (fun hc => ?_)
  · refine EvC.seq (EvC.rg (by (simp only [go_sem, Nat.reduceLT, Nat.reduceLeDiff, Nat.reduceEqDiff, Nat.reduceAdd, Nat.reduceSub, Nat.reduceMul, Nat.reduceBEq, Int.reduceToNat, Int.reduceEq, Int.reduceLT, Int.reduceLE, Int.reduceAdd, ↓reduceIte, reduceCtorEq]) <;> rfl) (by simp) ?_)
    have hx1 : x.1 < 0 := by simpa using hc
    have hJ : stepJ a b par (s, t) i = ((0, 0), -1) := by simp [stepJ, k3, hx1]
    refine EvC.ret ⟨.inl rfl, _, (by (simp only [go_sem, Nat.reduceLT, Nat.reduceLeDiff, Nat.reduceEqDiff, Nat.reduceAdd, Nat.reduceSub, Nat.reduceMul, Nat.reduceBEq, Int.reduceToNat, Int.reduceEq, Int.reduceLT, Int.reduceLE, Int.reduceAdd, ↓reduceIte, reduceCtorEq]) <;> rfl), ?_, by simp [edgeA, AV.noref, AV.norefs]⟩
    simp only [go_sem, Nat.reduceLT, Nat.reduceLeDiff, Nat.reduceEqDiff, Nat.reduceAdd, Nat.reduceSub, Nat.reduceMul, Nat.reduceBEq, Int.reduceToNat, Int.reduceEq, Int.reduceLT, Int.reduceLE, Int.reduceAdd, ↓reduceIte, reduceCtorEq]
    rw [hJ]; rfl
  have hx0 : ¬ x.1 < 0 := by simpa using hc
  have hx' : 0 ≤ x.1 ∧ x.1 < a.rows.length ∧ 0 ≤ x.2 ∧ x.2 < a.outs := by omega
  refine EvC.skip ?_
  refine EvC.seq ?_
  refine EvC.seq (EvC.rg (by (simp only [go_sem, Nat.reduceLT, Nat.reduceLeDiff, Nat.reduceEqDiff, Nat.reduceAdd, Nat.reduceSub, Nat.reduceMul, Nat.reduceBEq, Int.reduceToNat, Int.reduceEq, Int.reduceLT, Int.reduceLE, Int.reduceAdd, ↓reduceIte, reduceCtorEq]) <;> rfl) (by simp) ?_)
  refine EvC.cond (by (simp only [go_sem, Nat.reduceLT, Nat.reduceLeDiff, Nat.reduceEqDiff, Nat.reduceAdd, Nat.reduceSub, Nat.reduceMul, Nat.reduceBEq, Int.reduceToNat, Int.reduceEq, Int.reduceLT, Int.reduceLE, Int.reduceAdd, ↓reduceIte, reduceCtorEq]) <;> rfl) (fun hc => ?_) (fun hc => ?_)
  · have hp : par = 1 := by simpa using hc
    obtain ⟨r2, y, l1, l2, l3, l4⟩ := stepR_get h.vb ht.1 ht.2 (show 0 ≤ i ∧ i < b.ins by rw [← h.par hp]; exact hi)
    have hy := fits_edge l4
    refine EvC.seq (EvC.rg (by (simp only [go_sem, Nat.reduceLT, Nat.reduceLeDiff, Nat.reduceEqDiff, Nat.reduceAdd, Nat.reduceSub, Nat.reduceMul, Nat.reduceBEq, Int.reduceToNat, Int.reduceEq, Int.reduceLT, Int.reduceLE, Int.reduceAdd, ↓reduceIte, reduceCtorEq, l1, rowC, l2, edgeC]) <;> rfl) (by simp [ht.1, hi.1]) ?_)
    refine EvC.seq ?_
    refine EvC.seq (EvC.rg (by (simp only [go_sem, Nat.reduceLT, Nat.reduceLeDiff, Nat.reduceEqDiff, Nat.reduceAdd, Nat.reduceSub, Nat.reduceMul, Nat.reduceBEq, Int.reduceToNat, Int.reduceEq, Int.reduceLT, Int.reduceLE, Int.reduceAdd, ↓reduceIte, reduceCtorEq]) <;> rfl) (by simp) ?_)
    refine EvC.cond (by (simp only [go_sem, Nat.reduceLT, Nat.reduceLeDiff, Nat.reduceEqDiff, Nat.reduceAdd, Nat.reduceSub, Nat.reduceMul, Nat.reduceBEq, Int.reduceToNat, Int.reduceEq, Int.reduceLT, Int.reduceLE, Int.reduceAdd, ↓reduceIte, reduceCtorEq]) <;> rfl) (fun hc => ?_) (fun hc => ?_)
    · refine EvC.seq (EvC.rg (by (simp only [go_sem, Nat.reduceLT, Nat.reduceLeDiff, Nat.reduceEqDiff, Nat.reduceAdd, Nat.reduceSub, Nat.reduceMul, Nat.reduceBEq, Int.reduceToNat, Int.reduceEq, Int.reduceLT, Int.reduceLE, Int.reduceAdd, ↓reduceIte, reduceCtorEq]) <;> rfl) (by simp) ?_)
      have hy1 : y.1 < 0 := by simpa using hc
      have hJ : stepJ a b par (s, t) i = ((0, 0), -1) := by simp [stepJ, k3, l3, hp, hx0, hy1]
      refine EvC.ret ⟨.inl rfl, _, (by (simp only [go_sem, Nat.reduceLT, Nat.reduceLeDiff, Nat.reduceEqDiff, Nat.reduceAdd, Nat.reduceSub, Nat.reduceMul, Nat.reduceBEq, Int.reduceToNat, Int.reduceEq, Int.reduceLT, Int.reduceLE, Int.reduceAdd, ↓reduceIte, reduceCtorEq]) <;> rfl), ?_, by simp [edgeA, AV.noref, AV.norefs]⟩
      simp only [go_sem, Nat.reduceLT, Nat.reduceLeDiff, Nat.reduceEqDiff, Nat.reduceAdd, Nat.reduceSub, Nat.reduceMul, Nat.reduceBEq, Int.reduceToNat, Int.reduceEq, Int.reduceLT, Int.reduceLE, Int.reduceAdd, ↓reduceIte, reduceCtorEq]
      rw [hJ]; rfl
    have hy0 : ¬ y.1 < 0 := by simpa using hc
    refine EvC.skip ?_
    have hm1 : 0 ≤ x.2 * b.outs := Int.mul_nonneg (by omega) (by omega)
    have hm2 : x.2 * b.outs ≤ 16 * 16 := Int.mul_le_mul (by omega) (by omega) (by omega) (by omega)
    apply EvC.seq
    apply EvC.drd mixed
    · (simp only [go_sem, Nat.reduceLT, Nat.reduceLeDiff, Nat.reduceEqDiff, Nat.reduceAdd, Nat.reduceSub, Nat.reduceMul, Nat.reduceBEq, Int.reduceToNat, Int.reduceEq, Int.reduceLT, Int.reduceLE, Int.reduceAdd, ↓reduceIte, reduceCtorEq]) <;> rfl
    · simp; exact ⟨inI64_of (by omega) (by omega), inI64_of (by omega) (by omega)⟩
    · kernel_rfl
    have hJ : stepJ a b par (s, t) i = ((x.1, y.1), x.2 * b.outs + y.2) := by simp [stepJ, k3, l3, hp, hx0, hy0]
    refine EvC.ret ⟨.inl rfl, _, (by (simp only [go_sem, Nat.reduceLT, Nat.reduceLeDiff, Nat.reduceEqDiff, Nat.reduceAdd, Nat.reduceSub, Nat.reduceMul, Nat.reduceBEq, Int.reduceToNat, Int.reduceEq, Int.reduceLT, Int.reduceLE, Int.reduceAdd, ↓reduceIte, reduceCtorEq]) <;> rfl), ?_, by simp [edgeA, AV.noref, AV.norefs]⟩
    simp only [go_sem, Nat.reduceLT, Nat.reduceLeDiff, Nat.reduceEqDiff, Nat.reduceAdd, Nat.reduceSub, Nat.reduceMul, Nat.reduceBEq, Int.reduceToNat, Int.reduceEq, Int.reduceLT, Int.reduceLE, Int.reduceAdd, ↓reduceIte, reduceCtorEq]
    rw [hJ]; rfl
  have hp : ¬ par = 1 := by simpa using hc
  have hp0 : par = 0 := by rcases h.p with h | h; exact h; exact absurd h hp
  refine EvC.skip ?_
  obtain ⟨r2, y, l1, l2, l3, l4⟩ := stepR_get h.vb ht.1 ht.2 (show 0 ≤ x.2 ∧ x.2 < b.ins by rw [← h.ser hp0]; omega)
  have hy := fits_edge l4
  apply EvC.seq
  apply EvC.drd mixed
  · (simp only [go_sem, Nat.reduceLT, Nat.reduceLeDiff, Nat.reduceEqDiff, Nat.reduceAdd, Nat.reduceSub, Nat.reduceMul, Nat.reduceBEq, Int.reduceToNat, Int.reduceEq, Int.reduceLT, Int.reduceLE, Int.reduceAdd, ↓reduceIte, reduceCtorEq, l1, rowC, l2, edgeC]) <;> rfl
  · simp [ht.1, hx'.2.2.1]
  · kernel_rfl
  refine EvC.seq ?_
  refine EvC.seq (EvC.rg (by (simp only [go_sem, Nat.reduceLT, Nat.reduceLeDiff, Nat.reduceEqDiff, Nat.reduceAdd, Nat.reduceSub, Nat.reduceMul, Nat.reduceBEq, Int.reduceToNat, Int.reduceEq, Int.reduceLT, Int.reduceLE, Int.reduceAdd, ↓reduceIte, reduceCtorEq]) <;> rfl) (by simp) ?_)
  refine EvC.cond (by (simp only [go_sem, Nat.reduceLT, Nat.reduceLeDiff, Nat.reduceEqDiff, Nat.reduceAdd, Nat.reduceSub, Nat.reduceMul, Nat.reduceBEq, Int.reduceToNat, Int.reduceEq, Int.reduceLT, Int.reduceLE, Int.reduceAdd, ↓reduceIte, reduceCtorEq]) <;> rfl) (fun hc => ?_) (fun hc => ?_)
  · refine EvC.seq (EvC.rg (by (simp only [go_sem, Nat.reduceLT, Nat.reduceLeDiff, Nat.reduceEqDiff, Nat.reduceAdd, Nat.reduceSub, Nat.reduceMul, Nat.reduceBEq, Int.reduceToNat, Int.reduceEq, Int.reduceLT, Int.reduceLE, Int.reduceAdd, ↓reduceIte, reduceCtorEq]) <;> rfl) (by simp) ?_)
    have hy1 : y.1 < 0 := by simpa using hc
    have hJ : stepJ a b par (s, t) i = ((0, 0), -1) := by simp [stepJ, k3, l3, hp, hx0, hy1]
    refine EvC.ret ⟨.inl rfl, _, (by (simp only [go_sem, Nat.reduceLT, Nat.reduceLeDiff, Nat.reduceEqDiff, Nat.reduceAdd, Nat.reduceSub, Nat.reduceMul, Nat.reduceBEq, Int.reduceToNat, Int.reduceEq, Int.reduceLT, Int.reduceLE, Int.reduceAdd, ↓reduceIte, reduceCtorEq]) <;> rfl), ?_, by simp [edgeA, AV.noref, AV.norefs]⟩
    simp only [go_sem, Nat.reduceLT, Nat.reduceLeDiff, Nat.reduceEqDiff, Nat.reduceAdd, Nat.reduceSub, Nat.reduceMul, Nat.reduceBEq, Int.reduceToNat, Int.reduceEq, Int.reduceLT, Int.reduceLE, Int.reduceAdd, ↓reduceIte, reduceCtorEq]
    rw [hJ]; rfl
  have hy0 : ¬ y.1 < 0 := by simpa using hc
  refine EvC.skip ?_
  apply EvC.seq
  apply EvC.drd mixed
  · (simp only [go_sem, Nat.reduceLT, Nat.reduceLeDiff, Nat.reduceEqDiff, Nat.reduceAdd, Nat.reduceSub, Nat.reduceMul, Nat.reduceBEq, Int.reduceToNat, Int.reduceEq, Int.reduceLT, Int.reduceLE, Int.reduceAdd, ↓reduceIte, reduceCtorEq]) <;> rfl
  · simp
  · kernel_rfl
  have hJ : stepJ a b par (s, t) i = ((x.1, y.1), y.2) := by simp [stepJ, k3, l3, hp, hx0, hy0]
  refine EvC.ret ⟨.inl rfl, _, (by (simp only [go_sem, Nat.reduceLT, Nat.reduceLeDiff, Nat.reduceEqDiff, Nat.reduceAdd, Nat.reduceSub, Nat.reduceMul, Nat.reduceBEq, Int.reduceToNat, Int.reduceEq, Int.reduceLT, Int.reduceLE, Int.reduceAdd, ↓reduceIte, reduceCtorEq]) <;> rfl), ?_, by simp [edgeA, AV.noref, AV.norefs]⟩
  simp only [go_sem, Nat.reduceLT, Nat.reduceLeDiff, Nat.reduceEqDiff, Nat.reduceAdd, Nat.reduceSub, Nat.reduceMul, Nat.reduceBEq, Int.reduceToNat, Int.reduceEq, Int.reduceLT, Int.reduceLE, Int.reduceAdd, ↓reduceIte, reduceCtorEq]
  rw [hJ]; rfl
end Go.Avl
namespace Go.Avl
open Go Go.Proofs.Try
set_option maxRecDepth 10000
set_option linter.unusedSimpArgs false

/-! ### Tables of bools, row by row -/
def prs (n m : Nat) : List (Nat × Nat) := (List.range n).flatMap fun s => (List.range m).map fun t => (s, t)
theorem mem_prs {n m : Nat} {p : Nat × Nat} : p ∈ prs n m ↔ p.1 < n ∧ p.2 < m := by
  obtain ⟨s, t⟩ := p
  simp only [prs, List.mem_flatMap, List.mem_range, List.mem_map, Prod.mk.injEq]
  constructor
  · rintro ⟨a, h1, b, h2, rfl, rfl⟩; exact ⟨h1, h2⟩
  · rintro ⟨h1, h2⟩; exact ⟨s, h1, t, h2, rfl, rfl⟩
theorem prs_succ (n m : Nat) : prs (n + 1) m = prs n m ++ (List.range m).map fun t => (n, t) := by simp [prs, List.range_succ]
theorem prs_len (n m : Nat) : (prs n m).length = n * m := by
  induction n with
  | zero => simp [prs]
  | succ n ih => rw [prs_succ, List.length_append, ih]; simp [Nat.succ_mul]
theorem nodup_prs (n m : Nat) : (prs n m).Nodup := by
  induction n with
  | zero => simp [prs]
  | succ n ih =>
    rw [prs_succ, List.nodup_append]
    refine ⟨ih, ?_, ?_⟩
    · rw [List.nodup_iff_pairwise_ne, List.pairwise_map]
      exact (List.nodup_iff_pairwise_ne.1 List.nodup_range).imp fun h e => h (by simpa using e)
    · intro a ha b hb e
      subst e
      have := (mem_prs.1 ha).1
      obtain ⟨t, _, rfl⟩ := List.mem_map.1 hb
      simp at this
abbrev Mtx := Nat → Nat → Bool
def updM (M : Mtx) (s t : Nat) : Mtx := fun a b => M a b || (decide (a = s) && decide (b = t))
theorem updM_true {M : Mtx} {s t a b : Nat} : updM M s t a b = true ↔ M a b = true ∨ (a = s ∧ b = t) := by simp [updM]
def cntM (n m : Nat) (M : Mtx) : Nat := (prs n m).countP fun p => M p.1 p.2
theorem countP_one {α : Type} [DecidableEq α] {p q : α → Bool} {x : α} (hp : p x = false) (hq : q x = true) (he : ∀ y, y ≠ x → q y = p y) : ∀ {l : List α}, l.Nodup → x ∈ l → l.countP q = l.countP p + 1
  | [], _, h => by cases h
  | y :: l, hn, h => by
    rw [List.nodup_cons] at hn
    by_cases hy : y = x
    · subst hy
      have : l.countP q = l.countP p := List.countP_congr fun z hz => by rw [he z (fun e => hn.1 (e ▸ hz))]
      rw [List.countP_cons_of_pos hq, List.countP_cons_of_neg (by simp [hp]), this]
    · have h2 : x ∈ l := by
        rcases List.mem_cons.1 h with h | h
        · exact absurd h.symm hy
        · exact h
      have := countP_one hp hq he hn.2 h2
      simp only [List.countP_cons, he y hy, this]
      omega
theorem cntM_upd {n m s t : Nat} {M : Mtx} (hs : s < n) (ht : t < m) (h : M s t = false) : cntM n m (updM M s t) = cntM n m M + 1 := by
  refine countP_one (x := (s, t)) h (by simp [updM]) (fun y hy => ?_) (nodup_prs n m) (mem_prs.2 ⟨hs, ht⟩)
  obtain ⟨a, b⟩ := y
  simp only [updM, ne_eq, Prod.mk.injEq] at hy ⊢
  by_cases h1 : a = s <;> by_cases h2 : b = t <;> simp [h1, h2] at hy ⊢
theorem cntM_le (n m : Nat) (M : Mtx) : cntM n m M ≤ n * m := by rw [← prs_len]; exact List.countP_le_length
theorem cntM_congr {n m : Nat} {M M' : Mtx} (h : ∀ s t, s < n → t < m → M s t = M' s t) : cntM n m M = cntM n m M' :=
  List.countP_congr fun p hp => by rw [h _ _ (mem_prs.1 hp).1 (mem_prs.1 hp).2]

/-! ### Which pairs are reached -/
inductive ReachJ (a b : Mach) (par : Int) : Nat → Nat → Prop
  | start : ReachJ a b par 0 0
  | step (s t i : Nat) (h : ReachJ a b par s t) (hi : (i : Int) < a.ins) (hd : 0 ≤ (stepJ a b par (s, t) i).2) : ReachJ a b par (stepJ a b par (s, t) i).1.1.toNat (stepJ a b par (s, t) i).1.2.toNat
open Classical in
/-- How many pairs are reached. -/
noncomputable def reachN (a b : Mach) (par : Int) : Nat := cntM a.rows.length b.rows.length fun s t => decide (ReachJ a b par s t)

theorem stepJ_ok {a b : Mach} {par : Int} (h : Fit a b par) {s t i : Int} (hs : 0 ≤ s ∧ s < a.rows.length) (ht : 0 ≤ t ∧ t < b.rows.length) (hi : 0 ≤ i ∧ i < a.ins) :
    stepJ a b par (s, t) i = ((0, 0), -1) ∨ (0 ≤ (stepJ a b par (s, t) i).2 ∧ 0 ≤ (stepJ a b par (s, t) i).1.1 ∧ (stepJ a b par (s, t) i).1.1 < a.rows.length ∧ 0 ≤ (stepJ a b par (s, t) i).1.2 ∧ (stepJ a b par (s, t) i).1.2 < b.rows.length) := by
  obtain ⟨r1, x, k1, k2, k3, k4⟩ := stepR_get h.va hs.1 hs.2 hi
  have hx := fits_edge k4
  by_cases hx0 : x.1 < 0
  · left; simp [stepJ, k3, hx0]
  by_cases hp : par = 1
  · obtain ⟨r2, y, l1, l2, l3, l4⟩ := stepR_get h.vb ht.1 ht.2 (show 0 ≤ i ∧ i < b.ins by rw [← h.par hp]; exact hi)
    have hy := fits_edge l4
    by_cases hy0 : y.1 < 0
    · left; simp [stepJ, k3, l3, hp, hx0, hy0]
    · right
      have hm1 : 0 ≤ x.2 * b.outs := Int.mul_nonneg (by omega) (by have := h.vb.outs; omega)
      simp only [stepJ, k3, l3, if_neg hx0, if_pos hp, if_neg hy0]
      omega
  · have hp0 : par = 0 := by rcases h.p with h | h; exact h; exact absurd h hp
    obtain ⟨r2, y, l1, l2, l3, l4⟩ := stepR_get h.vb ht.1 ht.2 (show 0 ≤ x.2 ∧ x.2 < b.ins by rw [← h.ser hp0]; omega)
    have hy := fits_edge l4
    by_cases hy0 : y.1 < 0
    · left; simp [stepJ, k3, l3, hp, hx0, hy0]
    · right
      simp only [stepJ, k3, l3, if_neg hx0, if_neg hp, if_neg hy0]
      omega
theorem reachJ_lt {a b : Mach} {par : Int} (h : Fit a b par) {s t : Nat} (hr : ReachJ a b par s t) : s < a.rows.length ∧ t < b.rows.length := by
  induction hr with
  | start => exact ⟨h.va.rows.1, h.vb.rows.1⟩
  | step s t i _ hi hd ih =>
    rcases stepJ_ok h (s := (s : Int)) (t := (t : Int)) (i := (i : Int)) (by omega) (by omega) (by omega) with e | e
    · rw [e] at hd; simp at hd
    · omega
/-- What is known of a table of pairs that are reached. -/
structure RInv (a b : Mach) (par : Int) (M : Mtx) (n : Nat) : Prop where
  zero : M 0 0 = true
  sub : ∀ s t, M s t = true → ReachJ a b par s t
  cnt : n = cntM a.rows.length b.rows.length M
/-- Closed under the steps of what comes before. -/
def Clo (a b : Mach) (par : Int) (M : Mtx) (s t i : Nat) : Prop := ∀ s' t' i' : Nat, M s' t' = true → (i' : Int) < a.ins → (s' < s ∨ (s' = s ∧ (t' < t ∨ (t' = t ∧ i' < i)))) → 0 ≤ (stepJ a b par (s', t') i').2 → M (stepJ a b par (s', t') i').1.1.toNat (stepJ a b par (s', t') i').1.2.toNat = true
open Classical in
theorem RInv.done {a b : Mach} {par : Int} {M : Mtx} {n : Nat} (hf : Fit a b par) (h : RInv a b par M n) (hc : Clo a b par M a.rows.length 0 0) : n = reachN a b par := by
  rw [h.cnt, reachN]
  refine cntM_congr fun s t _ _ => ?_
  rw [Bool.eq_iff_iff, decide_eq_true_eq]
  refine ⟨h.sub s t, fun hr => ?_⟩
  induction hr with
  | start => exact h.zero
  | step s t i hr hi hd ih => 
    have hl := reachJ_lt hf hr
    exact hc s t i (ih hl.1 hl.2) hi (.inl hl.1) hd
theorem RInv.le {a b : Mach} {par : Int} {M : Mtx} {n : Nat} (h : RInv a b par M n) : n ≤ a.rows.length * b.rows.length := by rw [h.cnt]; exact cntM_le _ _ _

/-! ### The table in memory -/
def bcells (f : Nat → Bool) (m : Nat) : List (List AV) := (List.range m).map fun t => [.sc (.bool (f t))]
theorem bcells_len (f : Nat → Bool) (m : Nat) : (bcells f m).length = m := by simp [bcells]
theorem bcells_get {f : Nat → Bool} {m t : Nat} (h : t < m) : (bcells f m)[t]? = some [.sc (.bool (f t))] := by rw [bcells, List.getElem?_map, List.getElem?_range h]; rfl
@[go_sem] theorem norefs_bcells (f : Nat → Bool) (m : Nat) : (bcells f m).all AV.norefs = true := by simp [List.all_eq_true, bcells, AV.norefs, AV.noref]
theorem zeros_row (m : Nat) : List.replicate m [AV.sc (.bool false)] = bcells (fun _ => false) m := by
  refine List.ext_getElem (by simp [bcells]) fun i h1 h2 => by simp [bcells]
def brow (M : Mtx) (m s : Nat) : RObj := .arr 1 (bcells (M s) m) false
theorem brow_ren (M : Mtx) (m n : Nat) (K : List (Nat × Nat)) : ((List.range n).map (brow M m)).map (RObj.ren K) = (List.range n).map (brow M m) := by
  rw [List.map_map]
  refine List.map_congr_left fun s _ => ?_
  simp only [Function.comp, brow, RObj.ren, norefs_bcells, if_true]
theorem brow_get {M : Mtx} {m n s : Nat} (h : s < n) : ((List.range n).map (brow M m))[s]? = some (brow M m s) := by rw [List.getElem?_map, List.getElem?_range h]; rfl
theorem bcells_set {M : Mtx} {m s t : Nat} (ht : t < m) : (bcells (M s) m).set t [.sc (.bool true)] = bcells (updM M s t s) m := by
  rw [bcells, range_set _ _ ht, bcells]
  refine List.map_congr_left fun k _ => ?_
  by_cases e2 : k = t
  · subst e2; simp [updM]
  · simp [updM, e2]
theorem brow_set {M : Mtx} {m n s t : Nat} (hs : s < n) (ht : t < m) : ((List.range n).map (brow M m)).set s (.arr 1 ((bcells (M s) m).set t [.sc (.bool true)]) false) = (List.range n).map (brow (updM M s t) m) := by
  rw [range_set _ _ hs, bcells_set ht]
  refine List.map_congr_left fun i _ => ?_
  by_cases e : i = s
  · subst e; rw [if_pos rfl, brow]
  · rw [if_neg e, brow, brow]
    congr 2
    funext k
    simp [updM, e]
/-- The rows, as objects. -/
def mtabM (M : Mtx) (n m : Nat) : Mem := mseg ((List.range n).map (brow M m))
theorem mtabM_zero (M : Mtx) (m : Nat) : mtabM M 0 m = [] := rfl
theorem mtabM_look (M : Mtx) {n m s : Nat} (h : s < n) : mlook (mtabM M n m) s = some (.arr 1 (bcells (M s) m) false) := by rw [mtabM, mlook_mseg, brow_get h]; rfl
theorem mtabM_set (M : Mtx) {n m s t : Nat} (hs : s < n) (ht : t < m) : mset (mtabM M n m) s (.arr 1 ((bcells (M s) m).set t [.sc (.bool true)]) false) = mtabM (updM M s t) n m := by
  rw [mtabM, mset_mseg _ (by simpa using hs), brow_set hs ht]; rfl
theorem mtabM_ren (M : Mtx) (n m : Nat) (K : List (Nat × Nat)) : renMem (mtabM M n m) K (idK n) = mtabM M n m := by
  rw [mtabM, renMem_seg K (by simp), brow_ren]
theorem mtabM_snoc (M : Mtx) (n m : Nat) : mtabM M n m ++ [(n, .arr 1 (bcells (M n) m) false)] = mtabM M (n + 1) m := by
  rw [mtabM, mseg_snoc _ _ (n := n) (by simp), mtabM, List.range_succ, List.map_append]; rfl
theorem mtabF_snoc (n m : Nat) : mtabM (fun _ _ => false) n m ++ [(n, .arr 1 (bcells (fun _ => false) m) false)] = mtabM (fun _ _ => false) (n + 1) m := mtabM_snoc (fun _ _ => false) n m
theorem mtabM_set_hi (M : Mtx) {n m s t k : Nat} (hn : n ≤ 1000000) (hs : s < n) (ht : t < m) (hk : 1000000 ≤ k) (o : RObj) : mset (mset (mtabM M n m) k o) s (.arr 1 ((bcells (M s) m).set t [.sc (.bool true)]) false) = mset (mtabM (updM M s t) n m) k o := by
  rw [mset_comm (by rw [mtabM_look M hs]; rfl) (by omega), mtabM_set M hs ht]
end Go.Avl
namespace Go.Avl
open Go Go.Proofs.Try
set_option maxRecDepth 10000
set_option linter.unusedSimpArgs false

theorem check27_is (m : Mach) (hr : ∀ r ∈ m.rows, r.2.length < 1000000) : PureIs prog 34 [.ag m.cells] (.sc (.int .i64 (checkM m))) := by
  refine PureIs.of (nv := 6) (hid := [19, 33, 38, 49, 53, 71, 94]) func34 rfl (by kernel_rfl) (by simp [ntmps34]) fun _ => ?_
  rw [ntmps34, results34]
  refine EvC.seq (EvC.rg (by (simp only [go_sem, Nat.reduceLT, Nat.reduceLeDiff, Nat.reduceEqDiff, Nat.reduceAdd, Nat.reduceSub, Nat.reduceMul, Nat.reduceBEq, Int.reduceToNat, Int.reduceEq, Int.reduceLT, Int.reduceLE, Int.reduceAdd, ↓reduceIte, reduceCtorEq, Mach.cells]) <;> rfl) (by simp) ?_)
  refine EvC.frzB 0 (by (simp only [go_sem, Nat.reduceLT, Nat.reduceLeDiff, Nat.reduceEqDiff, Nat.reduceAdd, Nat.reduceSub, Nat.reduceMul, Nat.reduceBEq, Int.reduceToNat, Int.reduceEq, Int.reduceLT, Int.reduceLE, Int.reduceAdd, ↓reduceIte, reduceCtorEq]) <;> rfl) ?_
  refine EvC.seq ?_
  apply EvC.seq
  apply EvC.trd
  · (simp only [go_sem, Nat.reduceLT, Nat.reduceLeDiff, Nat.reduceEqDiff, Nat.reduceAdd, Nat.reduceSub, Nat.reduceMul, Nat.reduceBEq, Int.reduceToNat, Int.reduceEq, Int.reduceLT, Int.reduceLE, Int.reduceAdd, ↓reduceIte, reduceCtorEq]) <;> rfl
  · simp
  refine EvC.cond (by (simp only [go_sem, Nat.reduceLT, Nat.reduceLeDiff, Nat.reduceEqDiff, Nat.reduceAdd, Nat.reduceSub, Nat.reduceMul, Nat.reduceBEq, Int.reduceToNat, Int.reduceEq, Int.reduceLT, Int.reduceLE, Int.reduceAdd, ↓reduceIte, reduceCtorEq]) <;> rfl) (fun hc => ?_) (fun hc => ?_)
  · have h : 16 < m.ins ∨ 16 < m.outs ∨ 64 < (m.rows.length : Int) := by
      by_cases h1 : 16 < m.ins <;> by_cases h2 : 16 < m.outs <;> simp_all
    refine EvC.seq (EvC.rg (by (simp only [go_sem, Nat.reduceLT, Nat.reduceLeDiff, Nat.reduceEqDiff, Nat.reduceAdd, Nat.reduceSub, Nat.reduceMul, Nat.reduceBEq, Int.reduceToNat, Int.reduceEq, Int.reduceLT, Int.reduceLE, Int.reduceAdd, ↓reduceIte, reduceCtorEq]) <;> rfl) (by simp) ?_)
    refine EvC.ret ⟨.inl rfl, _, (by (simp only [go_sem, Nat.reduceLT, Nat.reduceLeDiff, Nat.reduceEqDiff, Nat.reduceAdd, Nat.reduceSub, Nat.reduceMul, Nat.reduceBEq, Int.reduceToNat, Int.reduceEq, Int.reduceLT, Int.reduceLE, Int.reduceAdd, ↓reduceIte, reduceCtorEq]) <;> rfl), ?_, rfl⟩
    simp only [go_sem, Nat.reduceLT, Nat.reduceLeDiff, Nat.reduceEqDiff, Nat.reduceAdd, Nat.reduceSub, Nat.reduceMul, Nat.reduceBEq, Int.reduceToNat, Int.reduceEq, Int.reduceLT, Int.reduceLE, Int.reduceAdd, ↓reduceIte, reduceCtorEq]
    rw [checkM, if_pos h]
  have hn : ¬ (16 < m.ins ∨ 16 < m.outs ∨ 64 < (m.rows.length : Int)) := by
    by_cases h1 : 16 < m.ins <;> by_cases h2 : 16 < m.outs <;> simp_all
  clear hc
  refine EvC.skip ?_
  refine EvC.seq ?_
  apply EvC.seq
  apply EvC.trd
  · (simp only [go_sem, Nat.reduceLT, Nat.reduceLeDiff, Nat.reduceEqDiff, Nat.reduceAdd, Nat.reduceSub, Nat.reduceMul, Nat.reduceBEq, Int.reduceToNat, Int.reduceEq, Int.reduceLT, Int.reduceLE, Int.reduceAdd, ↓reduceIte, reduceCtorEq]) <;> rfl
  · simp
  refine EvC.cond (by (simp only [go_sem, Nat.reduceLT, Nat.reduceLeDiff, Nat.reduceEqDiff, Nat.reduceAdd, Nat.reduceSub, Nat.reduceMul, Nat.reduceBEq, Int.reduceToNat, Int.reduceEq, Int.reduceLT, Int.reduceLE, Int.reduceAdd, ↓reduceIte, reduceCtorEq]) <;> rfl) (fun hc => ?_) (fun hc => ?_)
  · have h : m.ins < 1 ∨ m.outs < 1 ∨ (m.rows.length : Int) < 1 := by
      by_cases h1 : m.ins < 1 <;> by_cases h2 : m.outs < 1 <;> simp_all
    refine EvC.seq (EvC.rg (by (simp only [go_sem, Nat.reduceLT, Nat.reduceLeDiff, Nat.reduceEqDiff, Nat.reduceAdd, Nat.reduceSub, Nat.reduceMul, Nat.reduceBEq, Int.reduceToNat, Int.reduceEq, Int.reduceLT, Int.reduceLE, Int.reduceAdd, ↓reduceIte, reduceCtorEq]) <;> rfl) (by simp) ?_)
    refine EvC.ret ⟨.inl rfl, _, (by (simp only [go_sem, Nat.reduceLT, Nat.reduceLeDiff, Nat.reduceEqDiff, Nat.reduceAdd, Nat.reduceSub, Nat.reduceMul, Nat.reduceBEq, Int.reduceToNat, Int.reduceEq, Int.reduceLT, Int.reduceLE, Int.reduceAdd, ↓reduceIte, reduceCtorEq]) <;> rfl), ?_, rfl⟩
    simp only [go_sem, Nat.reduceLT, Nat.reduceLeDiff, Nat.reduceEqDiff, Nat.reduceAdd, Nat.reduceSub, Nat.reduceMul, Nat.reduceBEq, Int.reduceToNat, Int.reduceEq, Int.reduceLT, Int.reduceLE, Int.reduceAdd, ↓reduceIte, reduceCtorEq]
    rw [checkM, if_neg hn, if_pos h]
  have hn2 : ¬ (m.ins < 1 ∨ m.outs < 1 ∨ (m.rows.length : Int) < 1) := by
    by_cases h1 : m.ins < 1 <;> by_cases h2 : m.outs < 1 <;> simp_all
    have : m.rows.length ≠ 0 := by simpa using hc
    omega
  clear hc
  have hw : checkM m = if m.rows.all (rowOk m) = true then 0 else 1 := by rw [checkM, if_neg hn, if_neg hn2]
  have hlen : (m.rows.length : Int) ≤ 64 := by omega
  refine EvC.skip ?_
  refine EvC.seq ?_
  refine EvC.seq (EvC.rg (by (simp only [go_sem, Nat.reduceLT, Nat.reduceLeDiff, Nat.reduceEqDiff, Nat.reduceAdd, Nat.reduceSub, Nat.reduceMul, Nat.reduceBEq, Int.reduceToNat, Int.reduceEq, Int.reduceLT, Int.reduceLE, Int.reduceAdd, ↓reduceIte, reduceCtorEq]) <;> rfl) (by simp) ?_)
  refine EvC.block ?_  -- 0
  refine EvC.loopS (σ := Nat) (fun i => ⟨[(1, .ia m.cells), (3, .sc (.int .i64 i))], [], [], 0⟩) (fun i => m.rows.length - i) (fun i => i ≤ m.rows.length ∧ m.rows.all (rowOk m) = (m.rows.drop i).all (rowOk m)) [1, 3] 0 ?_ ?_
  · refine ⟨[], 0, rfl, (by (simp only [go_sem, Nat.reduceLT, Nat.reduceLeDiff, Nat.reduceEqDiff, Nat.reduceAdd, Nat.reduceSub, Nat.reduceMul, Nat.reduceBEq, Int.reduceToNat, Int.reduceEq, Int.reduceLT, Int.reduceLE, Int.reduceAdd, ↓reduceIte, reduceCtorEq, Mach.cells]) <;> rfl), Nat.zero_le _, by simp⟩
  rintro i ⟨h1, h2⟩
  refine EvC.seq ?_
  refine EvC.seq (EvC.rg (by (simp only [go_sem, Nat.reduceLT, Nat.reduceLeDiff, Nat.reduceEqDiff, Nat.reduceAdd, Nat.reduceSub, Nat.reduceMul, Nat.reduceBEq, Int.reduceToNat, Int.reduceEq, Int.reduceLT, Int.reduceLE, Int.reduceAdd, ↓reduceIte, reduceCtorEq, Mach.cells]) <;> rfl) (by simp) ?_)
  refine EvC.cond (by (simp only [go_sem, Nat.reduceLT, Nat.reduceLeDiff, Nat.reduceEqDiff, Nat.reduceAdd, Nat.reduceSub, Nat.reduceMul, Nat.reduceBEq, Int.reduceToNat, Int.reduceEq, Int.reduceLT, Int.reduceLE, Int.reduceAdd, ↓reduceIte, reduceCtorEq]) <;> rfl) (fun hc => ?_) (fun hc => ?_)
  rotate_left
  · refine EvC.exit ?_  -- 0
    have hi : ¬ i < m.rows.length := by simpa using hc
    refine EvC.seq (EvC.rg (by (simp only [go_sem, Nat.reduceLT, Nat.reduceLeDiff, Nat.reduceEqDiff, Nat.reduceAdd, Nat.reduceSub, Nat.reduceMul, Nat.reduceBEq, Int.reduceToNat, Int.reduceEq, Int.reduceLT, Int.reduceLE, Int.reduceAdd, ↓reduceIte, reduceCtorEq]) <;> rfl) (by simp) ?_)
    refine EvC.ret ⟨.inl rfl, _, (by (simp only [go_sem, Nat.reduceLT, Nat.reduceLeDiff, Nat.reduceEqDiff, Nat.reduceAdd, Nat.reduceSub, Nat.reduceMul, Nat.reduceBEq, Int.reduceToNat, Int.reduceEq, Int.reduceLT, Int.reduceLE, Int.reduceAdd, ↓reduceIte, reduceCtorEq]) <;> rfl), ?_, rfl⟩
    simp only [go_sem, Nat.reduceLT, Nat.reduceLeDiff, Nat.reduceEqDiff, Nat.reduceAdd, Nat.reduceSub, Nat.reduceMul, Nat.reduceBEq, Int.reduceToNat, Int.reduceEq, Int.reduceLT, Int.reduceLE, Int.reduceAdd, ↓reduceIte, reduceCtorEq]
    rw [hw, h2, List.drop_of_length_le (by omega)]; rfl
  have hi : i < m.rows.length := by simpa using hc
  have he : m.rows[i]? = some m.rows[i] := List.getElem?_eq_getElem hi
  have hd : m.rows.drop i = m.rows[i] :: m.rows.drop (i + 1) := List.drop_eq_getElem_cons hi
  generalize m.rows[i] = r at he hd
  rw [hd, List.all_cons] at h2
  refine EvC.skip ?_
  refine EvC.seq ?_
  refine EvC.block ?_  -- 1
  refine EvC.seq ?_
  apply EvC.seq
  apply EvC.drd mixed
  · (simp only [go_sem, Nat.reduceLT, Nat.reduceLeDiff, Nat.reduceEqDiff, Nat.reduceAdd, Nat.reduceSub, Nat.reduceMul, Nat.reduceBEq, Int.reduceToNat, Int.reduceEq, Int.reduceLT, Int.reduceLE, Int.reduceAdd, ↓reduceIte, reduceCtorEq, Mach.cells, he, rowC]) <;> rfl
  · simp
  · kernel_rfl
  refine EvC.cond (by (simp only [go_sem, Nat.reduceLT, Nat.reduceLeDiff, Nat.reduceEqDiff, Nat.reduceAdd, Nat.reduceSub, Nat.reduceMul, Nat.reduceBEq, Int.reduceToNat, Int.reduceEq, Int.reduceLT, Int.reduceLE, Int.reduceAdd, ↓reduceIte, reduceCtorEq]) <;> rfl) (fun hc => ?_) (fun hc => ?_)
  · have hl : ¬ (r.2.length : Int) = m.ins := by simpa using hc
    refine EvC.seq (EvC.rg (by (simp only [go_sem, Nat.reduceLT, Nat.reduceLeDiff, Nat.reduceEqDiff, Nat.reduceAdd, Nat.reduceSub, Nat.reduceMul, Nat.reduceBEq, Int.reduceToNat, Int.reduceEq, Int.reduceLT, Int.reduceLE, Int.reduceAdd, ↓reduceIte, reduceCtorEq]) <;> rfl) (by simp) ?_)
    refine EvC.ret ⟨.inl rfl, _, (by (simp only [go_sem, Nat.reduceLT, Nat.reduceLeDiff, Nat.reduceEqDiff, Nat.reduceAdd, Nat.reduceSub, Nat.reduceMul, Nat.reduceBEq, Int.reduceToNat, Int.reduceEq, Int.reduceLT, Int.reduceLE, Int.reduceAdd, ↓reduceIte, reduceCtorEq]) <;> rfl), ?_, rfl⟩
    simp only [go_sem, Nat.reduceLT, Nat.reduceLeDiff, Nat.reduceEqDiff, Nat.reduceAdd, Nat.reduceSub, Nat.reduceMul, Nat.reduceBEq, Int.reduceToNat, Int.reduceEq, Int.reduceLT, Int.reduceLE, Int.reduceAdd, ↓reduceIte, reduceCtorEq]
    have : rowOk m r = false := by simp [rowOk, hl]
    rw [hw, h2, this]; rfl
  have hl : (r.2.length : Int) = m.ins := by simpa using hc
  have hro : rowOk m r = r.2.all fun e => fitsR m.rows.length m.outs e.1 e.2 := by simp [rowOk, hl, List.any_eq_not_all_not]
  refine EvC.skip ?_
  refine EvC.seq (EvC.rg (by (simp only [go_sem, Nat.reduceLT, Nat.reduceLeDiff, Nat.reduceEqDiff, Nat.reduceAdd, Nat.reduceSub, Nat.reduceMul, Nat.reduceBEq, Int.reduceToNat, Int.reduceEq, Int.reduceLT, Int.reduceLE, Int.reduceAdd, ↓reduceIte, reduceCtorEq]) <;> rfl) (by simp) ?_)
  refine EvC.block ?_  -- 2
  refine EvC.loopS (σ := Nat) (fun k => ⟨[(1, .ia m.cells), (3, .sc (.int .i64 i)), (4, .sc (.int .i64 k))], [], [], 0⟩) (fun k => r.2.length - k) (fun k => k ≤ r.2.length ∧ rowOk m r = (r.2.drop k).all fun e => fitsR m.rows.length m.outs e.1 e.2) [1, 3, 4] 0 ?_ ?_
  · refine ⟨[], 0, rfl, (by (simp only [go_sem, Nat.reduceLT, Nat.reduceLeDiff, Nat.reduceEqDiff, Nat.reduceAdd, Nat.reduceSub, Nat.reduceMul, Nat.reduceBEq, Int.reduceToNat, Int.reduceEq, Int.reduceLT, Int.reduceLE, Int.reduceAdd, ↓reduceIte, reduceCtorEq, Mach.cells]) <;> rfl), Nat.zero_le _, by simp [hro]⟩
  rintro k ⟨k1, k2⟩
  refine EvC.seq ?_
  refine EvC.seq (EvC.rg (by (simp only [go_sem, Nat.reduceLT, Nat.reduceLeDiff, Nat.reduceEqDiff, Nat.reduceAdd, Nat.reduceSub, Nat.reduceMul, Nat.reduceBEq, Int.reduceToNat, Int.reduceEq, Int.reduceLT, Int.reduceLE, Int.reduceAdd, ↓reduceIte, reduceCtorEq, Mach.cells]) <;> rfl) (by simp) ?_)
  refine EvC.cond (by (simp only [go_sem, Nat.reduceLT, Nat.reduceLeDiff, Nat.reduceEqDiff, Nat.reduceAdd, Nat.reduceSub, Nat.reduceMul, Nat.reduceBEq, Int.reduceToNat, Int.reduceEq, Int.reduceLT, Int.reduceLE, Int.reduceAdd, ↓reduceIte, reduceCtorEq]) <;> rfl) (fun hc => ?_) (fun hc => ?_)
  rotate_left
  · refine EvC.exit ?_  -- 2
    have hk : ¬ k < r.2.length := by
      have : ¬ (k : Int) < m.ins := by simpa using hc
      omega
    rw [List.drop_of_length_le (by omega)] at k2
    refine EvC.rg (by (simp only [go_sem, Nat.reduceLT, Nat.reduceLeDiff, Nat.reduceEqDiff, Nat.reduceAdd, Nat.reduceSub, Nat.reduceMul, Nat.reduceBEq, Int.reduceToNat, Int.reduceEq, Int.reduceLT, Int.reduceLE, Int.reduceAdd, ↓reduceIte, reduceCtorEq]) <;> rfl) (by exact inI64_of (by omega) (by omega)) ?_
    exact ⟨[], i + 1, rfl, (by (simp only [go_sem, Nat.reduceLT, Nat.reduceLeDiff, Nat.reduceEqDiff, Nat.reduceAdd, Nat.reduceSub, Nat.reduceMul, Nat.reduceBEq, Int.reduceToNat, Int.reduceEq, Int.reduceLT, Int.reduceLE, Int.reduceAdd, ↓reduceIte, reduceCtorEq, Mach.cells]) <;> rfl), ⟨by omega, by rw [h2, k2]; rfl⟩, by omega⟩
  have hk : k < r.2.length := by
    have : (k : Int) < m.ins := by simpa using hc
    omega
  have hke : r.2[k]? = some r.2[k] := List.getElem?_eq_getElem hk
  have hkd : r.2.drop k = r.2[k] :: r.2.drop (k + 1) := List.drop_eq_getElem_cons hk
  generalize r.2[k] = e at hke hkd
  rw [hkd, List.all_cons] at k2
  refine EvC.skip ?_
  refine EvC.seq ?_
  refine EvC.block ?_  -- 3
  refine EvC.seq (EvC.rg (by (simp only [go_sem, Nat.reduceLT, Nat.reduceLeDiff, Nat.reduceEqDiff, Nat.reduceAdd, Nat.reduceSub, Nat.reduceMul, Nat.reduceBEq, Int.reduceToNat, Int.reduceEq, Int.reduceLT, Int.reduceLE, Int.reduceAdd, ↓reduceIte, reduceCtorEq, Mach.cells, he, rowC, hke, edgeC]) <;> rfl) (by simp) ?_)
  refine EvC.seq ?_
  apply EvC.seq
  apply EvC.trd
  · (simp only [go_sem, Nat.reduceLT, Nat.reduceLeDiff, Nat.reduceEqDiff, Nat.reduceAdd, Nat.reduceSub, Nat.reduceMul, Nat.reduceBEq, Int.reduceToNat, Int.reduceEq, Int.reduceLT, Int.reduceLE, Int.reduceAdd, ↓reduceIte, reduceCtorEq]) <;> rfl
  · simp
  refine EvC.cond (by (simp only [go_sem, Nat.reduceLT, Nat.reduceLeDiff, Nat.reduceEqDiff, Nat.reduceAdd, Nat.reduceSub, Nat.reduceMul, Nat.reduceBEq, Int.reduceToNat, Int.reduceEq, Int.reduceLT, Int.reduceLE, Int.reduceAdd, ↓reduceIte, reduceCtorEq]) <;> rfl) (fun hc => ?_) (fun hc => ?_)
  · refine EvC.exit ?_  -- 3
    have hu : e.1 = -1 ∧ e.2 = -1 := by by_cases h : e.1 = -1 <;> simp_all
    have hf : fitsR m.rows.length m.outs e.1 e.2 = true := by simp [fitsR, hu.1, hu.2]
    refine EvC.rg (by (simp only [go_sem, Nat.reduceLT, Nat.reduceLeDiff, Nat.reduceEqDiff, Nat.reduceAdd, Nat.reduceSub, Nat.reduceMul, Nat.reduceBEq, Int.reduceToNat, Int.reduceEq, Int.reduceLT, Int.reduceLE, Int.reduceAdd, ↓reduceIte, reduceCtorEq]) <;> rfl) (by exact inI64_of (by omega) (by omega)) ?_
    exact ⟨[], k + 1, rfl, (by (simp only [go_sem, Nat.reduceLT, Nat.reduceLeDiff, Nat.reduceEqDiff, Nat.reduceAdd, Nat.reduceSub, Nat.reduceMul, Nat.reduceBEq, Int.reduceToNat, Int.reduceEq, Int.reduceLT, Int.reduceLE, Int.reduceAdd, ↓reduceIte, reduceCtorEq, Mach.cells]) <;> rfl), ⟨by omega, by rw [k2, hf]; rfl⟩, by omega⟩
  have hu : ¬ (e.1 = -1 ∧ e.2 = -1) := by by_cases h : e.1 = -1 <;> simp_all
  clear hc
  refine EvC.skip ?_
  apply EvC.seq
  apply EvC.trd
  · (simp only [go_sem, Nat.reduceLT, Nat.reduceLeDiff, Nat.reduceEqDiff, Nat.reduceAdd, Nat.reduceSub, Nat.reduceMul, Nat.reduceBEq, Int.reduceToNat, Int.reduceEq, Int.reduceLT, Int.reduceLE, Int.reduceAdd, ↓reduceIte, reduceCtorEq, Mach.cells]) <;> rfl
  · simp
  have hfe : fitsR m.rows.length m.outs e.1 e.2 = (decide (0 ≤ e.1) && decide (e.1 < m.rows.length) && decide (0 ≤ e.2) && decide (e.2 < m.outs)) := by
    unfold fitsR
    by_cases h : e.1 = -1
    · have : ¬ e.2 = -1 := fun h2 => hu ⟨h, h2⟩
      simp [this]
    · simp [h]
  refine EvC.cond (by (simp only [go_sem, Nat.reduceLT, Nat.reduceLeDiff, Nat.reduceEqDiff, Nat.reduceAdd, Nat.reduceSub, Nat.reduceMul, Nat.reduceBEq, Int.reduceToNat, Int.reduceEq, Int.reduceLT, Int.reduceLE, Int.reduceAdd, ↓reduceIte, reduceCtorEq]) <;> rfl) (fun hc => ?_) (fun hc => ?_)
  · have hf : fitsR m.rows.length m.outs e.1 e.2 = false := by
      rw [hfe]
      by_cases h1 : e.1 < 0 <;> by_cases h2 : (m.rows.length : Int) ≤ e.1 <;> by_cases h3 : e.2 < 0 <;> by_cases h4 : m.outs ≤ e.2 <;> simp_all <;> omega
    refine EvC.seq (EvC.rg (by (simp only [go_sem, Nat.reduceLT, Nat.reduceLeDiff, Nat.reduceEqDiff, Nat.reduceAdd, Nat.reduceSub, Nat.reduceMul, Nat.reduceBEq, Int.reduceToNat, Int.reduceEq, Int.reduceLT, Int.reduceLE, Int.reduceAdd, ↓reduceIte, reduceCtorEq]) <;> rfl) (by simp) ?_)
    refine EvC.ret ⟨.inl rfl, _, (by (simp only [go_sem, Nat.reduceLT, Nat.reduceLeDiff, Nat.reduceEqDiff, Nat.reduceAdd, Nat.reduceSub, Nat.reduceMul, Nat.reduceBEq, Int.reduceToNat, Int.reduceEq, Int.reduceLT, Int.reduceLE, Int.reduceAdd, ↓reduceIte, reduceCtorEq]) <;> rfl), ?_, rfl⟩
    simp only [go_sem, Nat.reduceLT, Nat.reduceLeDiff, Nat.reduceEqDiff, Nat.reduceAdd, Nat.reduceSub, Nat.reduceMul, Nat.reduceBEq, Int.reduceToNat, Int.reduceEq, Int.reduceLT, Int.reduceLE, Int.reduceAdd, ↓reduceIte, reduceCtorEq]
    rw [hw, h2, k2, hf]; rfl
  have hf : fitsR m.rows.length m.outs e.1 e.2 = true := by
    rw [hfe]
    by_cases h1 : e.1 < 0 <;> by_cases h2 : (m.rows.length : Int) ≤ e.1 <;> by_cases h3 : e.2 < 0 <;> by_cases h4 : m.outs ≤ e.2 <;> simp_all <;> omega
  refine EvC.skip ?_
  refine EvC.rg (by (simp only [go_sem, Nat.reduceLT, Nat.reduceLeDiff, Nat.reduceEqDiff, Nat.reduceAdd, Nat.reduceSub, Nat.reduceMul, Nat.reduceBEq, Int.reduceToNat, Int.reduceEq, Int.reduceLT, Int.reduceLE, Int.reduceAdd, ↓reduceIte, reduceCtorEq]) <;> rfl) (by exact inI64_of (by omega) (by omega)) ?_
  exact ⟨[], k + 1, rfl, (by (simp only [go_sem, Nat.reduceLT, Nat.reduceLeDiff, Nat.reduceEqDiff, Nat.reduceAdd, Nat.reduceSub, Nat.reduceMul, Nat.reduceBEq, Int.reduceToNat, Int.reduceEq, Int.reduceLT, Int.reduceLE, Int.reduceAdd, ↓reduceIte, reduceCtorEq, Mach.cells]) <;> rfl), ⟨by omega, by rw [k2, hf]; rfl⟩, by omega⟩
def afterR (m : Mach) : Int → List Int → Int
  | s, [] => s
  | s, a :: w => afterR m (stepR m s a).1 w
theorem after22_is {m : Mach} (hv : Valid m) : ∀ (w : List Int) (s : Int) (nl : Bool) (c : Cp), s < m.rows.length → (∀ a ∈ w, 0 ≤ a ∧ a < m.ins) → w.length < 1000000 →
    PureIs prog 31 [.ag m.cells, .sc (.int .i64 s), .sl nl (w.map intC) c] (.sc (.int .i64 (afterR m s w)))
  | [], s, nl, c, hs, hw, hl => by
    refine PureIs.of (nv := 4) (hid := [6, 9]) func31 rfl (by kernel_rfl) (by simp [ntmps31]) fun _ => ?_
    rw [ntmps31, results31]
    refine EvC.seq (EvC.rg (by (simp only [go_sem, Nat.reduceLT, Nat.reduceLeDiff, Nat.reduceEqDiff, Nat.reduceAdd, Nat.reduceSub, Nat.reduceMul, Nat.reduceBEq, Int.reduceToNat, Int.reduceEq, Int.reduceLT, Int.reduceLE, Int.reduceAdd, ↓reduceIte, reduceCtorEq, Mach.cells]) <;> rfl) (by simp) ?_)
    refine EvC.frzB 0 (by (simp only [go_sem, Nat.reduceLT, Nat.reduceLeDiff, Nat.reduceEqDiff, Nat.reduceAdd, Nat.reduceSub, Nat.reduceMul, Nat.reduceBEq, Int.reduceToNat, Int.reduceEq, Int.reduceLT, Int.reduceLE, Int.reduceAdd, ↓reduceIte, reduceCtorEq]) <;> rfl) ?_
    refine EvC.seq ?_
    refine EvC.seq (EvC.rg (by (simp only [go_sem, Nat.reduceLT, Nat.reduceLeDiff, Nat.reduceEqDiff, Nat.reduceAdd, Nat.reduceSub, Nat.reduceMul, Nat.reduceBEq, Int.reduceToNat, Int.reduceEq, Int.reduceLT, Int.reduceLE, Int.reduceAdd, ↓reduceIte, reduceCtorEq]) <;> rfl) (by simp) ?_)
    refine EvC.cond_true (by (simp only [go_sem, Nat.reduceLT, Nat.reduceLeDiff, Nat.reduceEqDiff, Nat.reduceAdd, Nat.reduceSub, Nat.reduceMul, Nat.reduceBEq, Int.reduceToNat, Int.reduceEq, Int.reduceLT, Int.reduceLE, Int.reduceAdd, ↓reduceIte, reduceCtorEq]) <;> rfl) ?_
    refine EvC.seq (EvC.rg (by (simp only [go_sem, Nat.reduceLT, Nat.reduceLeDiff, Nat.reduceEqDiff, Nat.reduceAdd, Nat.reduceSub, Nat.reduceMul, Nat.reduceBEq, Int.reduceToNat, Int.reduceEq, Int.reduceLT, Int.reduceLE, Int.reduceAdd, ↓reduceIte, reduceCtorEq]) <;> rfl) (by simp) ?_)
    refine EvC.ret ⟨.inl rfl, _, (by (simp only [go_sem, Nat.reduceLT, Nat.reduceLeDiff, Nat.reduceEqDiff, Nat.reduceAdd, Nat.reduceSub, Nat.reduceMul, Nat.reduceBEq, Int.reduceToNat, Int.reduceEq, Int.reduceLT, Int.reduceLE, Int.reduceAdd, ↓reduceIte, reduceCtorEq]) <;> rfl), ?_, rfl⟩
    simp only [go_sem, Nat.reduceLT, Nat.reduceLeDiff, Nat.reduceEqDiff, Nat.reduceAdd, Nat.reduceSub, Nat.reduceMul, Nat.reduceBEq, Int.reduceToNat, Int.reduceEq, Int.reduceLT, Int.reduceLE, Int.reduceAdd, ↓reduceIte, reduceCtorEq]
    rfl
  | a :: w, s, nl, c, hs, hw, hl => by
    have ha := hw a List.mem_cons_self
    have ih := after22_is hv w (stepR m s a).1 nl (cutTail c) (stepR_lt hv hs ha) (fun b hb => hw b (List.mem_cons_of_mem _ hb)) (by simp at hl; omega)
    refine PureIs.of (nv := 4) (hid := [6, 9]) func31 rfl (by kernel_rfl) (by simp [ntmps31]) fun _ => ?_
    rw [ntmps31, results31]
    refine EvC.seq (EvC.rg (by (simp only [go_sem, Nat.reduceLT, Nat.reduceLeDiff, Nat.reduceEqDiff, Nat.reduceAdd, Nat.reduceSub, Nat.reduceMul, Nat.reduceBEq, Int.reduceToNat, Int.reduceEq, Int.reduceLT, Int.reduceLE, Int.reduceAdd, ↓reduceIte, reduceCtorEq, Mach.cells]) <;> rfl) (by simp) ?_)
    refine EvC.frzB 0 (by (simp only [go_sem, Nat.reduceLT, Nat.reduceLeDiff, Nat.reduceEqDiff, Nat.reduceAdd, Nat.reduceSub, Nat.reduceMul, Nat.reduceBEq, Int.reduceToNat, Int.reduceEq, Int.reduceLT, Int.reduceLE, Int.reduceAdd, ↓reduceIte, reduceCtorEq]) <;> rfl) ?_
    refine EvC.seq ?_
    refine EvC.seq (EvC.rg (by (simp only [go_sem, Nat.reduceLT, Nat.reduceLeDiff, Nat.reduceEqDiff, Nat.reduceAdd, Nat.reduceSub, Nat.reduceMul, Nat.reduceBEq, Int.reduceToNat, Int.reduceEq, Int.reduceLT, Int.reduceLE, Int.reduceAdd, ↓reduceIte, reduceCtorEq]) <;> rfl) (by simp) ?_)
    have h0 : decide (((w.length + 1 : Nat) : Int) = 0) = false := by simp; omega
    refine EvC.cond_false (by (simp only [go_sem, Nat.reduceLT, Nat.reduceLeDiff, Nat.reduceEqDiff, Nat.reduceAdd, Nat.reduceSub, Nat.reduceMul, Nat.reduceBEq, Int.reduceToNat, Int.reduceEq, Int.reduceLT, Int.reduceLE, Int.reduceAdd, ↓reduceIte, reduceCtorEq, h0]) <;> rfl) ?_
    refine EvC.skip ?_
    apply EvC.seq
    apply EvC.drw mixed
    · apply Tr.run
      · (simp only [go_sem, Nat.reduceLT, Nat.reduceLeDiff, Nat.reduceEqDiff, Nat.reduceAdd, Nat.reduceSub, Nat.reduceMul, Nat.reduceBEq, Int.reduceToNat, Int.reduceEq, Int.reduceLT, Int.reduceLE, Int.reduceAdd, ↓reduceIte, reduceCtorEq, Mach.cells, intC, edgeA, Option.getD_some]) <;> rfl
      · simp [intC]; try omega
      apply Tr.cons
      · exact .call rfl rfl (by (simp only [go_sem, Nat.reduceLT, Nat.reduceLeDiff, Nat.reduceEqDiff, Nat.reduceAdd, Nat.reduceSub, Nat.reduceMul, Nat.reduceBEq, Int.reduceToNat, Int.reduceEq, Int.reduceLT, Int.reduceLE, Int.reduceAdd, ↓reduceIte, reduceCtorEq]) <;> rfl) (by (simp only [go_sem, Nat.reduceLT, Nat.reduceLeDiff, Nat.reduceEqDiff, Nat.reduceAdd, Nat.reduceSub, Nat.reduceMul, Nat.reduceBEq, Int.reduceToNat, Int.reduceEq, Int.reduceLT, Int.reduceLE, Int.reduceAdd, ↓reduceIte, reduceCtorEq]) <;> rfl) (by (simp only [go_sem, Nat.reduceLT, Nat.reduceLeDiff, Nat.reduceEqDiff, Nat.reduceAdd, Nat.reduceSub, Nat.reduceMul, Nat.reduceBEq, Int.reduceToNat, Int.reduceEq, Int.reduceLT, Int.reduceLE, Int.reduceAdd, ↓reduceIte, reduceCtorEq]) <;> rfl) (by (simp only [go_sem, Nat.reduceLT, Nat.reduceLeDiff, Nat.reduceEqDiff, Nat.reduceAdd, Nat.reduceSub, Nat.reduceMul, Nat.reduceBEq, Int.reduceToNat, Int.reduceEq, Int.reduceLT, Int.reduceLE, Int.reduceAdd, ↓reduceIte, reduceCtorEq]) <;> rfl) (by (simp only [go_sem, Nat.reduceLT, Nat.reduceLeDiff, Nat.reduceEqDiff, Nat.reduceAdd, Nat.reduceSub, Nat.reduceMul, Nat.reduceBEq, Int.reduceToNat, Int.reduceEq, Int.reduceLT, Int.reduceLE, Int.reduceAdd, ↓reduceIte, reduceCtorEq]) <;> rfl) (stepR_is hv hs ha)
      apply Tr.run
      · (simp only [go_sem, Nat.reduceLT, Nat.reduceLeDiff, Nat.reduceEqDiff, Nat.reduceAdd, Nat.reduceSub, Nat.reduceMul, Nat.reduceBEq, Int.reduceToNat, Int.reduceEq, Int.reduceLT, Int.reduceLE, Int.reduceAdd, ↓reduceIte, reduceCtorEq, Mach.cells, intC, edgeA, Option.getD_some]) <;> rfl
      · simp [intC]; try omega
      apply Tr.cons
      · exact .call rfl rfl (by (simp only [go_sem, Nat.reduceLT, Nat.reduceLeDiff, Nat.reduceEqDiff, Nat.reduceAdd, Nat.reduceSub, Nat.reduceMul, Nat.reduceBEq, Int.reduceToNat, Int.reduceEq, Int.reduceLT, Int.reduceLE, Int.reduceAdd, ↓reduceIte, reduceCtorEq]) <;> rfl) (by (simp only [go_sem, Nat.reduceLT, Nat.reduceLeDiff, Nat.reduceEqDiff, Nat.reduceAdd, Nat.reduceSub, Nat.reduceMul, Nat.reduceBEq, Int.reduceToNat, Int.reduceEq, Int.reduceLT, Int.reduceLE, Int.reduceAdd, ↓reduceIte, reduceCtorEq]) <;> rfl) (by (simp only [go_sem, Nat.reduceLT, Nat.reduceLeDiff, Nat.reduceEqDiff, Nat.reduceAdd, Nat.reduceSub, Nat.reduceMul, Nat.reduceBEq, Int.reduceToNat, Int.reduceEq, Int.reduceLT, Int.reduceLE, Int.reduceAdd, ↓reduceIte, reduceCtorEq]) <;> rfl) (by (simp only [go_sem, Nat.reduceLT, Nat.reduceLeDiff, Nat.reduceEqDiff, Nat.reduceAdd, Nat.reduceSub, Nat.reduceMul, Nat.reduceBEq, Int.reduceToNat, Int.reduceEq, Int.reduceLT, Int.reduceLE, Int.reduceAdd, ↓reduceIte, reduceCtorEq]) <;> rfl) (by (simp only [go_sem, Nat.reduceLT, Nat.reduceLeDiff, Nat.reduceEqDiff, Nat.reduceAdd, Nat.reduceSub, Nat.reduceMul, Nat.reduceBEq, Int.reduceToNat, Int.reduceEq, Int.reduceLT, Int.reduceLE, Int.reduceAdd, ↓reduceIte, reduceCtorEq]) <;> rfl) (ih)
      apply Tr.done
      · (simp only [go_sem, Nat.reduceLT, Nat.reduceLeDiff, Nat.reduceEqDiff, Nat.reduceAdd, Nat.reduceSub, Nat.reduceMul, Nat.reduceBEq, Int.reduceToNat, Int.reduceEq, Int.reduceLT, Int.reduceLE, Int.reduceAdd, ↓reduceIte, reduceCtorEq]) <;> rfl
      · simp
    · kernel_rfl
    refine EvC.ret ⟨.inl rfl, _, (by (simp only [go_sem, Nat.reduceLT, Nat.reduceLeDiff, Nat.reduceEqDiff, Nat.reduceAdd, Nat.reduceSub, Nat.reduceMul, Nat.reduceBEq, Int.reduceToNat, Int.reduceEq, Int.reduceLT, Int.reduceLE, Int.reduceAdd, ↓reduceIte, reduceCtorEq]) <;> rfl), ?_, rfl⟩
    simp only [go_sem, Nat.reduceLT, Nat.reduceLeDiff, Nat.reduceEqDiff, Nat.reduceAdd, Nat.reduceSub, Nat.reduceMul, Nat.reduceBEq, Int.reduceToNat, Int.reduceEq, Int.reduceLT, Int.reduceLE, Int.reduceAdd, ↓reduceIte, reduceCtorEq]
    rfl
end Go.Avl
namespace Go.Avl
open Go Go.Proofs.Try
set_option maxRecDepth 10000
set_option linter.unusedSimpArgs false

/-! ### What is reached, breadth first -/
abbrev Pr := Int × Int
abbrev StF := Pr → Nat → Option (Pr × Int)
def jput (L : List Pr) (x : Pr) : List Pr := if x ∈ L then L else L ++ [x]
def jadd (st : StF) (p : Pr) (L : List Pr) (i : Nat) : List Pr := match st p i with
  | none => L
  | some q => jput L q.1
def jl (st : StF) (p : Pr) (L : List Pr) : Nat → List Pr
  | 0 => L
  | i + 1 => jadd st p (jl st p L i) i
/-- The list behind the first k of its pairs. -/
def jq (st : StF) (n : Nat) : Nat → List Pr
  | 0 => [(0, 0)]
  | k + 1 => match (jq st n k)[k]? with
    | none => jq st n k
    | some p => jl st p (jq st n k) n
def jed (st : StF) (L : List Pr) (p : Pr) (i : Nat) : Int × Int := match st p i with
  | none => (-1, -1)
  | some q => ((L.idxOf q.1 : Nat), q.2)
def jrow (st : StF) (L : List Pr) (p : Pr) (n : Nat) : List (Int × Int) := (List.range n).map (jed st L p)
def jrows (st : StF) (n : Nat) : Nat → List (List (Int × Int))
  | 0 => []
  | k + 1 => match (jq st n k)[k]? with
    | none => jrows st n k
    | some p => jrows st n k ++ [jrow st (jq st n (k + 1)) p n]

theorem jput_pre (L : List Pr) (x : Pr) : L <+: jput L x := by unfold jput; split; exact List.prefix_refl _; exact List.prefix_append _ _
theorem mem_jput {L : List Pr} {x y : Pr} : y ∈ jput L x ↔ y ∈ L ∨ y = x := by
  unfold jput; split
  · rename_i h; constructor
    · exact .inl
    · rintro (h1 | rfl); exact h1; exact h
  · simp
theorem jadd_pre (st : StF) (p : Pr) (L : List Pr) (i : Nat) : L <+: jadd st p L i := by unfold jadd; split; exact List.prefix_refl _; exact jput_pre _ _
theorem jl_pre (st : StF) (p : Pr) (L : List Pr) : ∀ i, L <+: jl st p L i
  | 0 => List.prefix_refl _
  | i + 1 => (jl_pre st p L i).trans (jadd_pre _ _ _ _)
theorem jl_mono (st : StF) (p : Pr) (L : List Pr) {i j : Nat} (h : i ≤ j) : jl st p L i <+: jl st p L j := by
  induction h with
  | refl => exact List.prefix_refl _
  | step h ih => exact ih.trans (jadd_pre _ _ _ _)
theorem jq_step (st : StF) (n k : Nat) : jq st n k <+: jq st n (k + 1) := by
  simp only [jq]; split; exact List.prefix_refl _; exact jl_pre _ _ _ _
theorem jq_mono (st : StF) (n : Nat) {i j : Nat} (h : i ≤ j) : jq st n i <+: jq st n j := by
  induction h with
  | refl => exact List.prefix_refl _
  | step h ih => exact ih.trans (jq_step _ _ _)
theorem jput_nodup {L : List Pr} {x : Pr} (h : L.Nodup) : (jput L x).Nodup := by
  unfold jput; split
  · exact h
  · rename_i hx
    rw [List.nodup_append]
    exact ⟨h, by simp, fun a ha b hb => by simp at hb; subst hb; exact fun e => hx (e ▸ ha)⟩
theorem jadd_nodup {st : StF} {p : Pr} {L : List Pr} {i : Nat} (h : L.Nodup) : (jadd st p L i).Nodup := by unfold jadd; split; exact h; exact jput_nodup h
theorem jl_nodup {st : StF} {p : Pr} {L : List Pr} (h : L.Nodup) : ∀ i, (jl st p L i).Nodup
  | 0 => h
  | i + 1 => jadd_nodup (jl_nodup h i)
theorem jq_nodup (st : StF) (n : Nat) : ∀ k, (jq st n k).Nodup
  | 0 => by simp [jq]
  | k + 1 => by simp only [jq]; split; exact jq_nodup st n k; exact jl_nodup (jq_nodup st n k) n
theorem jq_pos (st : StF) (n k : Nat) : 1 ≤ (jq st n k).length := by
  have := (jq_mono st n (Nat.zero_le k)).length_le
  simpa [jq] using this
theorem jq_zero (st : StF) (n k : Nat) : (jq st n k)[0]? = some (0, 0) := by
  obtain ⟨t, ht⟩ := jq_mono st n (Nat.zero_le k)
  rw [← ht]; rfl
/-- Nothing more comes, once all are done. -/
theorem jq_fix {st : StF} {n k : Nat} (h : (jq st n k).length ≤ k) : ∀ j, jq st n (k + j) = jq st n k ∧ jrows st n (k + j) = jrows st n k
  | 0 => ⟨rfl, rfl⟩
  | j + 1 => by
    obtain ⟨h1, h2⟩ := jq_fix h j
    have h3 : (jq st n (k + j))[k + j]? = none := by rw [h1]; exact List.getElem?_eq_none (by omega)
    rw [← Nat.add_assoc]
    simp only [jq, jrows, h3]
    exact ⟨h1, h2⟩
theorem jq_fix' {st : StF} {n k j : Nat} (h : (jq st n k).length ≤ k) (hk : k ≤ j) : jq st n j = jq st n k ∧ jrows st n j = jrows st n k := by
  obtain ⟨d, rfl⟩ := Nat.exists_eq_add_of_le hk
  exact jq_fix h d
inductive RS (st : StF) (n : Nat) : Pr → Prop
  | zero : RS st n (0, 0)
  | step {p q : Pr} {o : Int} {i : Nat} (h : RS st n p) (hi : i < n) (hs : st p i = some (q, o)) : RS st n q
theorem jl_reach {st : StF} {n : Nat} {p : Pr} {L : List Pr} (hp : RS st n p) (hL : ∀ q ∈ L, RS st n q) : ∀ i, i ≤ n → ∀ q ∈ jl st p L i, RS st n q
  | 0, _, q, h => hL q h
  | i + 1, hi, q, h => by
    simp only [jl, jadd] at h
    split at h
    · exact jl_reach hp hL i (by omega) q h
    · rename_i r hr
      rcases mem_jput.1 h with h | rfl
      · exact jl_reach hp hL i (by omega) q h
      · exact .step hp hi (o := r.2) hr
theorem jq_reach (st : StF) (n : Nat) : ∀ k, ∀ q ∈ jq st n k, RS st n q
  | 0, q, h => by simp [jq] at h; subst h; exact .zero
  | k + 1, q, h => by
    simp only [jq] at h
    split at h
    · exact jq_reach st n k q h
    · rename_i p hp
      exact jl_reach (jq_reach st n k p (List.mem_of_getElem? hp)) (jq_reach st n k) n (Nat.le_refl _) q h
theorem mem_jl {st : StF} {p : Pr} {L : List Pr} {i j : Nat} {q : Pr × Int} (hs : st p i = some q) (hj : i < j) : q.1 ∈ jl st p L j := by
  refine (jl_mono st p L hj).subset ?_
  simp only [jl, jadd, hs]
  exact mem_jput.2 (.inr rfl)
/-- All steps of the first k pairs lead into the list. -/
theorem jq_closed {st : StF} {n : Nat} : ∀ {k j i : Nat} {p : Pr} {q : Pr × Int}, j < k → (jq st n k)[j]? = some p → i < n → st p i = some q → q.1 ∈ jq st n k
  | 0, _, _, _, _, h, _, _, _ => by omega
  | k + 1, j, i, p, q, h, hp, hi, hs => by
    by_cases hk : k < (jq st n k).length
    · have hg : (jq st n k)[k]? = some (jq st n k)[k] := List.getElem?_eq_getElem hk
      have e : jq st n (k + 1) = jl st (jq st n k)[k] (jq st n k) n := by simp only [jq, hg]
      have hpre : (jq st n (k + 1))[j]? = (jq st n k)[j]? := by
        obtain ⟨t, ht⟩ := jq_step st n k
        rw [← ht, List.getElem?_append_left (by omega)]
      rw [hpre] at hp
      by_cases hj : j = k
      · subst hj
        rw [hg] at hp; cases hp
        rw [e]
        exact mem_jl hs hi
      · exact (jq_step st n k).subset (jq_closed (by omega) hp hi hs)
    · have hg : (jq st n k)[k]? = none := List.getElem?_eq_none (by omega)
      have e : jq st n (k + 1) = jq st n k := by simp only [jq, hg]
      rw [e] at hp ⊢
      by_cases hj : j = k
      · subst hj; rw [hg] at hp; cases hp
      · exact jq_closed (by omega) hp hi hs
theorem jq_all {st : StF} {n k : Nat} (hk : (jq st n k).length ≤ k) {p : Pr} (h : RS st n p) : p ∈ jq st n k := by
  induction h with
  | zero => exact List.mem_of_getElem? (jq_zero st n k)
  | step h hi hs ih =>
    obtain ⟨j, hj, rfl⟩ := List.getElem_of_mem ih
    exact jq_closed (by omega) (List.getElem?_eq_getElem hj) hi hs
/-- Where the list ends. -/
theorem jq_len {st : StF} {n : Nat} : ∀ {k : Nat}, (jq st n k).length ≤ k ∨ k + 1 ≤ (jq st n k).length := fun {k} => by omega
theorem jrows_len {st : StF} {n : Nat} : ∀ {k : Nat}, k ≤ (jq st n k).length → (jrows st n k).length = k
  | 0, _ => rfl
  | k + 1, h => by
    by_cases hk : k < (jq st n k).length
    · simp only [jrows, List.getElem?_eq_getElem hk, List.length_append, List.length_singleton, jrows_len (Nat.le_of_lt hk)]
    · have hg : (jq st n k)[k]? = none := List.getElem?_eq_none (by omega)
      have e : jq st n (k + 1) = jq st n k := by simp only [jq, hg]
      rw [e] at h; omega
theorem idxOf_pre {L L' : List Pr} (h : L <+: L') {x : Pr} (hx : x ∈ L) : L'.idxOf x = L.idxOf x := by
  obtain ⟨t, rfl⟩ := h
  rw [List.idxOf_append, if_pos hx]
theorem jrow_pre {st : StF} {L L' : List Pr} {p : Pr} {n : Nat} (h : L <+: L') (hc : ∀ i q, i < n → st p i = some q → q.1 ∈ L) : jrow st L' p n = jrow st L p n := by
  refine List.map_congr_left fun i hi => ?_
  unfold jed
  split
  · rfl
  · rename_i q hq
    rw [idxOf_pre h (hc i q (List.mem_range.1 hi) hq)]
/-- The rows, in terms of the whole list. -/
theorem jrows_eq {st : StF} {n : Nat} : ∀ {k m : Nat}, k ≤ m → k ≤ (jq st n k).length → jrows st n k = ((jq st n m).take k).map fun p => jrow st (jq st n m) p n
  | 0, _, _, _ => by simp [jrows]
  | k + 1, m, hm, h => by
    by_cases hk : k < (jq st n k).length
    · have hg : (jq st n k)[k]? = some (jq st n k)[k] := List.getElem?_eq_getElem hk
      simp only [jrows, hg]
      have hgm : (jq st n m)[k]? = some (jq st n k)[k] := by
        obtain ⟨t, ht⟩ := jq_mono st n (show k ≤ m by omega)
        rw [← ht, List.getElem?_append_left hk]; exact hg
      rw [List.take_add_one, hgm, List.map_append, jrows_eq (show k ≤ m by omega) (Nat.le_of_lt hk)]
      congr 1
      simp only [Option.toList_some, List.map_singleton]
      rw [jrow_pre (jq_mono st n hm) fun i q hi hs => jq_closed (Nat.lt_succ_self k) (by
        obtain ⟨t, ht⟩ := jq_step st n k
        rw [← ht, List.getElem?_append_left hk]; exact hg) hi hs]
    · have hg : (jq st n k)[k]? = none := List.getElem?_eq_none (by omega)
      have e : jq st n (k + 1) = jq st n k := by simp only [jq, hg]
      rw [e] at h; omega
/-- A row, as far as it is made. -/
def jpre (st : StF) (p : Pr) (L : List Pr) (i : Nat) : List (Int × Int) := (List.range i).map fun x => jed st (jl st p L (x + 1)) p x
theorem jpre_len (st : StF) (p : Pr) (L : List Pr) (i : Nat) : (jpre st p L i).length = i := by simp [jpre]
theorem jpre_succ (st : StF) (p : Pr) (L : List Pr) (i : Nat) : jpre st p L (i + 1) = jpre st p L i ++ [jed st (jl st p L (i + 1)) p i] := by simp [jpre, List.range_succ]
theorem jpre_eq (st : StF) (p : Pr) (L : List Pr) (n : Nat) : jpre st p L n = jrow st (jl st p L n) p n := by
  refine List.map_congr_left fun i hi => ?_
  unfold jed
  split
  · rfl
  · rename_i q hq
    rw [idxOf_pre (jl_mono st p L (show i + 1 ≤ n by have := List.mem_range.1 hi; omega)) (mem_jl hq (Nat.lt_succ_self i))]
theorem jl_len (st : StF) (p : Pr) (L : List Pr) (i : Nat) : L.length ≤ (jl st p L i).length := (jl_pre st p L i).length_le
end Go.Avl
