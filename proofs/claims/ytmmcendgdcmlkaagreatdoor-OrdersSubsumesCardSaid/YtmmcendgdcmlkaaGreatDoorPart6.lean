/-
  Lemmas.
-/
import Derived.Test.YtmmcendgdcmlkaaGreatDoorPart5
set_option linter.unusedSimpArgs false
set_option linter.unusedVariables false
set_option linter.unnecessarySimpa false
set_option linter.deprecated false
namespace Go.Avl
open Go Go.Proofs.Tryz
set_option maxRecDepth 10000
def rowF (r : List (Int × Int)) : List AV := rowC (false, r)
@[go_sem] theorem norefs_rowF (l : List (List (Int × Int))) : (l.map rowF).all AV.norefs = true := by simp [List.all_eq_true, rowF, rowC, AV.norefs, AV.noref]
structure LM where
 st : Int
 ins : Int
 outs : Int
 part : Bool
 nl : Bool
 es : List Int
 cap : Cp
def u16C (x : Int) : List AV := [.sc (.int .u16 x)]
@[go_sem] theorem norefs_u16 (l : List Int) : (l.map u16C).all AV.norefs = true := by simp [List.all_eq_true, u16C, AV.norefs, AV.noref]
def LM.cells (x : LM) : List AV := [.sc (.int .u8 x.st), .sc (.int .u8 x.ins), .sc (.int .u8 x.outs), .sc (.bool x.part), .sl x.nl (x.es.map u16C) x.cap]
structure LM.Ok (x : LM) : Prop where
 st : 0 ≤ x.st
 ins : 0 ≤ x.ins
 outs : 0 ≤ x.outs
 es : ∀ e ∈ x.es, 0 ≤ e ∧ e < 65536
def LM.n (x : LM) : Nat := (1 + x.st % 6).toNat
def LM.i (x : LM) : Nat := (1 + x.ins % 3).toNat
def LM.o (x : LM) : Int := 1 + x.outs % 3
def LM.v (x : LM) (s i : Nat) : Int := (x.es[s * x.i + i]?).getD 0
def LM.edge (x : LM) (s i : Nat) : Int × Int :=
 if x.part = true ∧ x.v s i % 4 = 3 then (-1, -1) else (x.v s i / 4 % x.n, x.v s i / 4 / x.n % x.o)
def LM.row (x : LM) (s : Nat) : List (Int × Int) := (List.range x.i).map (x.edge s)
def LM.mach (x : LM) : Mach := ⟨x.i, x.o, false, (List.range x.n).map fun s => (false, x.row s)⟩
theorem LM.bounds {x : LM} (h : x.Ok) : 1 ≤ x.n ∧ x.n ≤ 6 ∧ 1 ≤ x.i ∧ x.i ≤ 3 ∧ 1 ≤ x.o ∧ x.o ≤ 3 ∧ (x.n : Int) = 1 + x.st % 6 ∧ (x.i : Int) = 1 + x.ins % 3 := by
 have h1 := h.st
 have h2 := h.ins
 have h3 := h.outs
 unfold LM.n LM.i LM.o
 omega
theorem LM.v_ok {x : LM} (h : x.Ok) (s i : Nat) : 0 ≤ x.v s i ∧ x.v s i < 65536 := by
 unfold LM.v
 cases he : x.es[s * x.i + i]? with
 | none => simp
 | some e => exact h.es e (List.mem_of_getElem? he)
theorem mOf_is {x : LM} (h : x.Ok) : PureIs prog 4 [.ag x.cells] (.ag x.mach.cells) := by
 refine PureIs.of1 10 [28, 34, 47, 60] func4 ntmps4 results4 fun _ => ?_
 obtain ⟨b1, b2, b3, b4, b5, b6, b7, b8⟩ := LM.bounds h
 have h1 := h.st
 have h2 := h.ins
 have h3 := h.outs
 have hI1 : inI64 (x.st % 6) = true := inI64_of (by omega) (by omega)
 have hI2 : inI64 (x.ins % 3) = true := inI64_of (by omega) (by omega)
 have hI3 : inI64 (x.outs % 3) = true := inI64_of (by omega) (by omega)
 have hI4 : inI64 (1 + x.st % 6) = true := inI64_of (by omega) (by omega)
 have hI5 : inI64 (1 + x.ins % 3) = true := inI64_of (by omega) (by omega)
 have hI6 : inI64 (1 + x.outs % 3) = true := inI64_of (by omega) (by omega)
 refine EvC.a ?_ (by simp only [go_sem, LM.cells] <;> rfl)
 refine EvC.z 0 ?_
 refine EvC.a ?_ (hok := by simp [hI1, hI4, h1])
 refine EvC.a ?_ (hok := by simp [hI2, hI3, hI5, hI6, h2, h3])
 refine EvC.seq ?_
 refine EvC.a ?_
 refine EvC.block ?_
 have hmem : ∀ {s : Nat}, (fun s => ((false, x.row s) : Row)) s = (false, x.row s) := fun {_} => rfl
 have hO : x.o = 1 + x.outs % 3 := rfl
 refine EvC.ownC 19 2 1 (by simp only [go_sem] <;> rfl) ?_
 refine EvC.loopS (σ := Nat) (fun s => ⟨[(1, .ia x.cells), (2, .rf 0 0), (3, .sc (.int .i64 x.n)), (4, .rf 1 0), (5, .sc (.int .i64 s))], [],
   [(0, .cells [.sc (.int .i64 0), .sc (.int .i64 0), .sl true [] .zer]), (1, .cells [.sc (.int .i64 x.i), .sc (.int .i64 x.o), .tl 2 s (s == 0)]), (2, .arr 1 (((List.range s).map x.row).map rowF) true)], 3⟩) (fun s => x.n - s)
  (fun s => s ≤ x.n) [1, 2, 3, 4, 5] 3 ?_ ?_
 ·exact ⟨[(1, 0), (19, 1), (22, 2)], 0, rfl, (by simp only [go_sem, LM.cells, ← b7, ← b8, ← hO, List.range_zero] <;> rfl), Nat.zero_le _⟩
 intro s hs
 have hls : (((List.range s).map x.row).map rowF).length = s := by simp
 refine EvC.seq ?_
 refine EvC.a ?_
 refine EvC.cond (by simp only [go_sem] <;> rfl) (fun hc => ?_) (fun hc => ?_)
 rotate_left
 ·refine EvC.exit ?_
  have hc : ¬ s < x.n := by simpa using hc
  obtain rfl : s = x.n := by omega
  refine EvC.frzD 2 (by simp only [go_sem, hls] <;> rfl) ?_
  refine EvC.a ?_
  refine EvC.rz ?_
  simp only [go_sem]
  have hne : (x.n == 0) = false := by simp; omega
  simp only [Mach.cells, LM.mach, hne]
  rw [List.map_map, List.map_map]
  rfl
 have hc : s < x.n := by simpa using hc
 refine EvC.skip ?_
 refine EvC.seq ?_
 refine EvC.block ?_
 refine EvC.a ?_
 refine EvC.seq ?_
 refine EvC.a ?_
 refine EvC.block ?_
 refine EvC.loopS (σ := Nat) (fun i => ⟨[(1, .ia x.cells), (2, .rf 0 0), (3, .sc (.int .i64 x.n)), (4, .rf 1 0), (5, .sc (.int .i64 s)), (6, .tl 3 i (i == 0)), (7, .sc (.int .i64 i))], [],
   [(0, .cells [.sc (.int .i64 0), .sc (.int .i64 0), .sl true [] .zer]), (1, .cells [.sc (.int .i64 x.i), .sc (.int .i64 x.o), .tl 2 s (s == 0)]), (2, .arr 1 (((List.range s).map x.row).map rowF) true),
    (3, .arr 2 (((List.range i).map (x.edge s)).map edgeC) true)], 4⟩) (fun i => x.i - i)
  (fun i => i ≤ x.i) [1, 2, 3, 4, 5, 6, 7] 4 ?_ ?_
 ·exact ⟨[(0, 0), (1, 1), (2, 2), (6, 3)], 0, rfl, (by simp only [go_sem, List.range_zero] <;> rfl), Nat.zero_le _⟩
 intro i hi
 have hli : (((List.range i).map (x.edge s)).map edgeC).length = i := by simp
 refine EvC.seq ?_
 refine EvC.a ?_
 refine EvC.cond (by simp only [go_sem] <;> rfl) (fun hc => ?_) (fun hc => ?_)
 rotate_left
 ·refine EvC.exit ?_
  have hc : ¬ i < x.i := by simpa using hc
  obtain rfl : i = x.i := by omega
  have hne : (x.i == 0) = false := by simp; omega
  refine EvC.frz 3 (by simp only [go_sem, hli, hne] <;> rfl) ?_
  refine EvC.b ?_ (hok := by simp [room_eq, AV.norefs, AV.noref, hls]; omega)
  refine EvC.b ?_ (hok := inI64_of (by omega) (by omega))
  refine ⟨[(0, 0), (1, 1), (2, 2)], s + 1, rfl, ?_, by omega, by omega⟩
  have hs0 : (s + 1 == 0) = false := rfl
  simp only [go_sem, hs0, List.range_succ, rowF, rowC, LM.row, List.length_map, List.length_range] <;> rfl
 have hc : i < x.i := by simpa using hc
 have hv := LM.v_ok h s i
 have hsi : (0 : Int) ≤ (s : Int) * x.i := Int.mul_nonneg (by omega) (by omega)
 have hsi2 : (s : Int) * x.i ≤ 18 := by
  have : s * x.i ≤ 6 * 3 := Nat.mul_le_mul (by omega) (by omega)
  have := Int.ofNat_le.2 this
  simpa using this
 have hk : ((s * x.i + i : Nat) : Int) = (s : Int) * x.i + i := by simp
 have hkn : ((s : Int) * x.i + i).toNat = s * x.i + i := by omega
 have hIm : inI64 ((s : Int) * x.i) = true := inI64_of (by omega) (by omega)
 have hIk : inI64 ((s : Int) * x.i + i) = true := inI64_of (by omega) (by omega)
 have hIi : inI64 ((i : Int) + 1) = true := inI64_of (by omega) (by omega)
 have hIv : inI64 (x.v s i) = true := inI64_of (by omega) (by omega)
 refine EvC.skip ?_
 refine EvC.seq ?_
 refine EvC.block ?_
 refine EvC.a ?_
 refine EvC.seq ?_
 refine EvC.a ?_ (hok := by simp [hIm, hIk])
 refine EvC.a ?_ (by simp only [go_sem, LM.cells] <;> rfl)
 refine EvC.cond (by simp only [go_sem] <;> rfl) (fun hc => ?_) (fun hc => ?_)
 ·have hkl : s * x.i + i < x.es.length := by
    have : (s : Int) * x.i + i < x.es.length := by simpa using hc
    omega
  have hev : x.es[s * x.i + i]? = some (x.v s i) := by
   unfold LM.v
   rw [List.getElem?_eq_getElem hkl]; rfl
  refine EvC.b ?_ (by simp only [go_sem, LM.cells, hkn, hev, u16C] <;> rfl) (by simp [hIv]; omega)
  apply EvC.seq
  apply EvC.trd
  ·simp only [go_sem, LM.cells] <;> rfl
  ·simp [hv.1]
  have hi0 : (i + 1 == 0) = false := rfl
  refine EvC.cond (by simp only [go_sem] <;> rfl) (fun hp => ?_) (fun hp => ?_)
  ·have hp : x.part = true ∧ x.v s i % 4 = 3 := by
     by_cases h1 : x.part = true
     ·simp [h1] at hp; exact ⟨h1, hp⟩
     ·simp [h1] at hp
   have he : x.edge s i = (-1, -1) := if_pos hp
   refine EvC.b ?_ (hok := by simp [room_eq, AV.norefs, AV.noref]; omega)
   refine EvC.rg (by simp only [go_sem] <;> rfl) hIi ?_
   refine ⟨[(0, 0), (1, 1), (2, 2), (3, 3)], i + 1, rfl, ?_, by omega, by omega⟩
   simp only [go_sem, hi0, List.range_succ, he, edgeC, List.length_map, List.length_range] <;> rfl
  ·have hp : ¬ (x.part = true ∧ x.v s i % 4 = 3) := by
     rintro ⟨h1, h2⟩
     simp [h1, h2] at hp
   have he : x.edge s i = (x.v s i / 4 % x.n, x.v s i / 4 / x.n % x.o) := if_neg hp
   have hq1 : 0 ≤ x.v s i / 4 := Int.ediv_nonneg hv.1 (by omega)
   have hq2 : 0 ≤ x.v s i / 4 / x.n := Int.ediv_nonneg hq1 (by omega)
   have hq3 : x.v s i / 4 ≤ 65536 := by omega
   have hq4 : x.v s i / 4 / x.n ≤ x.v s i / 4 := Int.ediv_le_self _ hq1
   have hIq1 : inI64 (x.v s i / 4) = true := inI64_of (by omega) (by omega)
   have hIq2 : inI64 (x.v s i / 4 / x.n) = true := inI64_of (by omega) (by omega)
   apply EvC.drd mixed
   ·simp only [go_sem] <;> rfl
   ·simp [room_eq, AV.norefs, AV.noref, hv.1, hq1, hq2, hIq1, hIq2]; omega
   ·kernel_rfl
   refine EvC.rg (by simp only [go_sem] <;> rfl) hIi ?_
   refine ⟨[(0, 0), (1, 1), (2, 2), (3, 3)], i + 1, rfl, ?_, by omega, by omega⟩
   simp only [go_sem, hi0, List.range_succ, he, edgeC, List.length_map, List.length_range] <;> rfl
 ·have hkl : ¬ s * x.i + i < x.es.length := by
    have : ¬ (s : Int) * x.i + i < x.es.length := by simpa using hc
    omega
  have hev : x.v s i = 0 := by
   unfold LM.v
   rw [List.getElem?_eq_none (by omega)]; rfl
  refine EvC.skip ?_
  rw [← hev]
  apply EvC.seq
  apply EvC.trd
  ·simp only [go_sem, LM.cells] <;> rfl
  ·simp [hv.1]
  have hi0 : (i + 1 == 0) = false := rfl
  refine EvC.cond (by simp only [go_sem] <;> rfl) (fun hp => ?_) (fun hp => ?_)
  ·have hp : x.part = true ∧ x.v s i % 4 = 3 := by
     by_cases h1 : x.part = true
     ·simp [h1] at hp; exact ⟨h1, hp⟩
     ·simp [h1] at hp
   have he : x.edge s i = (-1, -1) := if_pos hp
   refine EvC.b ?_ (hok := by simp [room_eq, AV.norefs, AV.noref]; omega)
   refine EvC.rg (by simp only [go_sem] <;> rfl) hIi ?_
   refine ⟨[(0, 0), (1, 1), (2, 2), (3, 3)], i + 1, rfl, ?_, by omega, by omega⟩
   simp only [go_sem, hi0, List.range_succ, he, edgeC, List.length_map, List.length_range] <;> rfl
  ·have hp : ¬ (x.part = true ∧ x.v s i % 4 = 3) := by
     rintro ⟨h1, h2⟩
     simp [h1, h2] at hp
   have he : x.edge s i = (x.v s i / 4 % x.n, x.v s i / 4 / x.n % x.o) := if_neg hp
   have hq1 : 0 ≤ x.v s i / 4 := Int.ediv_nonneg hv.1 (by omega)
   have hq2 : 0 ≤ x.v s i / 4 / x.n := Int.ediv_nonneg hq1 (by omega)
   have hq3 : x.v s i / 4 ≤ 65536 := by omega
   have hq4 : x.v s i / 4 / x.n ≤ x.v s i / 4 := Int.ediv_le_self _ hq1
   have hIq1 : inI64 (x.v s i / 4) = true := inI64_of (by omega) (by omega)
   have hIq2 : inI64 (x.v s i / 4 / x.n) = true := inI64_of (by omega) (by omega)
   apply EvC.drd mixed
   ·simp only [go_sem] <;> rfl
   ·simp [room_eq, AV.norefs, AV.noref, hv.1, hq1, hq2, hIq1, hIq2]; omega
   ·kernel_rfl
   refine EvC.rg (by simp only [go_sem] <;> rfl) hIi ?_
   refine ⟨[(0, 0), (1, 1), (2, 2), (3, 3)], i + 1, rfl, ?_, by omega, by omega⟩
   simp only [go_sem, hi0, List.range_succ, he, edgeC, List.length_map, List.length_range] <;> rfl
theorem set_mid {α : Type} (a b : List α) (x y : α) : (a ++ x :: b).set a.length y = a ++ y :: b := by simp
def findIdxI (p : Int → Bool) : List Int → Int → Int
 | [], _ => -1
 | e :: es, i => if p e = true then i else findIdxI p es (i + 1)
theorem findIdxI_any (p : Int → Bool) : ∀ (es : List Int) (i : Int), 0 ≤ i → decide (0 ≤ findIdxI p es i) = es.any p
 | [], i, _ => by simp [findIdxI]
 | e :: es, i, h => by
   unfold findIdxI
   split
   ·rename_i hp; simp [hp, h]
   ·rename_i hp
    rw [findIdxI_any p es (i + 1) (by omega)]
    simp [hp]
theorem indexInt_is (nl : Bool) (xs : List Int) (c : Cp) (f : FuncId) (cs : List AV) (hcs : AV.norefs cs = true) (p : Int → Bool) (hp : ∀ e ∈ xs, PureIs prog f (.sc (.int .i64 e) :: cs) (.sc (.bool (p e)))) (hl : xs.length < 1000000) :
  PureIs prog 70 [.sl nl (xs.map intC) c, .fn f cs] (.sc (.int .i64 (findIdxI p xs 0))) := by
 refine PureIs.of1 2 [4, 5, 7, 8, 9, 16] func70 ntmps70 results70 fun _ => ?_
 refine EvC.a ?_
 refine EvC.seq ?_
 refine EvC.a ?_
 refine EvC.block ?_
 refine EvC.loopS (σ := Nat) (fun i => ⟨[(0, .sl nl (xs.map intC) c), (1, .fn f cs), (7, .sc (.int .i64 xs.length)), (8, .sc (.int .i64 i))], [], [], 0⟩) (fun i => xs.length - i) (fun i => i ≤ xs.length ∧ findIdxI p xs 0 = findIdxI p (xs.drop i) i) [0, 1, 7, 8] 0 ?_ ?_
 ·refine ⟨[], 0, rfl, (by simp only [go_sem, hcs] <;> rfl), Nat.zero_le _, by simp⟩
 rintro i ⟨h1, h2⟩
 refine EvC.a ?_
 refine EvC.seq ?_
 refine EvC.cond (by simp only [go_sem] <;> rfl) (fun hc => ?_) (fun hc => ?_)
 rotate_left
 ·refine EvC.exit ?_
  have hi : ¬ i < xs.length := by simpa using hc
  refine EvC.a ?_
  refine EvC.rz ?_
  simp only [go_sem]
  rw [h2, List.drop_of_length_le (by omega)]; rfl
 have hi : i < xs.length := by simpa using hc
 have he : xs[i]? = some xs[i] := List.getElem?_eq_getElem hi
 have hd : xs.drop i = xs[i] :: xs.drop (i + 1) := List.drop_eq_getElem_cons hi
 have hm : xs[i] ∈ xs := List.getElem_mem hi
 generalize xs[i] = e at he hd hm
 refine EvC.skip ?_
 refine EvC.seq ?_
 refine EvC.block ?_
 refine EvC.a ?_
 apply EvC.s1
 ·apply Tr.run
  ·simp only [go_sem, he, intC] <;> rfl
  ·simp
  apply Tr.cons
  ·exact .call rfl rfl (by simp only [go_sem] <;> rfl) (by simp only [go_sem] <;> rfl) (by simp only [go_sem] <;> rfl) (by simp only [go_sem, hcs] <;> rfl) (by simp only [go_sem] <;> rfl) (hp e hm)
  apply Tr.done
  ·simp only [go_sem] <;> rfl
  ·simp
 refine EvC.cond (by simp only [go_sem] <;> rfl) (fun hc => ?_) (fun hc => ?_)
 ·refine EvC.a ?_
  refine EvC.rz ?_
  simp only [go_sem]
  rw [h2, hd, findIdxI, if_pos hc]
 refine EvC.skip ?_
 refine EvC.b ?_ (hok := by exact inI64_of (by omega) (by omega))
 refine ⟨[], i + 1, rfl, (by simp only [go_sem, hcs] <;> rfl), ⟨by omega, ?_⟩, by omega⟩
 rw [h2, hd, findIdxI, if_neg (by simp [hc])]; rfl
theorem containsInt_is (nl : Bool) (xs : List Int) (c : Cp) (f : FuncId) (cs : List AV) (hcs : AV.norefs cs = true) (p : Int → Bool) (hp : ∀ e ∈ xs, PureIs prog f (.sc (.int .i64 e) :: cs) (.sc (.bool (p e)))) (hl : xs.length < 1000000) :
  PureIs prog 39 [.sl nl (xs.map intC) c, .fn f cs] (.sc (.bool (xs.any p))) := by
 refine PureIs.of1 2 [4] func39 ntmps39 results39 fun _ => ?_
 refine EvC.a ?_
 apply EvC.s1
 ·apply Tr.run
  ·simp only [go_sem] <;> rfl
  ·simp
  apply Tr.cons
  ·exact .call rfl rfl (by simp only [go_sem] <;> rfl) (by simp only [go_sem] <;> rfl) (by simp only [go_sem] <;> rfl) (by simp only [go_sem, hcs] <;> rfl) (by simp only [go_sem] <;> rfl) (indexInt_is _ _ _ _ _ hcs _ hp hl)
  apply Tr.done
  ·simp only [go_sem] <;> rfl
  ·simp
 refine EvC.rz ?_
 simp only [go_sem]
 rw [findIdxI_any _ _ _ (Int.le_refl 0)]
theorem wcheck1_is (x n : Int) : PureIs prog 84 [.sc (.int .i64 x), .ia [.sc (.int .i64 n)]] (.sc (.bool (decide (x < 0) || decide (n ≤ x)))) := by
 refine PureIs.of1 2 [3] func84 ntmps84 results84 fun _ => ?_
 refine EvC.a ?_
 refine EvC.g ?_
 refine EvC.rz ?_
 simp only [go_sem]
 by_cases h : x < 0 <;> simp [h]
def wordErr (n : Int) (w : List Int) : Int := if 16 < n ∨ 256 < w.length then 3 else if n < 1 ∨ w.any (fun c => decide (c < 0) || decide (n ≤ c)) = true then 1 else 0
theorem wordCheck_is (nl : Bool) (w : List Int) (c : Cp) (n : Int) (hl : w.length < 1000000) : PureIs prog 68 [.sl nl (w.map intC) c, .sc (.int .i64 n)] (.sc (.int .i64 (wordErr n w))) := by
 refine PureIs.of1 2 [3, 4, 11, 18] func68 ntmps68 results68 fun _ => ?_
 refine EvC.a ?_
 refine EvC.z 0 ?_
 refine EvC.seq ?_
 refine EvC.g ?_
 refine EvC.cond (by simp only [go_sem] <;> rfl) (fun hc => ?_) (fun hc => ?_)
 ·have h : 16 < n ∨ 256 < w.length := by by_cases h1 : 16 < n <;> simp_all; omega
  refine EvC.a ?_
  refine EvC.rz ?_
  simp only [go_sem]
  rw [wordErr, if_pos h]
 have hn : ¬ (16 < n ∨ 256 < w.length) := by by_cases h1 : 16 < n <;> simp_all; omega
 refine EvC.skip ?_
 refine EvC.seq ?_
 by_cases h1 : n < 1
 ·have h1' : decide (n < 1) = true := by simp [h1]
  apply EvC.s1
  ·apply Tr.run
   ·simp only [go_sem] <;> rfl
   ·simp
   apply Tr.cons
   ·exact .skipv (.sc (.bool false)) rfl rfl (by simp only [go_sem, h1'] <;> rfl) (by simp only [go_sem] <;> rfl)
   apply Tr.done
   ·simp only [go_sem, h1'] <;> rfl
   ·simp
  refine EvC.ct ?_
  refine EvC.a ?_
  refine EvC.rz ?_
  simp only [go_sem]
  rw [wordErr, if_neg hn, if_pos (.inl h1)]
 have h1' : decide (n < 1) = false := by simp [h1]
 refine EvC.k1 ?_ (h1 := by simp only [go_sem, h1'] <;> rfl) (c1 := .cg (containsInt_is nl w c 84 [.ia [.sc (.int .i64 n)]] rfl (fun c => decide (c < 0) || decide (n ≤ c)) (fun e _ => wcheck1_is e n) hl)) (h2 := by simp only [go_sem, h1'] <;> rfl)
 refine EvC.cond (by simp only [go_sem] <;> rfl) (fun hc => ?_) (fun hc => ?_)
 ·refine EvC.a ?_
  refine EvC.rz ?_
  simp only [go_sem]
  rw [wordErr, if_neg hn, if_pos (.inr hc)]
 refine EvC.skip ?_
 refine EvC.a ?_
 refine EvC.rz ?_
 simp only [go_sem]
 rw [wordErr, if_neg hn, if_neg (by simp only [not_or]; exact ⟨h1, by simpa using hc⟩)]
def stateErr (m : Mach) (l : List Int) : Int := if checkM m ≠ 0 then checkM m else if l.any (fun x => decide (x < 0) || decide ((m.rows.length : Int) ≤ x)) = true then 1 else 0
theorem mstate_is (m : Mach) (hr : ∀ r ∈ m.rows, r.2.length < 1000000) (s : Int) : PureIs prog 67 [.ag m.cells, .sc (.int .i64 s)] (.sc (.int .i64 (stateErr m [s]))) := by
 refine PureIs.of1 3 [4, 5, 9, 19] func67 ntmps67 results67 fun _ => ?_
 refine EvC.a ?_ (by simp only [go_sem, Mach.cells] <;> rfl)
 refine EvC.z 0 ?_
 refine EvC.seq ?_
 refine EvC.k1 ?_ (h1 := by simp only [go_sem, Mach.cells] <;> rfl) (c1 := .ca (check_is m hr))
 refine EvC.a ?_
 refine EvC.cond (by simp only [go_sem] <;> rfl) (fun hc => ?_) (fun hc => ?_)
 ·refine EvC.a ?_
  refine EvC.rz ?_
  simp only [go_sem]
  rw [stateErr, if_pos (by simpa using hc)]
 have hck : ¬ checkM m ≠ 0 := by simpa using hc
 refine EvC.skip ?_
 refine EvC.seq ?_
 refine EvC.g ?_ (h := by simp only [go_sem, Mach.cells] <;> rfl)
 refine EvC.cond (by simp only [go_sem] <;> rfl) (fun hc => ?_) (fun hc => ?_)
 ·have h : s < 0 ∨ (m.rows.length : Int) ≤ s := by by_cases h1 : s < 0 <;> simp_all
  refine EvC.a ?_
  refine EvC.rz ?_
  simp only [go_sem]
  rw [stateErr, if_neg hck, if_pos (by simpa using h)]
 have h : ¬ (s < 0 ∨ (m.rows.length : Int) ≤ s) := by by_cases h1 : s < 0 <;> simp_all
 refine EvC.skip ?_
 refine EvC.a ?_
 refine EvC.rz ?_
 simp only [go_sem]
 rw [stateErr, if_neg hck, if_neg (by simpa using h)]
def afterR (m : Mach) : Int → List Int → Int
 | s, [] => s
 | s, a :: w => afterR m (stepR m s a).1 w
theorem run75_is {m : Mach} (hv : Valid m) (s : Int) (hs : s < m.rows.length) (hs0 : -1 ≤ s) (nl : Bool) (w : List Int) (c : Cp) (hw : ∀ a ∈ w, 0 ≤ a ∧ a < m.ins) (hl : w.length < 1000000) :
  PureIs prog 69 [.ag m.cells, .sc (.int .i64 s), .sl nl (w.map intC) c] (.tu [.sl false ((runR m s w).map intC) .unk, .sc (.int .i64 (afterR m s w))]) := by
 refine PureIs.of1 4 [6, 7, 8, 9, 10, 11, 15, 16, 17, 18, 24] func69 ntmps69 results69 fun _ => ?_
 refine EvC.a ?_ (by simp only [go_sem, Mach.cells] <;> rfl)
 refine EvC.z 0 ?_
 refine EvC.a ?_ (hok := by simp [room_eq]; omega)
 refine EvC.seq ?_
 refine EvC.a ?_
 refine EvC.block ?_
 have hz : ∀ n : Nat, List.replicate n [AV.sc (.int .i64 0)] = (List.replicate n (0 : Int)).map intC := fun n => by simp [intC]
 refine EvC.loopS (σ := Nat × Int × List Int × List Int) (fun g => ⟨[(1, .sc (.int .i64 g.2.1)), (3, .ia m.cells), (8, .tl 0 w.length false), (15, .sl nl (w.map intC) c), (16, .sc (.int .i64 w.length)), (17, .sc (.int .i64 g.1))], [], [(0, .arr 1 (g.2.2.2.map intC) false)], 1⟩) (fun g => w.length - g.1)
  (fun g => g.1 ≤ w.length ∧ g.2.2.1.length = g.1 ∧ g.2.1 < m.rows.length ∧ -1 ≤ g.2.1 ∧ runR m s w = g.2.2.1 ++ runR m g.2.1 (w.drop g.1) ∧ afterR m s w = afterR m g.2.1 (w.drop g.1) ∧ g.2.2.2 = g.2.2.1 ++ List.replicate (w.length - g.1) 0) [1, 3, 8, 15, 16, 17] 1 ?_ ?_
 ·refine ⟨[(5, 0)], (0, s, [], List.replicate w.length 0), rfl, (by simp only [go_sem, Mach.cells, hz, Int.toNat_natCast] <;> rfl), Nat.zero_le _, rfl, hs, hs0, rfl, rfl, by simp⟩
 rintro ⟨i, t, os, out⟩ ⟨h1, h2, h3, h4, h5, h6, ho⟩
 simp only at h1 h2 h3 h4 h5 h6 ho
 have hlen : out.length = w.length := by rw [ho]; simp; omega
 refine EvC.a ?_
 refine EvC.seq ?_
 refine EvC.cond (by simp only [go_sem] <;> rfl) (fun hc => ?_) (fun hc => ?_)
 rotate_left
 ·refine EvC.exit ?_
  obtain rfl : i = w.length := by have : ¬ i < w.length := by simpa using hc
                                  omega
  rw [List.drop_length] at h5 h6
  refine EvC.frz 0 (by simp only [go_sem, hlen, List.length_map] <;> rfl) ?_
  refine EvC.a ?_
  refine EvC.rz ?_
  simp only [go_sem]
  rw [h5, h6, ho]
  simp [runR, afterR]
 have hi : i < w.length := by simpa using hc
 have he : w[i]? = some w[i] := List.getElem?_eq_getElem hi
 have hd : w.drop i = w[i] :: w.drop (i + 1) := List.drop_eq_getElem_cons hi
 have ha := hw _ (List.getElem_mem hi)
 generalize w[i] = a at he hd ha
 rw [hd, runR] at h5
 rw [hd, afterR] at h6
 refine EvC.skip ?_
 refine EvC.seq ?_
 refine EvC.block ?_
 refine EvC.a ?_ (by simp only [go_sem, he, intC] <;> rfl)
 refine EvC.k1 ?_ (c1 := .ca none_is)
 refine EvC.seq ?_
 refine EvC.a ?_
 have hr : w.length - i = (w.length - (i + 1)) + 1 := by omega
 have hset' : ∀ y : Int, out.set i y = (os ++ [y]) ++ List.replicate (w.length - (i + 1)) 0 := fun y => by
  rw [ho, hr, List.replicate_succ, ← h2, set_mid]
  simp
 have hset : ∀ y : Int, (out.map intC).set i [.sc (.int .i64 y)] = (out.set i y).map intC := fun y => by
  rw [show [AV.sc (.int .i64 y)] = intC y from rfl, ← List.map_set]
 have hge : out[i]? = some 0 := by
  rw [ho, List.getElem?_append_right (by omega), hr, h2]; simp
 have hlt := stepR_lt hv h3 ha
 have hge1 : -1 ≤ (stepR m t a).1 := by
  by_cases h0 : 0 ≤ t
  ·obtain ⟨r, e, _, _, k3, k4⟩ := stepR_get hv h0 h3 ha
   rw [k3]; unfold fitsR at k4; simp at k4; omega
  ·rw [stepR, if_pos (by omega)]; simp
 refine EvC.cond (by simp only [go_sem] <;> rfl) (fun hc => ?_) (fun hc => ?_)
 ·have hc : ¬ t = -1 := by simpa using hc
  obtain ⟨r, e, k1, k2, k3, k4⟩ := stepR_get hv (show 0 ≤ t by omega) h3 ha
  have htl : t.toNat < m.rows.length := by omega
  refine EvC.b ?_ (by simp only [go_sem, Mach.cells, k1, rowC, k2, edgeC] <;> rfl) (by simp; omega)
  refine EvC.dL mixed ?_ (h := by simp only [go_sem, hset, hge, intC] <;> rfl) (hok := by simp [hlen]; omega)
  refine EvC.b ?_ (hok := by exact inI64_of (by omega) (by omega))
  rw [k3] at h5 h6 hlt hge1
  refine ⟨[(0, 0)], (i + 1, e.1, os ++ [e.2], out.set i e.2), rfl, (by simp only [go_sem, Mach.cells] <;> rfl), ⟨by simp only; omega, by simp [h2], hlt, hge1, ?_, h6, hset' _⟩, by simp only; omega⟩
  simp only [h5, List.append_assoc]; rfl
 have hc : t = -1 := by simpa using hc
 refine EvC.skip ?_
 refine EvC.dL mixed ?_ (h := by simp only [go_sem, hset, hge, intC] <;> rfl) (hok := by simp [hlen]; omega)
 refine EvC.b ?_ (hok := by exact inI64_of (by omega) (by omega))
 have k3 : stepR m t a = (-1, -1) := by rw [stepR, if_pos (by omega)]
 rw [k3] at h5 h6 hlt hge1
 refine ⟨[(0, 0)], (i + 1, -1, os ++ [-1], out.set i (-1)), rfl, (by simp only [go_sem, Mach.cells] <;> rfl), ⟨by simp only; omega, by simp [h2], hlt, hge1, ?_, h6, hset' _⟩, by simp only; omega⟩
 simp only [h5, List.append_assoc]; rfl
theorem runR_len (m : Mach) : ∀ (s : Int) (w : List Int), (runR m s w).length = w.length
 | _, [] => rfl
 | s, a :: w => by simp only [runR, List.length_cons]; rw [runR_len m _ w]
theorem wordErr_zero {n : Int} {w : List Int} (h : wordErr n w = 0) : ∀ a ∈ w, 0 ≤ a ∧ a < n := by
 unfold wordErr at h
 split at h
 ·cases h
 ·split at h
  ·cases h
  ·rename_i h2
   simp only [not_or, Bool.not_eq_true, List.any_eq_false] at h2
   intro a ha
   have := h2.2 a ha
   simp at this; omega
theorem checkM_of {m : Mach} (hv : Valid m) : checkM m = 0 := by
 have h1 := hv.ins
 have h2 := hv.outs
 have h3 := hv.rows
 have h4 : m.rows.all (rowOk m) = true := by
  rw [List.all_eq_true]
  intro r hr
  obtain ⟨k1, k2⟩ := hv.row r hr
  simp only [rowOk, Bool.and_eq_true, decide_eq_true_eq, Bool.not_eq_true', List.any_eq_false]
  exact ⟨k1, fun e he => by simp [k2 e he]⟩
 rw [checkM, if_neg (by omega), if_neg (by omega), if_pos h4]
theorem stateErr_of {m : Mach} {l : List Int} (hv : Valid m) (h : ∀ s ∈ l, 0 ≤ s ∧ s < m.rows.length) : stateErr m l = 0 := by
 have h2 : ¬ l.any (fun x => decide (x < 0) || decide ((m.rows.length : Int) ≤ x)) = true := by
  simp only [Bool.not_eq_true, List.any_eq_false]
  exact fun s hs => by have := h s hs; simp; omega
 rw [stateErr, if_neg (by simp [checkM_of hv]), if_neg h2]
theorem Valid.small {m : Mach} (hv : Valid m) : ∀ r ∈ m.rows, r.2.length < 1000000 := fun r hr => by
 have := (hv.row r hr).1
 have := hv.ins
 omega
theorem run52_is {m : Mach} (hv : Valid m) (s : Int) (hs : 0 ≤ s ∧ s < m.rows.length) (nl : Bool) (w : List Int) (c : Cp) (hw : wordErr m.ins w = 0) (hl : w.length < 1000000) :
  PureIs prog 37 [.ag m.cells, .sc (.int .i64 s), .sl nl (w.map intC) c] (.tu [.sl false ((runR m s w).map intC) .unk, .sc (.int .i64 0)]) := by
 refine PureIs.of1 4 [6, 7, 8, 9, 10, 16, 23] func37 ntmps37 results37 fun _ => ?_
 have h1 : stateErr m [s] = 0 := stateErr_of hv (by simpa using hs)
 refine EvC.a ?_ (by simp only [go_sem, Mach.cells] <;> rfl)
 refine EvC.z 0 ?_
 refine EvC.seq ?_
 refine EvC.k1 ?_ (h1 := by simp only [go_sem, Mach.cells] <;> rfl) (c1 := .ca (mstate_is m hv.small s)) (h2 := by simp only [go_sem, h1] <;> rfl)
 refine EvC.a ?_
 refine EvC.cs ?_
 refine EvC.seq ?_
 refine EvC.k1 ?_ (h1 := by simp only [go_sem, Mach.cells] <;> rfl) (c1 := .ca (wordCheck_is nl w c m.ins hl)) (h2 := by simp only [go_sem, hw] <;> rfl)
 refine EvC.a ?_
 refine EvC.cs ?_
 refine EvC.k1 ?_ (h1 := by simp only [go_sem, Mach.cells] <;> rfl) (c1 := .ca (run75_is hv s hs.2 (by omega) nl w c (wordErr_zero hw) hl))
 refine EvC.a ?_
 refine EvC.rz ?_
 simp only [go_sem]
structure FA where
 kind : Int
 state : Int
 input : Int
 to : Int
 at' : Int
 out : Int
def FA.cells (f : FA) : List AV := [.sc (.int .i64 f.kind), .sc (.int .i64 f.state), .sc (.int .i64 f.input), .sc (.int .i64 f.to), .sc (.int .i64 f.at'), .sc (.int .i64 f.out)]
def inN (i n : Int) : Bool := decide (0 ≤ i) && decide (i < n)
def definedB (m : Mach) (s i : Int) : Bool := decide (0 ≤ s) && (decide (s < m.rows.length) && (decide (0 ≤ i) && (decide (i < m.ins) && !decide ((stepM m s i).1 = -1))))
def plainB (f : FA) : Bool :=
 if f.kind = 0 then decide (f.to = 0) && decide (f.at' = 0)
 else if f.kind = 1 then decide (f.at' = 0) && decide (f.out = 0)
 else if f.kind = 2 then decide (f.to = 0) && (decide (f.at' = 0) && decide (f.out = 0))
 else if f.kind = 3 then decide (f.at' = 0) && decide (f.out = 0)
 else if f.kind = 4 then decide (f.to = 0) else false
theorem within85_is (i n : Int) : PureIs prog 63 [.sc (.int .i64 i), .sc (.int .i64 n)] (.sc (.bool (inN i n))) := by
 refine PureIs.of1 2 [4] func63 ntmps63 results63 fun _ => ?_
 refine EvC.a ?_
 refine EvC.g ?_
 refine EvC.rz ?_
 simp only [go_sem]
 unfold inN
 by_cases h : 0 ≤ i <;> simp [h]
theorem stepM_get {m : Mach} (hv : Valid m) {s i : Int} (hs : 0 ≤ s ∧ s < m.rows.length) (hi : 0 ≤ i ∧ i < m.ins) :
  ∃ r, m.rows[s.toNat]? = some r ∧ r.2[i.toNat]? = some (stepM m s i) ∧ fitsR m.rows.length m.outs (stepM m s i).1 (stepM m s i).2 = true := by
 obtain ⟨r, e, h1, h2, h3, h4⟩ := stepR_get hv hs.1 hs.2 hi
 have : stepR m s i = stepM m s i := by rw [stepR, if_neg (by omega)]; rfl
 rw [← h3, this] at h2 h4
 exact ⟨r, h1, h2, h4⟩
theorem defined84_is {m : Mach} (hv : Valid m) (s i : Int) : PureIs prog 62 [.ag m.cells, .sc (.int .i64 s), .sc (.int .i64 i)] (.sc (.bool (definedB m s i))) := by
 refine PureIs.of1 4 [6] func62 ntmps62 results62 fun _ => ?_
 refine EvC.a ?_ (by simp only [go_sem, Mach.cells] <;> rfl)
 refine EvC.z 0 ?_
 have hn1 := hv.rows
 have hi1 := hv.ins
 cases h1 : m.rows[s.toNat]? with
 | none =>
   have hs : m.rows.length ≤ s.toNat := List.getElem?_eq_none_iff.1 h1
   have d1 : decide (0 ≤ s) = true := decide_eq_true (by omega)
   have d2 : decide (s < (m.rows.length : Int)) = false := decide_eq_false (by omega)
   have hres : definedB m s i = false := by simp [definedB, d1, d2]
   rw [hres]
   apply EvC.s1
   ·apply Tr.run
    ·simp only [go_sem, Mach.cells, List.length_map, h1, d1, d2] <;> rfl
    ·simp
    apply Tr.cons
    ·exact .skipv (.ia [.sl false [] .unk]) rfl rfl (by simp only [go_sem] <;> rfl) (by simp only [go_sem] <;> rfl)
    apply Tr.run
    ·simp only [go_sem, Mach.cells, List.length_map, h1, d1, d2] <;> rfl
    ·simp
    apply Tr.cons
    ·exact .skipv (.ia [.sc (.int .i64 0), .sc (.int .i64 0)]) rfl rfl (by simp only [go_sem] <;> rfl) (by simp only [go_sem] <;> rfl)
    apply Tr.done
    ·simp only [go_sem] <;> rfl
    ·simp
   refine EvC.rz ?_
   simp only [go_sem]
 | some r =>
   have hsl : s.toNat < m.rows.length := (List.getElem?_eq_some_iff.1 h1).1
   have hrl := (hv.row _ (List.mem_of_getElem? h1)).1
   cases h2 : r.2[i.toNat]? with
   | none =>
     have hi : r.2.length ≤ i.toNat := List.getElem?_eq_none_iff.1 h2
     have d3 : decide (0 ≤ i) = true := decide_eq_true (by omega)
     have d4 : decide (i < m.ins) = false := decide_eq_false (by omega)
     have hres : definedB m s i = false := by simp [definedB, d3, d4]
     rw [hres]
     by_cases h0 : 0 ≤ s
     ·have d1 : decide (0 ≤ s) = true := decide_eq_true h0
      have d2 : decide (s < (m.rows.length : Int)) = true := decide_eq_true (by omega)
      apply EvC.s1
      ·apply Tr.run
       ·simp only [go_sem, Mach.cells, rowC, List.length_map, h1, h2, d1, d2, d3, d4] <;> rfl
       ·simp
       apply Tr.cons
       ·exact .skipv (.ia [.sc (.int .i64 0), .sc (.int .i64 0)]) rfl rfl (by simp only [go_sem] <;> rfl) (by simp only [go_sem] <;> rfl)
       apply Tr.done
       ·simp only [go_sem] <;> rfl
       ·simp
      refine EvC.rz ?_
      simp only [go_sem]
     ·have d1 : decide (0 ≤ s) = false := decide_eq_false h0
      apply EvC.s1
      ·apply Tr.run
       ·simp only [go_sem, Mach.cells, rowC, List.length_map, h1, h2, d1, d3, d4] <;> rfl
       ·simp
       apply Tr.cons
       ·exact .skipv (.ia [.sc (.int .i64 0), .sc (.int .i64 0)]) rfl rfl (by simp only [go_sem] <;> rfl) (by simp only [go_sem] <;> rfl)
       apply Tr.done
       ·simp only [go_sem] <;> rfl
       ·simp
      refine EvC.rz ?_
      simp only [go_sem]
   | some e =>
     have he : stepM m s i = e := by rw [stepM, h1]; simp [h2]
     unfold definedB
     rw [he]
     refine EvC.g ?_ (h := by simp only [go_sem, Mach.cells, h1, h2, rowC, edgeC, List.length_map] <;> rfl) (hok := by by_cases k1 : 0 ≤ s <;> by_cases k3 : 0 ≤ i <;> simp [k1, k3])
     refine EvC.rz ?_
     simp only [go_sem]
     by_cases k1 : 0 ≤ s <;> by_cases k2 : s < m.rows.length <;> by_cases k3 : 0 ≤ i <;> by_cases k4 : i < m.ins <;> simp [k1, k2, k3, k4]
theorem kind_cases (k : Int) : (k = 0 ∨ k = 1 ∨ k = 2 ∨ k = 3 ∨ k = 4) ∨ inN k 5 = false := by
 by_cases h : 0 ≤ k ∧ k < 5
 ·exact .inl (by omega)
 ·refine .inr ?_
  unfold inN
  rw [Bool.and_eq_false_iff]
  by_cases h1 : 0 ≤ k
  ·exact .inr (decide_eq_false fun h2 => h ⟨h1, h2⟩)
  ·exact .inl (decide_eq_false h1)
theorem plain83_is (f : FA) : PureIs prog 61 [.ag f.cells] (.sc (.bool (plainB f))) := by
 obtain ⟨k, s, i, t, a, o⟩ := f
 have q := within85_is k 5
 refine PureIs.of1 4 [7] func61 ntmps61 results61 fun _ => ?_
 refine EvC.a ?_ (by simp only [go_sem, FA.cells] <;> rfl)
 refine EvC.z 0 ?_
 refine EvC.seq ?_
 rcases kind_cases k with hk | hk
 rotate_left
 ·rw [hk] at q
  have hres : plainB ⟨k, s, i, t, a, o⟩ = false := by
   unfold inN at hk
   rw [Bool.and_eq_false_iff, decide_eq_false_iff_not, decide_eq_false_iff_not] at hk
   unfold plainB
   simp only
   rw [if_neg (by omega), if_neg (by omega), if_neg (by omega), if_neg (by omega), if_neg (by omega)]
  rw [hres]
  refine EvC.k1 ?_ (c1 := .ca q)
  refine EvC.ct ?_
  refine EvC.a ?_
  refine EvC.rz ?_
  simp only [go_sem]
 have q5 : inN k 5 = true := by unfold inN; simp; omega
 rw [q5] at q
 have n2 : (2 : Int).toNat = 2 := rfl
 have n3 : (3 : Int).toNat = 3 := rfl
 have n4 : (4 : Int).toNat = 4 := rfl
 have n1 : (1 : Int).toNat = 1 := rfl
 have n0 : (0 : Int).toNat = 0 := rfl
 refine EvC.k1 ?_ (c1 := .ca q)
 refine EvC.cs ?_
 rcases hk with rfl | rfl | rfl | rfl | rfl
 all_goals
  refine EvC.a ?_ (by simp only [go_sem, kindTab, kindN, n0, n1, n2, n3, n4, Nat.reduceMul] <;> rfl)
  refine EvC.g ?_
  refine EvC.rz ?_
  simp only [go_sem]
  unfold plainB
  by_cases e1 : t = 0 <;> by_cases e2 : a = 0 <;> by_cases e3 : o = 0 <;> simp [e1, e2, e3]
def kindB (m : Mach) (f : FA) : Bool :=
 if f.kind = 0 then inN f.out m.outs && !decide (f.out = (stepM m f.state f.input).2)
 else if f.kind = 1 then inN f.to m.rows.length && !decide (f.to = (stepM m f.state f.input).1)
 else if f.kind = 2 then true
 else if f.kind = 3 then inN f.to m.rows.length
 else inN f.out m.outs && (definedB m (stepM m f.state f.input).1 f.at' && !decide (f.out = (stepM m (stepM m f.state f.input).1 f.at').2))
def faultB (m : Mach) (f : FA) : Bool := plainB f && (definedB m f.state f.input && kindB m f)
def checkF (m : Mach) (f : FA) : Int := if faultB m f = true then (if 3 ≤ f.kind ∧ m.rows.length = 64 then 3 else 0) else 1
theorem definedB_iff {m : Mach} {s i : Int} : definedB m s i = true ↔ (0 ≤ s ∧ s < m.rows.length) ∧ (0 ≤ i ∧ i < m.ins) ∧ (stepM m s i).1 ≠ -1 := by
 unfold definedB
 simp only [Bool.and_eq_true, decide_eq_true_eq, Bool.not_eq_true', decide_eq_false_iff_not]
 constructor
 ·rintro ⟨a, b, c, d, e⟩; exact ⟨⟨a, b⟩, ⟨c, d⟩, e⟩
 ·rintro ⟨⟨a, b⟩, ⟨c, d⟩, e⟩; exact ⟨a, b, c, d, e⟩
theorem step_in {m : Mach} (hv : Valid m) {s i : Int} (hd : definedB m s i = true) : ∃ r, m.rows[s.toNat]? = some r ∧ r.2[i.toNat]? = some (stepM m s i) ∧ (0 ≤ (stepM m s i).1 ∧ (stepM m s i).1 < m.rows.length) := by
 obtain ⟨h1, h2, h3⟩ := definedB_iff.1 hd
 obtain ⟨r, k1, k2, k3⟩ := stepM_get hv h1 h2
 refine ⟨r, k1, k2, ?_⟩
 unfold fitsR at k3
 simp only [Bool.or_eq_true, Bool.and_eq_true, decide_eq_true_eq] at k3
 omega
theorem plainB_kind {f : FA} (h : plainB f = true) : f.kind = 0 ∨ f.kind = 1 ∨ f.kind = 2 ∨ f.kind = 3 ∨ f.kind = 4 := by
 unfold plainB at h
 by_cases h0 : f.kind = 0
 ·exact .inl h0
 by_cases h1 : f.kind = 1
 ·exact .inr (.inl h1)
 by_cases h2 : f.kind = 2
 ·exact .inr (.inr (.inl h2))
 by_cases h3 : f.kind = 3
 ·exact .inr (.inr (.inr (.inl h3)))
 by_cases h4 : f.kind = 4
 ·exact .inr (.inr (.inr (.inr h4)))
 simp [h0, h1, h2, h3, h4] at h
theorem plainB_at {f : FA} (h : plainB f = true) (hk : f.kind ≠ 4) : f.at' = 0 := by
 unfold plainB at h
 by_cases h0 : f.kind = 0
 ·simp [h0] at h; exact h.2
 by_cases h1 : f.kind = 1
 ·simp [h1] at h; exact h.1
 by_cases h2 : f.kind = 2
 ·simp [h2] at h; exact h.2.1
 by_cases h3 : f.kind = 3
 ·simp [h3] at h; exact h.1
 simp [h0, h1, h2, h3, hk] at h
set_option maxHeartbeats 4000000 in
theorem check78_is {m : Mach} (hv : Valid m) (hc0 : checkM m = 0) (f : FA) : PureIs prog 35 [.ag m.cells, .ag f.cells] (.sc (.int .i64 (checkF m f))) := by
 have q0 := check_is m fun r hr => by have := (hv.row r hr).1; have := hv.ins; omega
 rw [hc0] at q0
 obtain ⟨kd, s, i, t, a, o⟩ := f
 refine PureIs.of1 8 [11, 24, 74, 117, 126] func35 ntmps35 results35 fun _ => ?_
 refine EvC.a ?_ (by simp only [go_sem, Mach.cells, FA.cells] <;> rfl)
 refine EvC.z 0 ?_
 refine EvC.z 1 ?_
 refine EvC.seq ?_
 refine EvC.k1 ?_ (h1 := by simp only [go_sem, Mach.cells] <;> rfl) (c1 := .ca q0)
 refine EvC.a ?_
 refine EvC.cs ?_
 refine EvC.seq ?_
 have qp := plain83_is ⟨kd, s, i, t, a, o⟩
 cases hp : plainB ⟨kd, s, i, t, a, o⟩ with
 | false =>
   rw [hp] at qp
   have hres : checkF m ⟨kd, s, i, t, a, o⟩ = 1 := by unfold checkF faultB; rw [hp]; rfl
   rw [hres]
   apply EvC.s1
   ·apply Tr.run
    ·simp only [go_sem, FA.cells, Mach.cells] <;> rfl
    ·simp
    apply Tr.cons
    ·exact .ca (qp)
    apply Tr.run
    ·simp only [go_sem, FA.cells, Mach.cells] <;> rfl
    ·simp
    apply Tr.cons
    ·exact .skipv (.sc (.bool false)) rfl rfl (by simp only [go_sem] <;> rfl) (by simp only [go_sem] <;> rfl)
    apply Tr.done
    ·simp only [go_sem] <;> rfl
    ·simp
   refine EvC.ct ?_
   refine EvC.a ?_
   refine EvC.rz ?_
   simp only [go_sem]
 | true =>
 rw [hp] at qp
 have qd := defined84_is hv s i
 cases hd : definedB m s i with
 | false =>
   rw [hd] at qd
   have hres : checkF m ⟨kd, s, i, t, a, o⟩ = 1 := by unfold checkF faultB; simp only; rw [hp, hd]; rfl
   rw [hres]
   refine EvC.k2 ?_ (h1 := by simp only [go_sem, FA.cells, Mach.cells] <;> rfl) (c1 := .ca qp) (h2 := by simp only [go_sem, FA.cells, Mach.cells] <;> rfl) (c2 := .cg qd)
   refine EvC.ct ?_
   refine EvC.a ?_
   refine EvC.rz ?_
   simp only [go_sem]
 | true =>
 rw [hd] at qd
 have hck : checkF m ⟨kd, s, i, t, a, o⟩ = if kindB m ⟨kd, s, i, t, a, o⟩ = true then (if 3 ≤ kd ∧ m.rows.length = 64 then 3 else 0) else 1 := by unfold checkF faultB; simp only; rw [hp, hd]; rfl
 rw [hck]
 clear hck
 refine EvC.k2 ?_ (h1 := by simp only [go_sem, FA.cells, Mach.cells] <;> rfl) (c1 := .ca qp) (h2 := by simp only [go_sem, FA.cells, Mach.cells] <;> rfl) (c2 := .cg qd)
 refine EvC.cs ?_
 obtain ⟨r, h1, h2, he⟩ := step_in hv hd
 obtain ⟨b1, b2, _⟩ := definedB_iff.1 hd
 have hkd := plainB_kind hp
 have hat : kd ≠ 4 → a = 0 := fun h => plainB_at hp h
 simp only at hkd
 unfold kindB
 simp only
 generalize stepM m s i = e at *
 have h3 : m.rows[e.1.toNat]? = some (m.rows[e.1.toNat]'(by omega)) := List.getElem?_eq_getElem (by omega)
 have hrl := (hv.row _ (List.getElem_mem (show e.1.toNat < m.rows.length by omega))).1
 generalize m.rows[e.1.toNat]'(by omega) = r3 at h3 hrl
 have hsm : stepM m e.1 a = (r3.2[a.toNat]?).getD (-1, -1) := by rw [stepM, h3]; rfl
 have hi1 := hv.ins
 have hro1 := hv.rows
 refine EvC.d mixed ?_ (h := by simp only [go_sem, h1, h2, rowC, edgeC, List.length_map] <;> rfl) (hok := by simp; try omega)
 refine EvC.z 30 ?_
 have n2 : (2 : Int).toNat = 2 := rfl
 have n3 : (3 : Int).toNat = 3 := rfl
 have n4 : (4 : Int).toNat = 4 := rfl
 have n1 : (1 : Int).toNat = 1 := rfl
 have n0 : (0 : Int).toNat = 0 := rfl
 have qt := within85_is t m.rows.length
 have qo := within85_is o m.outs
 have d64 : decide ((m.rows.length : Int) = 64) = decide (m.rows.length = 64) := decide_eq_decide.2 (by omega)
 rcases hkd with rfl | rfl | rfl | rfl | rfl
 ·
  obtain rfl := hat (by decide)
  have h4 : r3.2[0]? = some (r3.2[0]'(by omega)) := List.getElem?_eq_getElem (by omega)
  generalize r3.2[0]'(by omega) = e4 at h4
  rw [if_pos rfl]
  refine EvC.a ?_ (by simp only [go_sem, kindTab, kindN, n0, n1, n2, n3, n4, Nat.reduceMul] <;> rfl)
  refine EvC.z 36 ?_
  refine EvC.seq ?_
  cases hq : inN o m.outs with
  | false =>
    rw [hq] at qo
    apply EvC.s1
    ·apply Tr.run
     ·simp only [go_sem, FA.cells, Mach.cells, List.length_map] <;> rfl
     ·simp
     apply Tr.cons
     ·exact .skipv (.sc (.bool false)) rfl rfl (by simp only [go_sem] <;> rfl) (by simp only [go_sem] <;> rfl)
     apply Tr.run
     ·simp only [go_sem, FA.cells, Mach.cells, List.length_map] <;> rfl
     ·simp
     apply Tr.cons
     ·exact .cg (qo)
     apply Tr.run
     ·simp only [go_sem, FA.cells, Mach.cells, List.length_map] <;> rfl
     ·simp
     apply Tr.cons
     ·exact .skipv (.sc (.bool false)) rfl rfl (by simp only [go_sem] <;> rfl) (by simp only [go_sem] <;> rfl)
     apply Tr.done
     ·simp only [go_sem] <;> rfl
     ·simp
    refine EvC.ct ?_
    refine EvC.a ?_
    refine EvC.rz ?_
    simp only [go_sem]
  | true =>
  rw [hq] at qo
  apply EvC.s1
  ·apply Tr.run
   ·simp only [go_sem, FA.cells, Mach.cells, List.length_map] <;> rfl
   ·simp
   apply Tr.cons
   ·exact .skipv (.sc (.bool false)) rfl rfl (by simp only [go_sem] <;> rfl) (by simp only [go_sem] <;> rfl)
   apply Tr.run
   ·simp only [go_sem, FA.cells, Mach.cells, List.length_map] <;> rfl
   ·simp
   apply Tr.cons
   ·exact .cg (qo)
   apply Tr.run
   ·simp only [go_sem, FA.cells, Mach.cells, List.length_map] <;> rfl
   ·simp
   apply Tr.cons
   ·exact .skipv (.sc (.bool false)) rfl rfl (by simp only [go_sem] <;> rfl) (by simp only [go_sem] <;> rfl)
   apply Tr.done
   ·simp only [go_sem] <;> rfl
   ·simp
  refine EvC.cs ?_
  refine EvC.seq ?_
  refine EvC.d mixed ?_ (h := by simp only [go_sem, h3, h4, rowC, edgeC, n0, List.length_map] <;> rfl) (hok := by simp; try omega)
  refine EvC.cond (by simp only [go_sem] <;> rfl) (fun hc => ?_) (fun hc => ?_)
  ·have hc' : o = e.2 := by simpa using hc
   refine EvC.a ?_
   refine EvC.rz ?_
   simp only [go_sem]
   simp [hc']
  have hc' : ¬ o = e.2 := by simpa using hc
  refine EvC.skip ?_
  refine EvC.seq ?_
  refine EvC.g ?_ (h := by simp only [go_sem, List.length_map] <;> rfl)
  refine EvC.cs ?_
  refine EvC.a ?_
  refine EvC.rz ?_
  simp only [go_sem]
  simp [hc']
 ·
  obtain rfl := hat (by decide)
  have h4 : r3.2[0]? = some (r3.2[0]'(by omega)) := List.getElem?_eq_getElem (by omega)
  generalize r3.2[0]'(by omega) = e4 at h4
  rw [if_neg (show ¬ (1 : Int) = 0 by decide), if_pos (show (1 : Int) = 1 from rfl)]
  refine EvC.a ?_ (by simp only [go_sem, kindTab, kindN, n0, n1, n2, n3, n4, Nat.reduceMul] <;> rfl)
  refine EvC.z 36 ?_
  refine EvC.seq ?_
  cases hq : inN t m.rows.length with
  | false =>
    rw [hq] at qt
    apply EvC.s1
    ·apply Tr.run
     ·simp only [go_sem, FA.cells, Mach.cells, List.length_map] <;> rfl
     ·simp
     apply Tr.cons
     ·exact .cg (qt)
     apply Tr.run
     ·simp only [go_sem, FA.cells, Mach.cells, List.length_map] <;> rfl
     ·simp
     apply Tr.cons
     ·exact .skipv (.sc (.bool false)) rfl rfl (by simp only [go_sem] <;> rfl) (by simp only [go_sem] <;> rfl)
     apply Tr.run
     ·simp only [go_sem, FA.cells, Mach.cells, List.length_map] <;> rfl
     ·simp
     apply Tr.cons
     ·exact .skipv (.sc (.bool false)) rfl rfl (by simp only [go_sem] <;> rfl) (by simp only [go_sem] <;> rfl)
     apply Tr.done
     ·simp only [go_sem] <;> rfl
     ·simp
    refine EvC.ct ?_
    refine EvC.a ?_
    refine EvC.rz ?_
    simp only [go_sem]
  | true =>
  rw [hq] at qt
  apply EvC.s1
  ·apply Tr.run
   ·simp only [go_sem, FA.cells, Mach.cells, List.length_map] <;> rfl
   ·simp
   apply Tr.cons
   ·exact .cg (qt)
   apply Tr.run
   ·simp only [go_sem, FA.cells, Mach.cells, List.length_map] <;> rfl
   ·simp
   apply Tr.cons
   ·exact .skipv (.sc (.bool false)) rfl rfl (by simp only [go_sem] <;> rfl) (by simp only [go_sem] <;> rfl)
   apply Tr.run
   ·simp only [go_sem, FA.cells, Mach.cells, List.length_map] <;> rfl
   ·simp
   apply Tr.cons
   ·exact .skipv (.sc (.bool false)) rfl rfl (by simp only [go_sem] <;> rfl) (by simp only [go_sem] <;> rfl)
   apply Tr.done
   ·simp only [go_sem] <;> rfl
   ·simp
  refine EvC.cs ?_
  refine EvC.seq ?_
  refine EvC.d mixed ?_ (h := by simp only [go_sem, h3, h4, rowC, edgeC, n0, List.length_map] <;> rfl) (hok := by simp; try omega)
  refine EvC.cond (by simp only [go_sem] <;> rfl) (fun hc => ?_) (fun hc => ?_)
  ·have hc' : t = e.1 := by simpa using hc
   refine EvC.a ?_
   refine EvC.rz ?_
   simp only [go_sem]
   simp [hc']
  have hc' : ¬ t = e.1 := by simpa using hc
  refine EvC.skip ?_
  refine EvC.seq ?_
  refine EvC.g ?_ (h := by simp only [go_sem, List.length_map] <;> rfl)
  refine EvC.cs ?_
  refine EvC.a ?_
  refine EvC.rz ?_
  simp only [go_sem]
  simp [hc']
 ·
  obtain rfl := hat (by decide)
  have h4 : r3.2[0]? = some (r3.2[0]'(by omega)) := List.getElem?_eq_getElem (by omega)
  generalize r3.2[0]'(by omega) = e4 at h4
  rw [if_neg (show ¬ (2 : Int) = 0 by decide), if_neg (show ¬ (2 : Int) = 1 by decide), if_pos (show (2 : Int) = 2 from rfl)]
  refine EvC.a ?_ (by simp only [go_sem, kindTab, kindN, n0, n1, n2, n3, n4, Nat.reduceMul] <;> rfl)
  refine EvC.z 36 ?_
  refine EvC.seq ?_
  apply EvC.s1
  ·apply Tr.run
   ·simp only [go_sem, FA.cells, Mach.cells, List.length_map] <;> rfl
   ·simp
   apply Tr.cons
   ·exact .skipv (.sc (.bool false)) rfl rfl (by simp only [go_sem] <;> rfl) (by simp only [go_sem] <;> rfl)
   apply Tr.run
   ·simp only [go_sem, FA.cells, Mach.cells, List.length_map] <;> rfl
   ·simp
   apply Tr.cons
   ·exact .skipv (.sc (.bool false)) rfl rfl (by simp only [go_sem] <;> rfl) (by simp only [go_sem] <;> rfl)
   apply Tr.run
   ·simp only [go_sem, FA.cells, Mach.cells, List.length_map] <;> rfl
   ·simp
   apply Tr.cons
   ·exact .skipv (.sc (.bool false)) rfl rfl (by simp only [go_sem] <;> rfl) (by simp only [go_sem] <;> rfl)
   apply Tr.done
   ·simp only [go_sem] <;> rfl
   ·simp
  refine EvC.cs ?_
  refine EvC.seq ?_
  refine EvC.d mixed ?_ (h := by simp only [go_sem, h3, h4, rowC, edgeC, n0, List.length_map] <;> rfl) (hok := by simp; try omega)
  refine EvC.cs ?_
  refine EvC.seq ?_
  refine EvC.g ?_ (h := by simp only [go_sem, List.length_map] <;> rfl)
  refine EvC.cs ?_
  refine EvC.a ?_
  refine EvC.rz ?_
  simp only [go_sem]
  simp
 ·
  obtain rfl := hat (by decide)
  have h4 : r3.2[0]? = some (r3.2[0]'(by omega)) := List.getElem?_eq_getElem (by omega)
  generalize r3.2[0]'(by omega) = e4 at h4
  rw [if_neg (show ¬ (3 : Int) = 0 by decide), if_neg (show ¬ (3 : Int) = 1 by decide), if_neg (show ¬ (3 : Int) = 2 by decide), if_pos (show (3 : Int) = 3 from rfl)]
  refine EvC.a ?_ (by simp only [go_sem, kindTab, kindN, n0, n1, n2, n3, n4, Nat.reduceMul] <;> rfl)
  refine EvC.z 36 ?_
  refine EvC.seq ?_
  cases hq : inN t m.rows.length with
  | false =>
    rw [hq] at qt
    apply EvC.s1
    ·apply Tr.run
     ·simp only [go_sem, FA.cells, Mach.cells, List.length_map] <;> rfl
     ·simp
     apply Tr.cons
     ·exact .cg (qt)
     apply Tr.run
     ·simp only [go_sem, FA.cells, Mach.cells, List.length_map] <;> rfl
     ·simp
     apply Tr.cons
     ·exact .skipv (.sc (.bool false)) rfl rfl (by simp only [go_sem] <;> rfl) (by simp only [go_sem] <;> rfl)
     apply Tr.run
     ·simp only [go_sem, FA.cells, Mach.cells, List.length_map] <;> rfl
     ·simp
     apply Tr.cons
     ·exact .skipv (.sc (.bool false)) rfl rfl (by simp only [go_sem] <;> rfl) (by simp only [go_sem] <;> rfl)
     apply Tr.done
     ·simp only [go_sem] <;> rfl
     ·simp
    refine EvC.ct ?_
    refine EvC.a ?_
    refine EvC.rz ?_
    simp only [go_sem]
  | true =>
  rw [hq] at qt
  apply EvC.s1
  ·apply Tr.run
   ·simp only [go_sem, FA.cells, Mach.cells, List.length_map] <;> rfl
   ·simp
   apply Tr.cons
   ·exact .cg (qt)
   apply Tr.run
   ·simp only [go_sem, FA.cells, Mach.cells, List.length_map] <;> rfl
   ·simp
   apply Tr.cons
   ·exact .skipv (.sc (.bool false)) rfl rfl (by simp only [go_sem] <;> rfl) (by simp only [go_sem] <;> rfl)
   apply Tr.run
   ·simp only [go_sem, FA.cells, Mach.cells, List.length_map] <;> rfl
   ·simp
   apply Tr.cons
   ·exact .skipv (.sc (.bool false)) rfl rfl (by simp only [go_sem] <;> rfl) (by simp only [go_sem] <;> rfl)
   apply Tr.done
   ·simp only [go_sem] <;> rfl
   ·simp
  refine EvC.cs ?_
  refine EvC.seq ?_
  refine EvC.d mixed ?_ (h := by simp only [go_sem, h3, h4, rowC, edgeC, n0, List.length_map] <;> rfl) (hok := by simp; try omega)
  refine EvC.cs ?_
  refine EvC.seq ?_
  by_cases h64 : m.rows.length = 64
  ·have d : decide ((m.rows.length : Int) = 64) = true := decide_eq_true (by omega)
   refine EvC.g ?_ (h := by simp only [go_sem, List.length_map, d] <;> rfl)
   refine EvC.ct ?_
   refine EvC.a ?_
   refine EvC.rz ?_
   simp only [go_sem]
   simp [h64]
  ·have d : decide ((m.rows.length : Int) = 64) = false := decide_eq_false (by omega)
   refine EvC.g ?_ (h := by simp only [go_sem, List.length_map, d] <;> rfl)
   refine EvC.cs ?_
   refine EvC.a ?_
   refine EvC.rz ?_
   simp only [go_sem]
   simp [h64]
 ·
  rw [if_neg (show ¬ (4 : Int) = 0 by decide), if_neg (show ¬ (4 : Int) = 1 by decide), if_neg (show ¬ (4 : Int) = 2 by decide), if_neg (show ¬ (4 : Int) = 3 by decide)]
  have qd2 := defined84_is hv e.1 a
  rw [hsm]
  refine EvC.a ?_ (by simp only [go_sem, kindTab, kindN, n0, n1, n2, n3, n4, Nat.reduceMul] <;> rfl)
  refine EvC.z 36 ?_
  refine EvC.seq ?_
  cases hq : inN o m.outs with
  | false =>
    rw [hq] at qo
    apply EvC.s1
    ·apply Tr.run
     ·simp only [go_sem, FA.cells, Mach.cells, List.length_map] <;> rfl
     ·simp
     apply Tr.cons
     ·exact .skipv (.sc (.bool false)) rfl rfl (by simp only [go_sem] <;> rfl) (by simp only [go_sem] <;> rfl)
     apply Tr.run
     ·simp only [go_sem, FA.cells, Mach.cells, List.length_map] <;> rfl
     ·simp
     apply Tr.cons
     ·exact .cg (qo)
     apply Tr.run
     ·simp only [go_sem, FA.cells, Mach.cells, List.length_map] <;> rfl
     ·simp
     apply Tr.cons
     ·exact .skipv (.sc (.bool false)) rfl rfl (by simp only [go_sem] <;> rfl) (by simp only [go_sem] <;> rfl)
     apply Tr.done
     ·simp only [go_sem] <;> rfl
     ·simp
    refine EvC.ct ?_
    refine EvC.a ?_
    refine EvC.rz ?_
    simp only [go_sem]
  | true =>
  rw [hq] at qo
  cases hq2 : definedB m e.1 a with
  | false =>
    rw [hq2] at qd2
    apply EvC.s1
    ·apply Tr.run
     ·simp only [go_sem, FA.cells, Mach.cells, List.length_map] <;> rfl
     ·simp
     apply Tr.cons
     ·exact .skipv (.sc (.bool false)) rfl rfl (by simp only [go_sem] <;> rfl) (by simp only [go_sem] <;> rfl)
     apply Tr.run
     ·simp only [go_sem, FA.cells, Mach.cells, List.length_map] <;> rfl
     ·simp
     apply Tr.cons
     ·exact .cg (qo)
     apply Tr.run
     ·simp only [go_sem, FA.cells, Mach.cells, List.length_map] <;> rfl
     ·simp
     apply Tr.cons
     ·exact .cg (qd2)
     apply Tr.done
     ·simp only [go_sem] <;> rfl
     ·simp
    refine EvC.ct ?_
    refine EvC.a ?_
    refine EvC.rz ?_
    simp only [go_sem]
  | true =>
  rw [hq2] at qd2
  obtain ⟨r4, k1, k2, _⟩ := step_in hv hq2
  have hr34 : r4 = r3 := by rw [h3] at k1; exact (Option.some.inj k1).symm
  subst hr34
  rw [hsm] at k2
  generalize (r4.2[a.toNat]?).getD (-1, -1) = e4 at k2
  obtain ⟨_, b3, _⟩ := definedB_iff.1 hq2
  apply EvC.s1
  ·apply Tr.run
   ·simp only [go_sem, FA.cells, Mach.cells, List.length_map] <;> rfl
   ·simp
   apply Tr.cons
   ·exact .skipv (.sc (.bool false)) rfl rfl (by simp only [go_sem] <;> rfl) (by simp only [go_sem] <;> rfl)
   apply Tr.run
   ·simp only [go_sem, FA.cells, Mach.cells, List.length_map] <;> rfl
   ·simp
   apply Tr.cons
   ·exact .cg (qo)
   apply Tr.run
   ·simp only [go_sem, FA.cells, Mach.cells, List.length_map] <;> rfl
   ·simp
   apply Tr.cons
   ·exact .cg (qd2)
   apply Tr.done
   ·simp only [go_sem] <;> rfl
   ·simp
  refine EvC.cs ?_
  refine EvC.seq ?_
  refine EvC.d mixed ?_ (h := by simp only [go_sem, h3, k2, rowC, edgeC, n0, List.length_map] <;> rfl) (hok := by simp; try omega)
  refine EvC.cond (by simp only [go_sem] <;> rfl) (fun hc => ?_) (fun hc => ?_)
  ·have hc' : o = e4.2 := by simpa using hc
   refine EvC.a ?_
   refine EvC.rz ?_
   simp only [go_sem]
   simp [hc']
  have hc' : ¬ o = e4.2 := by simpa using hc
  refine EvC.skip ?_
  refine EvC.seq ?_
  by_cases h64 : m.rows.length = 64
  ·have d : decide ((m.rows.length : Int) = 64) = true := decide_eq_true (by omega)
   refine EvC.g ?_ (h := by simp only [go_sem, List.length_map, d] <;> rfl)
   refine EvC.ct ?_
   refine EvC.a ?_
   refine EvC.rz ?_
   simp only [go_sem]
   simp [h64, hc']
  ·have d : decide ((m.rows.length : Int) = 64) = false := decide_eq_false (by omega)
   refine EvC.g ?_ (h := by simp only [go_sem, List.length_map, d] <;> rfl)
   refine EvC.cs ?_
   refine EvC.a ?_
   refine EvC.rz ?_
   simp only [go_sem]
   simp [h64, hc']
theorem clone80_is (es : List (Int × Int)) (c : Cp) (hl : es.length < 1000000) : PureIs prog 65 [.sl false (es.map edgeC) c] (.sl false (es.map edgeC) .unk) := by
 refine PureIs.of1 1 [2, 4] func65 ntmps65 results65 fun _ => ?_
 refine EvC.a ?_
 refine EvC.seq ?_
 refine EvC.a ?_
 refine EvC.cs ?_
 have hr1 : room es.length 16 = true := by simp only [room_eq, decide_eq_true_eq]; omega
 have hr3 : ∀ a b : Int, (a, b) ∈ es → (edgeC (a, b)).length = 2 := fun _ _ _ => rfl
 refine EvC.a ?_ (by simp only [go_sem, List.length_map] <;> rfl) (by simp [hr1]; try exact hr3)
 refine EvC.frz 5 (by simp only [go_sem, List.length_map] <;> rfl) ?_
 refine EvC.ret ⟨.inl rfl, _, (by simp only [go_sem, List.length_map] <;> rfl), ?_, by simp [AV.noref, norefs_edges]⟩
 simp only [go_sem, List.length_map]
theorem clone80_new (es : List (Int × Int)) (c : Cp) (hl : es.length < 1000000) (h0 : es.length ≠ 0) : PureNew prog 65 [.sl false (es.map edgeC) c] 2 (es.map edgeC) := by
 refine PureNew.of (nv := 1) (hid := [2, 4]) func65 rfl (by kernel_rfl) (by simp [ntmps65]) fun _ => ?_
 rw [ntmps65, results65]
 refine EvC.a ?_
 refine EvC.seq ?_
 refine EvC.a ?_
 refine EvC.cs ?_
 have hr1 : room es.length 16 = true := by simp only [room_eq, decide_eq_true_eq]; omega
 have hr3 : ∀ a b : Int, (a, b) ∈ es → (edgeC (a, b)).length = 2 := fun _ _ _ => rfl
 refine EvC.a ?_ (by simp only [go_sem, List.length_map] <;> rfl) (by simp [hr1]; try exact hr3)
 refine EvC.ret ⟨.inl rfl, _, 5, (by simp only [go_sem, List.length_map] <;> rfl), .inl ?_, ?_, by simpa using h0, norefs_edges es⟩
 ·simp only [List.length_map]
 ·rfl
theorem clip79_is (es : List (Int × Int)) (c : Cp) : PureIs prog 64 [.sl false (es.map edgeC) c] (.sl false (es.map edgeC) .unk) := by
 have hr3 : ∀ a b : Int, (a, b) ∈ es → (edgeC (a, b)).length = 2 := fun _ _ _ => rfl
 have key : PureIs prog 64 [.sl false (es.map edgeC) c] (.sl false (es.map edgeC) .full) := by
  refine PureIs.of1 1 [2] func64 ntmps64 results64 fun _ => ?_
  refine EvC.a ?_
  refine EvC.a ?_ (by simp only [go_sem, List.length_map, Int.toNat_natCast, List.drop_zero] <;> rfl) (by simp; try exact hr3)
  refine EvC.ret ⟨.inl rfl, _, (by simp only [go_sem] <;> rfl), ?_, by simp [AV.noref, norefs_edges]⟩
  simp only [go_sem]
  rw [List.take_of_length_le (by simp)]
 have h := key.weakR
 rwa [show (AV.sl false (es.map edgeC) Cp.full).unk = .sl false (es.map edgeC) .unk from by
  simp only [AV.unk]; congr 1; exact unkss_map edgeC (fun x => rfl) es] at h
theorem clip79_clips : Clips prog 64 := fun a n c h hlt => by
 refine PureIs.of1 1 [2] func64 ntmps64 results64 fun _ => ?_
 refine EvC.a ?_
 refine EvC.a ?_ (by simp only [go_sem, Int.toNat_natCast] <;> rfl) (by simp; try omega)
 refine EvC.rz ?_
 simp only [go_sem]
def rowAt (m : Mach) (s : Int) : List (Int × Int) := ((m.rows[s.toNat]?).map (·.2)).getD []
def copyR (m : Mach) : List Row := m.rows.map fun r => (false, r.2)
def putR (m : Mach) (s i : Int) (e : Int × Int) : List Row := (copyR m).set s.toNat (false, (rowAt m s).set i.toNat e)
def mutRows (m : Mach) (f : FA) : List Row :=
 if f.kind = 0 then putR m f.state f.input ((stepM m f.state f.input).1, f.out)
 else if f.kind = 1 then putR m f.state f.input (f.to, (stepM m f.state f.input).2)
 else if f.kind = 2 then putR m f.state f.input (-1, -1)
 else if f.kind = 3 then putR m f.state f.input ((m.rows.length : Int), (stepM m f.state f.input).2) ++ [(false, rowAt m f.to)]
 else putR m f.state f.input ((m.rows.length : Int), (stepM m f.state f.input).2) ++ [(false, (rowAt m (stepM m f.state f.input).1).set f.at'.toNat ((stepM m (stepM m f.state f.input).1 f.at').1, f.out))]
def mutF (m : Mach) (f : FA) : Mach := ⟨m.ins, m.outs, false, mutRows m f⟩
def putRaw (m : Mach) (s i : Int) (e : Int × Int) : List (List AV) := ((copyR m).map rowC).set s.toNat [.sl false (((rowAt m s).set i.toNat e).map edgeC) .full]
def rawRows (m : Mach) (f : FA) : List (List AV) :=
 if f.kind = 0 then putRaw m f.state f.input ((stepM m f.state f.input).1, f.out)
 else if f.kind = 1 then putRaw m f.state f.input (f.to, (stepM m f.state f.input).2)
 else if f.kind = 2 then putRaw m f.state f.input (-1, -1)
 else if f.kind = 3 then putRaw m f.state f.input ((m.rows.length : Int), (stepM m f.state f.input).2) ++ [[.sl false ((rowAt m f.to).map edgeC) .unk]]
 else putRaw m f.state f.input ((m.rows.length : Int), (stepM m f.state f.input).2) ++ [[.sl false (((rowAt m (stepM m f.state f.input).1).set f.at'.toNat ((stepM m (stepM m f.state f.input).1 f.at').1, f.out)).map edgeC) .full]]
theorem unk_edges (b : Bool) (es : List (Int × Int)) (c : Cp) : AV.unks [.sl b (es.map edgeC) c] = rowC (b, es) := by
 have h : AV.unkss (es.map edgeC) = es.map edgeC := unkss_map edgeC (fun x => rfl) es
 simp only [AV.unks, AV.unk, h]; rfl
theorem unkss_rows (l : List Row) : AV.unkss (l.map rowC) = l.map rowC := unkss_map rowC (fun x => unk_edges x.1 x.2 .unk) l
theorem putRaw_unk (m : Mach) (s i : Int) (e : Int × Int) : AV.unkss (putRaw m s i e) = (putR m s i e).map rowC := by
 unfold putRaw putR
 rw [unkss_eq, List.map_set, unk_edges, ← unkss_eq, unkss_rows, List.map_set]
theorem rawRows_unk (m : Mach) (f : FA) : AV.unkss (rawRows m f) = (mutRows m f).map rowC := by
 have app : ∀ (A B : List (List AV)), AV.unkss (A ++ B) = AV.unkss A ++ AV.unkss B := fun A B => by simp [unkss_eq]
 unfold rawRows mutRows
 split
 ·exact putRaw_unk _ _ _ _
 split
 ·exact putRaw_unk _ _ _ _
 split
 ·exact putRaw_unk _ _ _ _
 split
 ·rw [app, putRaw_unk, List.map_append]
  congr 1
  simp only [AV.unkss, unk_edges]; rfl
 ·rw [app, putRaw_unk, List.map_append]
  congr 1
  simp only [AV.unkss, unk_edges]; rfl
def applyRaw (m : Mach) (f : FA) : AV :=
 if checkF m f = 0 then .tu [.ag [.sc (.int .i64 m.ins), .sc (.int .i64 m.outs), .sl false (rawRows m f) .full], .sc (.int .i64 0)] else .tu [.ag [.sc (.int .i64 0), .sc (.int .i64 0), .sl true [] .zer], .sc (.int .i64 (checkF m f))]
def applyR (m : Mach) (f : FA) : AV :=
 if checkF m f = 0 then .tu [.ag (mutF m f).cells, .sc (.int .i64 0)] else .tu [.ag [.sc (.int .i64 0), .sc (.int .i64 0), .sl true [] .unk], .sc (.int .i64 (checkF m f))]
theorem applyRaw_unk (m : Mach) (f : FA) : (applyRaw m f).unk = applyR m f := by
 unfold applyRaw applyR
 split
 ·simp only [AV.unk, AV.unks, rawRows_unk]; rfl
 ·simp only [AV.unk, AV.unks, AV.unkss]
def NoNil (m : Mach) : Prop := ∀ r ∈ m.rows, r.1 = true → r.2 = []
theorem NoNil.row {m : Mach} (hv : Valid m) (h : NoNil m) {r : Row} (hr : r ∈ m.rows) : r = (false, r.2) := by
 obtain ⟨b, l⟩ := r
 cases b with
 | false => rfl
 | true =>
   have h1 := h _ hr rfl
   have h2 := (hv.row _ hr).1
   have h3 := hv.ins
   simp only at h1 h2
   rw [h1] at h2
   simp at h2
   omega
def rowsK (m : Mach) (k S : Nat) (v : AV) : List (List AV) := (((m.rows.take k).map fun r => (false, r.2)).map rowC).set S [v]
theorem rowsK_len {m : Mach} {k S : Nat} {v : AV} (h : k ≤ m.rows.length) : (rowsK m k S v).length = k := by simp [rowsK]; omega
theorem rowsK_other {m : Mach} {k S : Nat} {v : AV} {r : Row} (h : m.rows[k]? = some r) (hk : k ≠ S) : rowsK m k S v ++ [rowC (false, r.2)] = rowsK m (k + 1) S v := by
 obtain ⟨hi, he⟩ := List.getElem?_eq_some_iff.1 h
 have hl : (((m.rows.take k).map fun r => ((false, r.2) : Row)).map rowC).length = k := by simp; omega
 unfold rowsK
 rw [List.take_succ_eq_append_getElem hi, he, List.map_append, List.map_append]
 generalize ((m.rows.take k).map fun r => ((false, r.2) : Row)).map rowC = A at hl
 by_cases hS : S < k
 ·rw [List.set_append_left _ _ (by omega)]; rfl
 ·rw [List.set_append_right _ _ (by omega), List.set_eq_of_length_le (by omega : A.length ≤ S), List.set_eq_of_length_le (by simp; omega)]; rfl
theorem rowsK_self {m : Mach} {S : Nat} {v w : AV} {r : Row} (h : m.rows[S]? = some r) : rowsK m S S w ++ [[v]] = rowsK m (S + 1) S v := by
 obtain ⟨hi, he⟩ := List.getElem?_eq_some_iff.1 h
 have hl : (((m.rows.take S).map fun r => ((false, r.2) : Row)).map rowC).length = S := by simp; omega
 unfold rowsK
 rw [List.take_succ_eq_append_getElem hi, he, List.map_append, List.map_append]
 generalize ((m.rows.take S).map fun r => ((false, r.2) : Row)).map rowC = A at hl
 rw [List.set_append_right _ _ (by omega), List.set_eq_of_length_le (by omega : A.length ≤ S), hl, Nat.sub_self]
 rfl
theorem rowC_norefs (r : Row) : AV.norefs (rowC r) = true := by simp [rowC, AV.norefs, AV.noref, norefs_edges]
theorem rowsK_get {m : Mach} {k S : Nat} {v : AV} (h : S < k) (hk : k ≤ m.rows.length) : (rowsK m k S v)[S]? = some [v] := by
 unfold rowsK
 rw [List.getElem?_set_self (by simp; omega)]
theorem rowsK_norefs {m : Mach} {k S : Nat} {v : AV} (h : S < k) (hk : k ≤ m.rows.length) (hv : v.noref = false) : (rowsK m k S v).all AV.norefs = false := by
 rw [List.all_eq_false]
 exact ⟨[v], List.mem_of_getElem? (rowsK_get h hk), by simp [AV.norefs, hv]⟩
theorem rowC_ren (K : List (Nat × Nat)) (r : Row) : (rowC r).map (AV.ren K) = rowC r := by
 have h : (AV.sl r.1 (r.2.map edgeC) Cp.unk).noref = true := by simp [AV.noref, norefs_edges]
 simp [rowC, AV.ren, h]
theorem rowsK_ren (m : Mach) (k S : Nat) (v : AV) (K : List (Nat × Nat)) : (rowsK m k S v).map (fun c => c.map (AV.ren K)) = rowsK m k S (v.ren K) := by
 unfold rowsK
 rw [List.map_set, List.map_map]
 have e : List.map ((fun c => c.map (AV.ren K)) ∘ rowC) ((m.rows.take k).map fun r => ((false, r.2) : Row)) = List.map rowC ((m.rows.take k).map fun r => ((false, r.2) : Row)) := List.map_congr_left fun r _ => rowC_ren K r
 rw [e]; rfl
theorem clip81r_is (es : List (List AV)) (c : Cp) (h1 : ∀ c ∈ es, c.length = 1) (hn : es.all AV.norefs = true) : PureIs prog 66 [.sl false es c] (.sl false es .full) := by
 refine PureIs.of1 1 [2] func66 ntmps66 results66 fun _ => ?_
 refine EvC.a ?_
 refine EvC.a ?_ (by simp only [go_sem, Int.toNat_natCast, List.drop_zero, List.take_length] <;> rfl) (by simp; exact h1)
 refine EvC.ret ⟨.inl rfl, _, (by simp only [go_sem] <;> rfl), ?_, by simp [AV.noref, hn]⟩
 simp only [go_sem]
set_option maxHeartbeats 8000000 in
theorem apply71_is {m : Mach} (hv : Valid m) (hc0 : checkM m = 0) (hnn : NoNil m) (f : FA) : PureIs prog 36 [.ag m.cells, .ag f.cells] (applyR m f) := by
 rw [← applyRaw_unk]
 refine PureIs.weakR ?_
 have q0 := check78_is hv hc0 f
 have hkf : checkF m f = 0 → faultB m f = true := fun h => by
  unfold checkF at h
  split at h
  ·assumption
  ·cases h
 unfold applyRaw
 obtain ⟨kd, s, i, t, a, o⟩ := f
 refine PureIs.of1 8 [9, 10, 11, 12, 17, 23, 24, 25, 26, 34, 48, 53, 67, 87, 94, 101] func36 ntmps36 results36 fun _ => ?_
 refine EvC.a ?_ (by simp only [go_sem, Mach.cells, FA.cells] <;> rfl)
 refine EvC.z 0 ?_
 refine EvC.z 1 ?_
 refine EvC.seq ?_
 refine EvC.k1 ?_ (h1 := by simp only [go_sem, Mach.cells, FA.cells] <;> rfl) (c1 := .ca q0)
 refine EvC.a ?_
 refine EvC.cond (by simp only [go_sem] <;> rfl) (fun hc => ?_) (fun hc => ?_)
 ·
  have hc' : ¬ checkF m ⟨kd, s, i, t, a, o⟩ = 0 := by simpa using hc
  refine EvC.a ?_
  rw [if_neg hc']
  refine EvC.rz ?_
  simp only [go_sem]
 have hc' : checkF m ⟨kd, s, i, t, a, o⟩ = 0 := by simpa using hc
 rw [if_pos hc']
 have hfb := hkf hc'
 clear hc hkf
 unfold faultB at hfb
 simp only [Bool.and_eq_true] at hfb
 obtain ⟨hp, hd, hkb⟩ := hfb
 obtain ⟨r, h1, h2, he⟩ := step_in hv hd
 obtain ⟨b1, b2, _⟩ := definedB_iff.1 hd
 have hkd := plainB_kind hp
 simp only at hkd
 obtain ⟨S, hS⟩ : ∃ S : Nat, S = s.toNat := ⟨_, rfl⟩
 have hSl : S < m.rows.length := by omega
 rw [← hS] at h1
 have hn1 := hv.rows
 have hro := hnn.row hv (List.mem_of_getElem? h1)
 have hrl := (hv.row _ (List.mem_of_getElem? h1)).1
 have hi1 := hv.ins
 refine EvC.skip ?_
 refine EvC.a ?_
 refine EvC.a ?_
 refine EvC.ownC 11 2 1 (by simp only [go_sem] <;> rfl) ?_
 refine EvC.thaw 15 (by simp only [go_sem] <;> rfl) ?_
 refine EvC.seq ?_
 refine EvC.a ?_ (by simp only [go_sem, List.length_map] <;> rfl)
 refine EvC.block ?_
 obtain ⟨n, hn⟩ : ∃ n, n = r.2.length := ⟨_, rfl⟩
 have hn0 : n ≠ 0 := by omega
 obtain ⟨memK, hmK⟩ : ∃ memK : Nat → Mem, memK = fun k => (0, RObj.cells [.sc (.int .i64 0), .sc (.int .i64 0), .sl true [] .zer]) :: (1, .cells [.sc (.int .i64 m.ins), .sc (.int .i64 m.outs), .tl 2 k (decide (k = 0))]) :: (2, .arr 1 (rowsK m k S (.tv 3 n 0 n (.val n))) false) :: (if S < k then [(3, .arr 2 (r.2.map edgeC) false)] else []) := ⟨_, rfl⟩
 have hlo : ∀ k, k ≤ S → memK k = [(0, RObj.cells [.sc (.int .i64 0), .sc (.int .i64 0), .sl true [] .zer]), (1, .cells [.sc (.int .i64 m.ins), .sc (.int .i64 m.outs), .tl 2 k (decide (k = 0))]), (2, .arr 1 (((m.rows.take k).map fun r => ((false, r.2) : Row)).map rowC) false)] := fun k hk => by
  rw [hmK]
  simp only
  rw [if_neg (by omega), rowsK, List.set_eq_of_length_le (by simp; omega)]
 have hhi : ∀ k, S < k → memK k = [(0, RObj.cells [.sc (.int .i64 0), .sc (.int .i64 0), .sl true [] .zer]), (1, .cells [.sc (.int .i64 m.ins), .sc (.int .i64 m.outs), .tl 2 k (decide (k = 0))]), (2, .arr 1 (rowsK m k S (.tv 3 n 0 n (.val n))) false), (3, .arr 2 (r.2.map edgeC) false)] := fun k hk => by
  rw [hmK]
  simp only
  rw [if_pos hk]
 refine EvC.loopS (σ := Nat) (fun k => ⟨[(2, .ia [.sc (.int .i64 m.ins), .sc (.int .i64 m.outs), .sl m.nl (m.rows.map rowC) .unk]), (3, .ia [.sc (.int .i64 kd), .sc (.int .i64 s), .sc (.int .i64 i), .sc (.int .i64 t), .sc (.int .i64 a), .sc (.int .i64 o)]), (4, .rf 0 0), (7, .rf 1 0), (23, .sl m.nl (m.rows.map rowC) .unk), (24, .sc (.int .i64 m.rows.length)), (25, .sc (.int .i64 k))], [], memK k, 4⟩) (fun k => m.rows.length - k) (fun k => k ≤ m.rows.length) [2, 3, 4, 7, 23, 24, 25] 4 ?_ ?_
 ·exact ⟨[(2, 0), (11, 1), (15, 2)], 0, rfl, (by rw [hlo 0 (by omega)]; simp only [go_sem, Int.natCast_zero, List.take_zero, List.map_nil] <;> rfl), Nat.zero_le _⟩
 intro k hk1
 by_cases hkl : k < m.rows.length
 rotate_left
 ·
  obtain rfl : k = m.rows.length := by omega
  rw [hhi m.rows.length hSl]
  have dk : decide ((m.rows.length : Int) < m.rows.length) = false := decide_eq_false (by omega)
  refine EvC.a ?_
  refine EvC.seq ?_
  refine EvC.cf ?_ (by simp only [go_sem, dk] <;> rfl)
  refine EvC.exit ?_
  have hNd : decide (m.rows.length = 0) = false := decide_eq_false (by omega)
  have hg := rowsK_get (v := .tv 3 n 0 n (.val n)) hSl (Nat.le_refl m.rows.length)
  have hRl := rowsK_len (S := S) (v := .tv 3 n 0 n (.val n)) (Nat.le_refl m.rows.length)
  have hel : (r.2.map edgeC).length = n := by rw [List.length_map]; exact hn.symm
  have hin : i.toNat < n := by omega
  refine EvC.d mixed ?_ (h := by simp only [go_sem, hg, hRl, hel, ← hS, hNd] <;> rfl) (hok := by simp; try omega)
  have hrowAt : rowAt m s = r.2 := by unfold rowAt; rw [← hS, h1]; rfl
  refine EvC.mergeC (α := List (Int × Int) × List (List AV)) (fun p => ⟨[(4, .rf 0 0), (7, .rf 1 0)], [], [(0, .cells [.sc (.int .i64 0), .sc (.int .i64 0), .sl true [] .zer]), (1, .cells [.sc (.int .i64 m.ins), .sc (.int .i64 m.outs), .tl 2 (m.rows.length + p.2.length) false]), (2, .arr 1 (rowsK m m.rows.length S (.tv 3 n 0 n (.val n)) ++ p.2) false), (3, .arr 2 (p.1.map edgeC) false)], 4⟩)
   (fun p => p.1.length = n ∧ p.2.all AV.norefs = true ∧ (∀ c ∈ p.2, c.length = 1) ∧ rowsK m m.rows.length S (.sl false (p.1.map edgeC) .full) ++ p.2 = rawRows m ⟨kd, s, i, t, a, o⟩) ?_ ?_
  rotate_left
  ·
   rintro ⟨es, ex⟩ ⟨hes, hex1, hex2, hraw⟩
   simp only at hes hex1 hex2 hraw ⊢
   have hel2 : (es.map edgeC).length = n := by rw [List.length_map]; exact hes
   have hRe : (rowsK m m.rows.length S (.tv 3 n 0 n (.val n)) ++ ex).length = m.rows.length + ex.length := by rw [List.length_append, hRl]
   have hge : (rowsK m m.rows.length S (.tv 3 n 0 n (.val n)) ++ ex)[S]? = some [.tv 3 n 0 n (.val n)] := by rw [List.getElem?_append_left (by rw [hRl]; exact hSl)]; exact hg
   have hse : (rowsK m m.rows.length S (.tv 3 n 0 n (.val n)) ++ ex).set S [.sl false (es.map edgeC) .full] = rawRows m ⟨kd, s, i, t, a, o⟩ := by
    rw [← hraw, List.set_append_left _ _ (by rw [hRl]; exact hSl)]
    unfold rowsK
    rw [List.set_set]
   generalize rowsK m m.rows.length S (.tv 3 n 0 n (.val n)) ++ ex = RW at hRe hge hse
   have hraw1 : (rawRows m ⟨kd, s, i, t, a, o⟩).all AV.norefs = true := by
    rw [← hraw, List.all_append, hex1, Bool.and_true, List.all_eq_true]
    intro c hc
    rcases List.mem_or_eq_of_mem_set hc with h | rfl
    ·obtain ⟨r, _, rfl⟩ := List.mem_map.1 h
     exact rowC_norefs r
    ·simp [AV.norefs, AV.noref, norefs_edges]
   have hraw2 : ∀ c ∈ rawRows m ⟨kd, s, i, t, a, o⟩, c.length = 1 := by
    rw [← hraw]
    intro c hc
    rcases List.mem_append.1 hc with h | h
    ·rcases List.mem_or_eq_of_mem_set h with h | rfl
     ·obtain ⟨r, _, rfl⟩ := List.mem_map.1 h
      rfl
     ·rfl
    ·exact hex2 c h
   have hraw3 : (rawRows m ⟨kd, s, i, t, a, o⟩).length = m.rows.length + ex.length := by
    rw [← hraw, List.length_append, rowsK_len (Nat.le_refl _)]
   have qc := clip81r_is (rawRows m ⟨kd, s, i, t, a, o⟩) .unk hraw2 hraw1
   clear hraw
   generalize rawRows m ⟨kd, s, i, t, a, o⟩ = RR at *
   refine EvC.frz 3 (by simp only [go_sem, hel2] <;> rfl) ?_
   refine EvC.snapE 2 S (by simp only [go_sem, hge, hel2, hse] <;> rfl) ?_
   refine EvC.frzD 2 (by simp only [go_sem, hraw1, hraw3] <;> rfl) ?_
   apply EvC.s1
   ·apply Tr.run
    ·simp only [go_sem] <;> rfl
    ·simp
    apply Tr.cons
    ·exact .call rfl rfl (by simp only [go_sem] <;> rfl) (by simp only [go_sem] <;> rfl) (by simp only [go_sem, hraw1] <;> rfl) (by simp only [go_sem] <;> rfl) (by simp only [go_sem] <;> rfl) (qc)
    apply Tr.done
    ·simp only [go_sem] <;> rfl
    ·simp
   refine EvC.a ?_
   refine EvC.ret ⟨.inl rfl, _, (by simp only [go_sem] <;> rfl), ?_, by simp [AV.noref, AV.norefs, hraw1]⟩
   simp only [go_sem]
  ·
   have hfin : ∀ (es : List (Int × Int)) (ex : List (List AV)), es.length = n → rowsK m m.rows.length S (.sl false (es.map edgeC) .full) = ((copyR m).map rowC).set s.toNat [.sl false (es.map edgeC) .full] := fun es ex _ => by
    unfold rowsK copyR
    rw [List.take_length, ← hS]
   have hge : (r.2.map edgeC)[i.toNat]? = some (edgeC (stepM m s i)) := by rw [List.getElem?_map, h2]; rfl
   have hsetE : ∀ x y : Int, (r.2.map edgeC).set i.toNat [.sc (.int .i64 x), .sc (.int .i64 y)] = (r.2.set i.toNat (x, y)).map edgeC := fun x y => by rw [List.map_set]; rfl
   have hset2 : ∀ x : Int × Int, (r.2.set i.toNat x).length = n := fun x => by rw [List.length_set]; exact hn.symm
   have hnr : (rowsK m m.rows.length S (.tv 3 n 0 n (.val n))).all AV.norefs = false := rowsK_norefs hSl (Nat.le_refl _) rfl
   have hrn := rowsK_ren m m.rows.length S (.tv 3 n 0 n (.val n)) [(0, 0), (1, 1), (2, 2), (3, 3)]
   refine EvC.a ?_
   refine EvC.block ?_
   have hraw : ∀ e' : Int × Int, rowsK m m.rows.length S (.sl false ((r.2.set i.toNat e').map edgeC) .full) = putRaw m s i e' := fun e' => by
    unfold putRaw
    rw [hfin _ [] (hset2 e'), hrowAt]
   generalize hE : stepM m s i = e at *
   rcases hkd with rfl | rfl | rfl | rfl | rfl
   ·
    refine EvC.a ?_
    refine EvC.ct ?_
    refine EvC.b ?_ (by simp only [go_sem, hge, edgeC, hel, hsetE] <;> rfl) (by simp [edgeC])
    refine ⟨rfl, (r.2.set i.toNat (e.1, o), []), ⟨hset2 _, rfl, (fun _ h => by cases h), ?_⟩, fun c Q h => ?_⟩
    ·rw [List.append_nil, hraw, rawRows, if_pos rfl, hE]
    refine EvC.gcE [4, 7] [(0, 0), (1, 1), (2, 2), (3, 3)] 4 rfl (by simp only [go_sem, hnr, hrn, Bool.and_false, List.append_nil, List.length_nil] <;> rfl) h
   ·
    refine EvC.a ?_
    refine EvC.cf ?_
    refine EvC.a ?_
    refine EvC.ct ?_
    refine EvC.b ?_ (by simp only [go_sem, hge, edgeC, hel, hsetE] <;> rfl) (by simp [edgeC])
    refine ⟨rfl, (r.2.set i.toNat (t, e.2), []), ⟨hset2 _, rfl, (fun _ h => by cases h), ?_⟩, fun c Q h => ?_⟩
    ·rw [List.append_nil, hraw, rawRows, if_neg (show ¬ (1 : Int) = 0 by decide), if_pos (show (1 : Int) = 1 from rfl), hE]
    refine EvC.gcE [4, 7] [(0, 0), (1, 1), (2, 2), (3, 3)] 4 rfl (by simp only [go_sem, hnr, hrn, Bool.and_false, List.append_nil, List.length_nil] <;> rfl) h
   ·
    refine EvC.a ?_
    refine EvC.cf ?_
    refine EvC.a ?_
    refine EvC.cf ?_
    refine EvC.a ?_
    refine EvC.ct ?_
    refine EvC.b ?_ (by simp only [go_sem, hge, edgeC, hel, hsetE] <;> rfl) (by simp [edgeC])
    refine ⟨rfl, (r.2.set i.toNat (-1, -1), []), ⟨hset2 _, rfl, (fun _ h => by cases h), ?_⟩, fun c Q h => ?_⟩
    ·rw [List.append_nil, hraw, rawRows, if_neg (show ¬ (2 : Int) = 0 by decide), if_neg (show ¬ (2 : Int) = 1 by decide), if_pos (show (2 : Int) = 2 from rfl)]
    refine EvC.gcE [4, 7] [(0, 0), (1, 1), (2, 2), (3, 3)] 4 rfl (by simp only [go_sem, hnr, hrn, Bool.and_false, List.append_nil, List.length_nil] <;> rfl) h
   ·
    have htn : 0 ≤ t ∧ t < m.rows.length := by
     unfold kindB at hkb
     rw [if_neg (show ¬ (3 : Int) = 0 by decide), if_neg (show ¬ (3 : Int) = 1 by decide), if_neg (show ¬ (3 : Int) = 2 by decide), if_pos (show (3 : Int) = 3 from rfl)] at hkb
     simpa [inN] using hkb
    have h5 : m.rows[t.toNat]? = some (m.rows[t.toNat]'(by omega)) := List.getElem?_eq_getElem (by omega)
    have h5m := List.getElem_mem (show t.toNat < m.rows.length by omega)
    have h5n := hnn.row hv h5m
    have h5r := (hv.row _ h5m).1
    have hrt : rowAt m t = (m.rows[t.toNat]'(by omega)).2 := by unfold rowAt; rw [h5]; rfl
    generalize m.rows[t.toNat]'(by omega) = r5 at h5 h5n h5r hrt
    obtain ⟨b5, e5⟩ := r5
    simp only [Prod.mk.injEq] at h5n h5r hrt
    obtain ⟨rfl, _⟩ := h5n
    have p1 := clone80_is e5 .unk (by omega)
    have p2 := clip79_is e5 .unk
    have hr8 : room (m.rows.length + 1) 24 = true := by simp only [room_eq, decide_eq_true_eq]; omega
    refine EvC.a ?_
    refine EvC.cf ?_
    refine EvC.a ?_
    refine EvC.cf ?_
    refine EvC.a ?_
    refine EvC.cf ?_
    refine EvC.a ?_
    refine EvC.seq ?_
    refine EvC.a ?_
    refine EvC.cs ?_
    refine EvC.k2 ?_ (h1 := by simp only [go_sem, h5, rowC, List.length_map] <;> rfl) (k1 := by simp; try omega) (c1 := .ca p1) (h2 := by simp only [go_sem, h5, rowC, List.length_map] <;> rfl) (k2 := by simp; try omega) (c2 := .ca p2)
    refine EvC.seq ?_
    refine EvC.a ?_
    refine EvC.cs ?_
    refine EvC.a ?_ (by simp only [go_sem, hge, edgeC, hel, hsetE, List.length_map] <;> rfl) (by simp [edgeC])
    refine EvC.b ?_ (by simp only [go_sem, hRl, hr8] <;> rfl)
    have hex1 : ([[.sl false (e5.map edgeC) .unk]] : List (List AV)).all AV.norefs = true := by simp [AV.norefs, AV.noref, norefs_edges]
    have hex3 : ([[.sl false (e5.map edgeC) .unk]] : List (List AV)).map (fun c => c.map (AV.ren [(0, 0), (1, 1), (2, 2), (3, 3)])) = [[.sl false (e5.map edgeC) .unk]] := by simp [AV.ren, AV.noref, norefs_edges]
    generalize hXX : ([[.sl false (e5.map edgeC) .unk]] : List (List AV)) = XX at hex1 hex3 ⊢
    have hXl : XX.length = 1 := by rw [← hXX]; rfl
    refine ⟨rfl, (r.2.set i.toNat ((m.rows.length : Int), e.2), XX), ⟨hset2 _, hex1, (fun c hc => by subst hXX; simp only [List.mem_singleton] at hc; rw [hc]; rfl), ?_⟩, fun c Q h => ?_⟩
    ·rw [hraw, rawRows, if_neg (show ¬ (3 : Int) = 0 by decide), if_neg (show ¬ (3 : Int) = 1 by decide), if_neg (show ¬ (3 : Int) = 2 by decide), if_pos (show (3 : Int) = 3 from rfl), hE, hrt, hXX]
    rw [hXl] at h
    refine EvC.gcE [4, 7] [(0, 0), (1, 1), (2, 2), (3, 3)] 4 rfl (by simp only [go_sem, hnr, hrn, List.all_append, Bool.false_and, hex1, hex3, List.map_append] <;> rfl) h
   ·
    have hd2 : definedB m e.1 a = true := by
     unfold kindB at hkb
     rw [if_neg (show ¬ (4 : Int) = 0 by decide), if_neg (show ¬ (4 : Int) = 1 by decide), if_neg (show ¬ (4 : Int) = 2 by decide), if_neg (show ¬ (4 : Int) = 3 by decide)] at hkb
     simp only [Bool.and_eq_true] at hkb
     rw [hE] at hkb
     exact hkb.2.1
    obtain ⟨r5, h5, h5i, _⟩ := step_in hv hd2
    obtain ⟨c1, c2, _⟩ := definedB_iff.1 hd2
    have h5m := List.mem_of_getElem? h5
    have h5n := hnn.row hv h5m
    have h5r := (hv.row _ h5m).1
    have hrt : rowAt m e.1 = r5.2 := by unfold rowAt; rw [h5]; rfl
    obtain ⟨b5, e5⟩ := r5
    simp only [Prod.mk.injEq] at h5n h5r hrt h5i
    obtain ⟨rfl, _⟩ := h5n
    obtain ⟨q, hq⟩ : ∃ q, q = e5.length := ⟨_, rfl⟩
    have q1 := clone80_new e5 .unk (by omega) (by omega)
    have hr8 : room (m.rows.length + 1) 24 = true := by simp only [room_eq, decide_eq_true_eq]; omega
    refine EvC.a ?_
    refine EvC.cf ?_
    refine EvC.a ?_
    refine EvC.cf ?_
    refine EvC.a ?_
    refine EvC.cf ?_
    refine EvC.a ?_
    refine EvC.seq ?_
    refine EvC.a ?_
    refine EvC.ct ?_
    refine EvC.b ?_ (by simp only [go_sem, hge, edgeC, hel] <;> rfl)
    refine EvC.seq ?_
    apply EvC.tr
    ·apply Tr.run
     ·simp only [go_sem, h5, rowC] <;> rfl
     ·simp; try omega
     apply Tr.cons
     ·exact .callN rfl rfl (by simp only [go_sem] <;> rfl) (by simp only [go_sem] <;> rfl) (by simp only [go_sem] <;> rfl) (by simp only [go_sem] <;> rfl) (by simp only [go_sem] <;> rfl) q1
     apply Tr.cons
     ·exact .clip (i := 39) (n := e5.length) rfl rfl (by simp only [go_sem] <;> rfl) (by simp only [go_sem] <;> rfl) (by simp only [go_sem, List.length_map] <;> rfl) (by simp only [go_sem] <;> rfl) (by rw [List.length_map]) (by omega) (by omega) (by simp only [go_sem] <;> rfl) clip79_clips
     apply Tr.done
     ·simp only [go_sem] <;> rfl
     ·simp
    have h5g : (e5.map edgeC)[a.toNat]? = some (edgeC (stepM m e.1 a)) := by rw [List.getElem?_map, h5i]; rfl
    have h5s : ∀ x y : Int, (e5.map edgeC).set a.toNat [.sc (.int .i64 x), .sc (.int .i64 y)] = (e5.set a.toNat (x, y)).map edgeC := fun x y => by rw [List.map_set]; rfl
    have h5l : (e5.set a.toNat ((stepM m e.1 a).1, o)).length = e5.length := List.length_set
    refine EvC.seq ?_
    refine EvC.a ?_
    refine EvC.ct ?_
    refine EvC.b ?_ (by simp only [go_sem, h5g, edgeC, List.length_map, h5s] <;> rfl) (by simp; try omega)
    refine EvC.a ?_ (by simp only [go_sem, hge, edgeC, hel, hsetE, List.length_map] <;> rfl) (by simp [edgeC])
    refine EvC.frz 39 (by simp only [go_sem, List.length_map, h5l] <;> rfl) ?_
    refine EvC.b ?_ (by simp only [go_sem, hRl, hr8] <;> rfl)
    have hex1 : ([[.sl false ((e5.set a.toNat ((stepM m e.1 a).1, o)).map edgeC) .full]] : List (List AV)).all AV.norefs = true := by simp [AV.norefs, AV.noref, norefs_edges]
    have hex3 : ([[.sl false ((e5.set a.toNat ((stepM m e.1 a).1, o)).map edgeC) .full]] : List (List AV)).map (fun c => c.map (AV.ren [(0, 0), (1, 1), (2, 2), (3, 3)])) = [[.sl false ((e5.set a.toNat ((stepM m e.1 a).1, o)).map edgeC) .full]] := by simp [AV.ren, AV.noref, norefs_edges]
    generalize hXX : ([[.sl false ((e5.set a.toNat ((stepM m e.1 a).1, o)).map edgeC) .full]] : List (List AV)) = XX at hex1 hex3 ⊢
    have hXl : XX.length = 1 := by rw [← hXX]; rfl
    refine ⟨rfl, (r.2.set i.toNat ((m.rows.length : Int), e.2), XX), ⟨hset2 _, hex1, (fun c hc => by subst hXX; simp only [List.mem_singleton] at hc; rw [hc]; rfl), ?_⟩, fun c Q h => ?_⟩
    ·rw [hraw, rawRows, if_neg (show ¬ (4 : Int) = 0 by decide), if_neg (show ¬ (4 : Int) = 1 by decide), if_neg (show ¬ (4 : Int) = 2 by decide), if_neg (show ¬ (4 : Int) = 3 by decide), hE, hrt, hXX]
    rw [hXl] at h
    refine EvC.gcE [4, 7] [(0, 0), (1, 1), (2, 2), (3, 3)] 4 rfl (by simp only [go_sem, hnr, hrn, List.all_append, Bool.false_and, hex1, hex3, List.map_append] <;> rfl) h
 have dk : decide ((k : Int) < m.rows.length) = true := decide_eq_true (by omega)
 have hk : m.rows[k]? = some (m.rows[k]'hkl) := List.getElem?_eq_getElem hkl
 have hkm := List.getElem_mem hkl
 have hkn := hnn.row hv hkm
 have hkr := (hv.row _ hkm).1
 generalize m.rows[k]'hkl = rk at hk hkn hkr
 obtain ⟨bk, es⟩ := rk
 simp only [Prod.mk.injEq] at hkn hkr
 obtain ⟨rfl, _⟩ := hkn
 have hin : (k : Int).toNat = k := Int.toNat_natCast k
 have hr8 : room (k + 1) 24 = true := by simp only [room_eq, decide_eq_true_eq]; omega
 have hk1d : decide (k + 1 = 0) = false := decide_eq_false (by omega)
 have hel : (es.map edgeC).length = es.length := List.length_map _
 by_cases hkS : k = S
 ·subst hkS
  have hre : r = (false, es) := by rw [hk] at h1; exact (Option.some.inj h1).symm
  subst hre
  have hsn := rowsK_self (m := m) (S := k) (v := .tv 3 n 0 n (.val n)) (w := .tv 3 n 0 n (.val n)) hk
  have hl0 : rowsK m k k (.tv 3 n 0 n (.val n)) = ((m.rows.take k).map fun r => ((false, r.2) : Row)).map rowC := by rw [rowsK, List.set_eq_of_length_le (by simp; omega)]
  rw [hlo k (by omega)]
  refine EvC.a ?_
  refine EvC.seq ?_
  refine EvC.cr ?_ (by simp only [go_sem, dk] <;> rfl)
  refine EvC.seq ?_
  refine EvC.block ?_
  refine EvC.a ?_ (by simp only [go_sem, hk, hin, rowC] <;> rfl)
  have hsn := rowsK_self (m := m) (S := k) (v := .tv 11 n 0 n (.val n)) (w := .tv 3 n 0 n (.val n)) hk
  rw [hl0] at hsn
  have q1 := clone80_new es .unk (by omega) (by omega)
  have hnl : n = es.length := hn
  have hRl4 : (rowsK m (k + 1) k (.tv 11 n 0 n (.val n))).length = k + 1 := rowsK_len (by omega)
  have hRl : (((m.rows.take k).map fun r => ((false, r.2) : Row)).map rowC).length = k := by simp; omega
  apply EvC.drwA mixed
  ·apply Tr.run
   ·simp only [go_sem] <;> rfl
   ·simp
   apply Tr.cons
   ·exact .callN rfl rfl (by simp only [go_sem] <;> rfl) (by simp only [go_sem] <;> rfl) (by simp only [go_sem] <;> rfl) (by simp only [go_sem] <;> rfl) (by simp only [go_sem] <;> rfl) q1
   apply Tr.cons
   ·exact .clip (i := 11) (n := es.length) rfl rfl (by simp only [go_sem] <;> rfl) (by simp only [go_sem] <;> rfl) (by simp only [go_sem, hel] <;> rfl) (by simp only [go_sem] <;> rfl) (by rw [hel]) (by omega) (by omega) (by simp only [go_sem] <;> rfl) clip79_clips
   apply Tr.done
   ·simp only [go_sem, hRl, hel, ← hnl, hsn, hRl4] <;> rfl
   ·simp [hr8]
  ·kernel_rfl
  have hkk : k + 1 ≤ m.rows.length := hkl
  have hnr : (rowsK m (k + 1) k (.tv 11 n 0 n (.val n))).all AV.norefs = false := rowsK_norefs (by omega) hkk rfl
  have hrn := rowsK_ren m (k + 1) k (.tv 11 n 0 n (.val n)) [(0, 0), (1, 1), (2, 2), (11, 3)]
  refine EvC.b ?_ (hok := by exact inI64_of (by omega) (by omega))
  exact ⟨[(0, 0), (1, 1), (2, 2), (11, 3)], k + 1, rfl, (by rw [hhi (k + 1) (by omega)]; simp only [go_sem, hnr, hrn, hk1d, Bool.and_false, Int.natCast_add, Int.natCast_one] <;> rfl), hkk, by omega⟩
 ·have hsn := rowsK_other (v := .tv 3 n 0 n (.val n)) hk hkS
  simp only at hsn
  have hkk : k + 1 ≤ m.rows.length := hkl
  have hRl : (((m.rows.take k).map fun r => ((false, r.2) : Row)).map rowC).length = k := by simp; omega
  have hRl2 : (rowsK m k S (.tv 3 n 0 n (.val n))).length = k := rowsK_len (by omega)
  have hRl3 : (rowsK m (k + 1) S (.tv 3 n 0 n (.val n))).length = k + 1 := rowsK_len (by omega)
  have hRl5 : (List.take (k + 1) m.rows).length = k + 1 := by simp; omega
  have q1 := clone80_is es .unk (by omega)
  have q2 := clip79_is es .unk
  rcases Nat.lt_or_ge k S with hlt | hge
  ·have hl0 : rowsK m k S (.tv 3 n 0 n (.val n)) = ((m.rows.take k).map fun r => ((false, r.2) : Row)).map rowC := by rw [rowsK, List.set_eq_of_length_le (by simp; omega)]
   have hl1 : rowsK m (k + 1) S (.tv 3 n 0 n (.val n)) = ((m.rows.take (k + 1)).map fun r => ((false, r.2) : Row)).map rowC := by rw [rowsK, List.set_eq_of_length_le (by simp; omega)]
   rw [hl0, hl1] at hsn
   have hsn : List.map rowC (List.map (fun r => (false, r.snd)) (List.take k m.rows)) ++ [[.sl false (es.map edgeC) .unk]] = List.map rowC (List.map (fun r => (false, r.snd)) (List.take (k + 1) m.rows)) := hsn
   rw [hlo k (by omega)]
   refine EvC.a ?_
   refine EvC.seq ?_
   refine EvC.cr ?_ (by simp only [go_sem, dk] <;> rfl)
   refine EvC.seq ?_
   refine EvC.block ?_
   refine EvC.a ?_ (by simp only [go_sem, hk, hin, rowC] <;> rfl)
   apply EvC.drwA mixed
   ·apply Tr.run
    ·simp only [go_sem] <;> rfl
    ·simp
    apply Tr.cons
    ·exact .call rfl rfl (by simp only [go_sem] <;> rfl) (by simp only [go_sem] <;> rfl) (by simp only [go_sem] <;> rfl) (by simp only [go_sem] <;> rfl) (by simp only [go_sem] <;> rfl) q1
    apply Tr.cons
    ·exact .call rfl rfl (by simp only [go_sem] <;> rfl) (by simp only [go_sem] <;> rfl) (by simp only [go_sem] <;> rfl) (by simp only [go_sem] <;> rfl) (by simp only [go_sem] <;> rfl) q2
    apply Tr.done
    ·simp only [go_sem, hRl, hsn, List.length_map, hRl5] <;> rfl
    ·simp [hr8]
   ·kernel_rfl
   refine EvC.b ?_ (hok := by exact inI64_of (by omega) (by omega))
   have hnr : (List.map rowC (List.map (fun r => ((false, r.snd) : Row)) (List.take (k + 1) m.rows))).all AV.norefs = true := by
    simp only [List.all_eq_true]
    intro c hc
    obtain ⟨r, _, rfl⟩ := List.mem_map.1 hc
    exact rowC_norefs r
   exact ⟨[(0, 0), (1, 1), (2, 2)], k + 1, rfl, (by rw [hlo (k + 1) (by omega)]; simp only [go_sem, hnr, hk1d, Bool.and_false, Int.natCast_add, Int.natCast_one] <;> rfl), hkk, by omega⟩
  ·have hsn : rowsK m k S (.tv 3 n 0 n (.val n)) ++ [[.sl false (es.map edgeC) .unk]] = rowsK m (k + 1) S (.tv 3 n 0 n (.val n)) := hsn
   rw [hhi k (by omega)]
   refine EvC.a ?_
   refine EvC.seq ?_
   refine EvC.cr ?_ (by simp only [go_sem, dk] <;> rfl)
   refine EvC.seq ?_
   refine EvC.block ?_
   refine EvC.a ?_ (by simp only [go_sem, hk, hin, rowC] <;> rfl)
   apply EvC.drwA mixed
   ·apply Tr.run
    ·simp only [go_sem] <;> rfl
    ·simp
    apply Tr.cons
    ·exact .call rfl rfl (by simp only [go_sem] <;> rfl) (by simp only [go_sem] <;> rfl) (by simp only [go_sem] <;> rfl) (by simp only [go_sem] <;> rfl) (by simp only [go_sem] <;> rfl) q1
    apply Tr.cons
    ·exact .call rfl rfl (by simp only [go_sem] <;> rfl) (by simp only [go_sem] <;> rfl) (by simp only [go_sem] <;> rfl) (by simp only [go_sem] <;> rfl) (by simp only [go_sem] <;> rfl) q2
    apply Tr.done
    ·simp only [go_sem, hRl2, hsn, hRl3] <;> rfl
    ·simp [hr8]
   ·kernel_rfl
   have hnr : (rowsK m (k + 1) S (.tv 3 n 0 n (.val n))).all AV.norefs = false := rowsK_norefs (by omega) hkk rfl
   have hrn := rowsK_ren m (k + 1) S (.tv 3 n 0 n (.val n)) [(0, 0), (1, 1), (2, 2), (3, 3)]
   refine EvC.b ?_ (hok := by exact inI64_of (by omega) (by omega))
   exact ⟨[(0, 0), (1, 1), (2, 2), (3, 3)], k + 1, rfl, (by rw [hhi (k + 1) (by omega)]; simp only [go_sem, hnr, hrn, hk1d, Bool.and_false, Int.natCast_add, Int.natCast_one] <;> rfl), hkk, by omega⟩
theorem list_step {α : Type} {a : List α} {i : Nat} {x : α} (h : a[i]? = some x) : a.drop i = x :: a.drop (i + 1) := by
 obtain ⟨hi, he⟩ := List.getElem?_eq_some_iff.1 h
 rw [List.drop_eq_getElem_cons hi, he]
theorem clipI_is (nl : Bool) (es : List (List AV)) (c : Cp) (h : (es.all fun y => decide (y.length = 1)) = true) : PureIs prog 21 [.sl nl es c] (.sl nl es .full) := by
 refine PureIs.of1 3 [] func21 ntmps21 results21 fun _ => ?_
 refine EvC.seq (EvC.rg (by simp only [go_sem] <;> rfl) rfl ?_)
 refine EvC.a ?_ (hok := by simp [h])
 refine EvC.ret ⟨.inl rfl, _, (by simp only [go_sem] <;> rfl), rfl, rfl⟩
def cmpI : List Int → List Int → Int
 | x :: a, y :: b => if x < y then -1 else if y < x then 1 else cmpI a b
 | _, _ => 0
def cmpL (a b : List Int) : Int := if a.length = b.length then cmpI a b else if a.length < b.length then -1 else 1
theorem cmpI_zero : ∀ {a b : List Int}, a.length = b.length → (cmpI a b = 0 ↔ a = b)
 | [], [], _ => by simp [cmpI]
 | x :: a, y :: b, h => by
   unfold cmpI
   split
   ·simp; omega
   split
   ·simp; omega
   ·rw [cmpI_zero (by simpa using h)]
    simp; omega
theorem cmpL_zero {a b : List Int} : cmpL a b = 0 ↔ a = b := by
 unfold cmpL
 split
 ·rename_i h; exact cmpI_zero h
 ·rename_i h
  have : a ≠ b := fun e => h (by rw [e])
  split <;> simp [this]
theorem compare65_is (na nb : Bool) (a b : List Int) (ca cb : Cp) (hl : a.length < 1000000) :
  PureIs prog 42 [.sl na (a.map intC) ca, .sl nb (b.map intC) cb] (.sc (.int .i64 (cmpL a b))) := by
 refine PureIs.of1 2 [4, 5, 10, 15, 19, 30, 39] func42 ntmps42 results42 fun _ => ?_
 refine EvC.a ?_
 refine EvC.seq ?_
 refine EvC.a ?_ (by simp only [go_sem, List.length_map] <;> rfl)
 unfold cmpL
 by_cases hlen : a.length = b.length
 rotate_left
 ·have hd : decide ((a.length : Int) = (b.length : Int)) = false := decide_eq_false (by omega)
  rw [if_neg hlen]
  refine EvC.ct ?_ (by simp only [go_sem, hd] <;> rfl)
  refine EvC.seq ?_
  refine EvC.a ?_ (by simp only [go_sem, List.length_map] <;> rfl)
  by_cases hlt : a.length < b.length
  ·have h2 : decide ((a.length : Int) < (b.length : Int)) = true := decide_eq_true (by omega)
   refine EvC.ct ?_ (by simp only [go_sem, h2] <;> rfl)
   refine EvC.a ?_
   rw [if_pos hlt]
   refine EvC.rz ?_
   simp only [go_sem]
  ·have h2 : decide ((a.length : Int) < (b.length : Int)) = false := decide_eq_false (by omega)
   refine EvC.cs ?_ (by simp only [go_sem, h2] <;> rfl)
   refine EvC.a ?_
   rw [if_neg hlt]
   refine EvC.rz ?_
   simp only [go_sem]
 have hd : decide ((a.length : Int) = (b.length : Int)) = true := decide_eq_true (by omega)
 rw [if_pos hlen]
 refine EvC.cs ?_ (by simp only [go_sem, hd] <;> rfl)
 refine EvC.seq ?_
 refine EvC.a ?_
 refine EvC.block ?_
 refine EvC.loopS (σ := Nat) (fun i => ⟨[(0, .sl na (a.map intC) ca), (1, .sl nb (b.map intC) cb), (5, .sc (.int .i64 i))], [], [], 0⟩) (fun i => a.length - i) (fun i => i ≤ a.length ∧ cmpI a b = cmpI (a.drop i) (b.drop i)) [0, 1, 5] 0 ?_ ?_
 ·exact ⟨[], 0, rfl, (by simp only [go_sem, Int.natCast_zero] <;> rfl), Nat.zero_le _, rfl⟩
 rintro i ⟨hi, hinv⟩
 refine EvC.seq ?_
 refine EvC.a ?_ (by simp only [go_sem, List.length_map] <;> rfl)
 refine EvC.cond (by simp only [go_sem] <;> rfl) (fun hc => ?_) (fun hc => ?_)
 rotate_left
 ·
  refine EvC.exit ?_
  obtain rfl : a.length = i := by have : ¬ i < a.length := by simpa using hc
                                  omega
  have h0 : cmpI a b = 0 := by rw [hinv, List.drop_length, hlen, List.drop_length]; rfl
  rw [h0]
  refine EvC.a ?_
  refine EvC.rz ?_
  simp only [go_sem]
 have hil : i < a.length := by simpa using hc
 clear hc
 have he : a[i]? = some (a[i]'hil) := List.getElem?_eq_getElem hil
 have hf : b[i]? = some (b[i]'(by omega)) := List.getElem?_eq_getElem (by omega)
 generalize a[i]'hil = x at he
 generalize b[i]'(by omega) = y at hf
 rw [list_step he, list_step hf, cmpI] at hinv
 have hin : (i : Int).toNat = i := Int.toNat_natCast i
 refine EvC.skip ?_
 refine EvC.seq ?_
 refine EvC.block ?_
 refine EvC.seq ?_
 refine EvC.d mixed ?_ (h := by simp only [go_sem, he, hf, intC, hin, List.length_map] <;> rfl) (hok := by simp; try omega)
 by_cases hxy : x < y
 ·have d1 : decide (x < y) = true := decide_eq_true hxy
  refine EvC.ct ?_ (by simp only [go_sem, d1] <;> rfl)
  refine EvC.a ?_
  rw [hinv, if_pos hxy]
  refine EvC.rz ?_
  simp only [go_sem]
 have d1 : decide (x < y) = false := decide_eq_false hxy
 refine EvC.cs ?_ (by simp only [go_sem, d1] <;> rfl)
 refine EvC.d mixed ?_ (h := by simp only [go_sem, he, hf, intC, hin, List.length_map] <;> rfl) (hok := by simp; try omega)
 by_cases hyx : y < x
 ·have d2 : decide (y < x) = true := decide_eq_true hyx
  refine EvC.ct ?_ (by simp only [go_sem, d2] <;> rfl)
  refine EvC.a ?_
  rw [hinv, if_neg hxy, if_pos hyx]
  refine EvC.rz ?_
  simp only [go_sem]
 have d2 : decide (y < x) = false := decide_eq_false hyx
 refine EvC.cs ?_ (by simp only [go_sem, d2] <;> rfl)
 refine EvC.b ?_ (hok := by exact inI64_of (by omega) (by omega))
 exact ⟨[], i + 1, rfl, (by simp only [go_sem, Int.natCast_add, Int.natCast_one] <;> rfl), ⟨hil, by rw [hinv, if_neg hxy, if_neg hyx]⟩, by omega⟩
abbrev RW := Bool × List Int × Cp
def rwC (r : RW) : List AV := [.sl r.1 (r.2.1.map intC) r.2.2]
@[go_sem] theorem norefs_rw (l : List RW) : (l.map rwC).all AV.norefs = true := by simp [List.all_eq_true, rwC, AV.norefs, AV.noref]
def sameW : List RW → List RW → Bool
 | [], [] => true
 | x :: a, y :: b => decide (x.2.1 = y.2.1) && sameW a b
 | _, _ => false
theorem sameW_eq : ∀ {a b : List RW}, sameW a b = decide (a.map (·.2.1) = b.map (·.2.1))
 | [], [] => by simp [sameW]
 | x :: a, [] => by simp [sameW]
 | [], y :: b => by simp [sameW]
 | x :: a, y :: b => by simp [sameW, sameW_eq (a := a) (b := b)]
theorem sameW_len {a b : List RW} (h : sameW a b = true) : a.length = b.length := by
 rw [sameW_eq, decide_eq_true_eq] at h
 simpa using congrArg List.length h
theorem same37_is (na nb : Bool) (a b : List RW) (ca cb : Cp) (hl : a.length < 1000000) (hk : ∀ x ∈ a, x.2.1.length < 1000000) :
  PureIs prog 22 [.sl na (a.map rwC) ca, .sl nb (b.map rwC) cb] (.sc (.bool (sameW a b))) := by
 refine PureIs.of1 2 [4, 5, 10, 14, 26] func22 ntmps22 results22 fun _ => ?_
 refine EvC.a ?_
 refine EvC.seq ?_
 refine EvC.a ?_ (by simp only [go_sem, List.length_map] <;> rfl)
 by_cases hlen : a.length = b.length
 rotate_left
 ·have hd : decide ((a.length : Int) = (b.length : Int)) = false := decide_eq_false (by omega)
  have hab : sameW a b = false := by
   cases h : sameW a b with
   | false => rfl
   | true => exact absurd (sameW_len h) hlen
  rw [hab]
  refine EvC.ct ?_ (by simp only [go_sem, hd] <;> rfl)
  refine EvC.a ?_
  refine EvC.rz ?_
  simp only [go_sem]
 have hd : decide ((a.length : Int) = (b.length : Int)) = true := decide_eq_true (by omega)
 refine EvC.cs ?_ (by simp only [go_sem, hd] <;> rfl)
 refine EvC.seq ?_
 refine EvC.a ?_
 refine EvC.block ?_
 refine EvC.loopS (σ := Nat) (fun i => ⟨[(0, .sl na (a.map rwC) ca), (1, .sl nb (b.map rwC) cb), (5, .sc (.int .i64 i))], [], [], 0⟩) (fun i => a.length - i) (fun i => i ≤ a.length ∧ sameW a b = sameW (a.drop i) (b.drop i)) [0, 1, 5] 0 ?_ ?_
 ·exact ⟨[], 0, rfl, (by simp only [go_sem, Int.natCast_zero] <;> rfl), Nat.zero_le _, rfl⟩
 rintro i ⟨hi, hinv⟩
 refine EvC.seq ?_
 refine EvC.a ?_ (by simp only [go_sem, List.length_map] <;> rfl)
 refine EvC.cond (by simp only [go_sem] <;> rfl) (fun hc => ?_) (fun hc => ?_)
 rotate_left
 ·
  refine EvC.exit ?_
  obtain rfl : a.length = i := by have : ¬ i < a.length := by simpa using hc
                                  omega
  have h0 : sameW a b = true := by rw [hinv, List.drop_length, hlen, List.drop_length]; rfl
  rw [h0]
  refine EvC.a ?_
  refine EvC.rz ?_
  simp only [go_sem]
 have hil : i < a.length := by simpa using hc
 clear hc
 have he : a[i]? = some (a[i]'hil) := List.getElem?_eq_getElem hil
 have hf : b[i]? = some (b[i]'(by omega)) := List.getElem?_eq_getElem (by omega)
 have hx := hk _ (List.getElem_mem hil)
 generalize a[i]'hil = x at he hx
 generalize b[i]'(by omega) = y at hf
 rw [list_step he, list_step hf, sameW] at hinv
 have hin : (i : Int).toNat = i := Int.toNat_natCast i
 have q := compare65_is x.1 y.1 x.2.1 y.2.1 x.2.2 y.2.2 hx
 have hz := cmpL_zero (a := x.2.1) (b := y.2.1)
 generalize cmpL x.2.1 y.2.1 = z at q hz
 refine EvC.skip ?_
 refine EvC.seq ?_
 refine EvC.block ?_
 refine EvC.k1D mixed ?_ (h1 := by simp only [go_sem, he, hf, rwC, hin, List.length_map] <;> rfl) (k1 := by simp; try omega) (c1 := .ca q)
 by_cases hxy : x.2.1 = y.2.1
 ·have d1 : z = 0 := hz.2 hxy
  refine EvC.cs ?_ (by simp only [go_sem, d1] <;> rfl)
  refine EvC.b ?_ (hok := by exact inI64_of (by omega) (by omega))
  exact ⟨[], i + 1, rfl, (by simp only [go_sem, Int.natCast_add, Int.natCast_one] <;> rfl), ⟨hil, by rw [hinv, decide_eq_true hxy, Bool.true_and]⟩, by omega⟩
 ·have d1 : decide (z = 0) = false := decide_eq_false fun h => hxy (hz.1 h)
  refine EvC.ct ?_ (by simp only [go_sem, d1] <;> rfl)
  refine EvC.a ?_
  rw [hinv, decide_eq_false hxy, Bool.false_and]
  refine EvC.rz ?_
  simp only [go_sem]
theorem defined66_is {m : Mach} (hv : Valid m) (s i : Int) : PureIs prog 80 [.ag m.cells, .sc (.int .i64 s), .sc (.int .i64 i)] (.sc (.bool (definedB m s i))) := by
 refine PureIs.of1 4 [6] func80 ntmps80 results80 fun _ => ?_
 refine EvC.a ?_ (by simp only [go_sem, Mach.cells] <;> rfl)
 refine EvC.z 0 ?_
 have hn1 := hv.rows
 have hi1 := hv.ins
 cases h1 : m.rows[s.toNat]? with
 | none =>
   have hs : m.rows.length ≤ s.toNat := List.getElem?_eq_none_iff.1 h1
   have d1 : decide (0 ≤ s) = true := decide_eq_true (by omega)
   have d2 : decide (s < (m.rows.length : Int)) = false := decide_eq_false (by omega)
   have hres : definedB m s i = false := by simp [definedB, d1, d2]
   rw [hres]
   apply EvC.s1
   ·apply Tr.run
    ·simp only [go_sem, Mach.cells, List.length_map, h1, d1, d2] <;> rfl
    ·simp
    apply Tr.cons
    ·exact .skipv (.ia [.sl false [] .unk]) rfl rfl (by simp only [go_sem] <;> rfl) (by simp only [go_sem] <;> rfl)
    apply Tr.run
    ·simp only [go_sem, Mach.cells, List.length_map, h1, d1, d2] <;> rfl
    ·simp
    apply Tr.cons
    ·exact .skipv (.ia [.sc (.int .i64 0), .sc (.int .i64 0)]) rfl rfl (by simp only [go_sem] <;> rfl) (by simp only [go_sem] <;> rfl)
    apply Tr.done
    ·simp only [go_sem] <;> rfl
    ·simp
   refine EvC.rz ?_
   simp only [go_sem]
 | some r =>
   have hsl : s.toNat < m.rows.length := (List.getElem?_eq_some_iff.1 h1).1
   have hrl := (hv.row _ (List.mem_of_getElem? h1)).1
   cases h2 : r.2[i.toNat]? with
   | none =>
     have hi : r.2.length ≤ i.toNat := List.getElem?_eq_none_iff.1 h2
     have d3 : decide (0 ≤ i) = true := decide_eq_true (by omega)
     have d4 : decide (i < m.ins) = false := decide_eq_false (by omega)
     have hres : definedB m s i = false := by simp [definedB, d3, d4]
     rw [hres]
     by_cases h0 : 0 ≤ s
     ·have d1 : decide (0 ≤ s) = true := decide_eq_true h0
      have d2 : decide (s < (m.rows.length : Int)) = true := decide_eq_true (by omega)
      apply EvC.s1
      ·apply Tr.run
       ·simp only [go_sem, Mach.cells, rowC, List.length_map, h1, h2, d1, d2, d3, d4] <;> rfl
       ·simp
       apply Tr.cons
       ·exact .skipv (.ia [.sc (.int .i64 0), .sc (.int .i64 0)]) rfl rfl (by simp only [go_sem] <;> rfl) (by simp only [go_sem] <;> rfl)
       apply Tr.done
       ·simp only [go_sem] <;> rfl
       ·simp
      refine EvC.rz ?_
      simp only [go_sem]
     ·have d1 : decide (0 ≤ s) = false := decide_eq_false h0
      apply EvC.s1
      ·apply Tr.run
       ·simp only [go_sem, Mach.cells, rowC, List.length_map, h1, h2, d1, d3, d4] <;> rfl
       ·simp
       apply Tr.cons
       ·exact .skipv (.ia [.sc (.int .i64 0), .sc (.int .i64 0)]) rfl rfl (by simp only [go_sem] <;> rfl) (by simp only [go_sem] <;> rfl)
       apply Tr.done
       ·simp only [go_sem] <;> rfl
       ·simp
      refine EvC.rz ?_
      simp only [go_sem]
   | some e =>
     have he : stepM m s i = e := by rw [stepM, h1]; simp [h2]
     unfold definedB
     rw [he]
     refine EvC.g ?_ (h := by simp only [go_sem, Mach.cells, h1, h2, rowC, edgeC, List.length_map] <;> rfl) (hok := by by_cases k1 : 0 ≤ s <;> by_cases k3 : 0 ≤ i <;> simp [k1, k3])
     refine EvC.rz ?_
     simp only [go_sem]
     by_cases k1 : 0 ≤ s <;> by_cases k2 : s < m.rows.length <;> by_cases k3 : 0 ≤ i <;> by_cases k4 : i < m.ins <;> simp [k1, k2, k3, k4]
theorem inN_if (x n : Int) : (if decide (0 ≤ x) = true then decide (x < n) else false) = inN x n := by
 unfold inN
 by_cases h : 0 ≤ x <;> simp [h]
set_option maxHeartbeats 4000000 in
theorem is40_is {m : Mach} (hv : Valid m) (f : FA) : PureIs prog 54 [.ag m.cells, .ag f.cells] (.sc (.bool (faultB m f))) := by
 obtain ⟨kd, s, i, t, a, o⟩ := f
 have qd := defined66_is hv s i
 refine PureIs.of1 9 [15, 49, 50, 70, 90, 105, 118] func54 ntmps54 results54 fun _ => ?_
 refine EvC.a ?_ (by simp only [go_sem, Mach.cells, FA.cells] <;> rfl)
 refine EvC.z 0 ?_
 refine EvC.z 1 ?_
 refine EvC.seq ?_
 cases hd : definedB m s i with
 | false =>
   have hres : faultB m ⟨kd, s, i, t, a, o⟩ = false := by unfold faultB; simp only; rw [hd]; simp
   rw [hd] at qd
   rw [hres]
   refine EvC.k1 ?_ (h1 := by simp only [go_sem, Mach.cells] <;> rfl) (c1 := .ca qd)
   refine EvC.ct ?_
   refine EvC.a ?_
   refine EvC.rz ?_
   simp only [go_sem]
 | true =>
 rw [hd] at qd
 refine EvC.k1 ?_ (h1 := by simp only [go_sem, Mach.cells] <;> rfl) (c1 := .ca qd)
 refine EvC.cs ?_
 obtain ⟨r, h1, h2, he⟩ := step_in hv hd
 obtain ⟨b1, b2, _⟩ := definedB_iff.1 hd
 have hfb : faultB m ⟨kd, s, i, t, a, o⟩ = (plainB ⟨kd, s, i, t, a, o⟩ && kindB m ⟨kd, s, i, t, a, o⟩) := by unfold faultB; simp only; rw [hd, Bool.true_and]
 rw [hfb]
 clear hfb
 unfold kindB
 simp only
 generalize stepM m s i = e at *
 have h3 : m.rows[e.1.toNat]? = some (m.rows[e.1.toNat]'(by omega)) := List.getElem?_eq_getElem (by omega)
 have hrl := (hv.row _ (List.getElem_mem (show e.1.toNat < m.rows.length by omega))).1
 generalize m.rows[e.1.toNat]'(by omega) = r3 at h3 hrl
 have hsm : stepM m e.1 a = (r3.2[a.toNat]?).getD (-1, -1) := by rw [stepM, h3]; rfl
 have hi1 := hv.ins
 have hro1 := hv.rows
 refine EvC.d mixed ?_ (h := by simp only [go_sem, h1, h2, rowC, edgeC, List.length_map] <;> rfl) (hok := by simp; try omega)
 refine EvC.z 20 ?_
 refine EvC.a ?_ (by simp only [go_sem, List.length_map] <;> rfl)
 refine EvC.g ?_ (h := by simp only [go_sem, inN_if] <;> rfl)
 refine EvC.g ?_ (h := by simp only [go_sem, inN_if] <;> rfl)
 refine EvC.seq ?_
 refine EvC.a ?_
 refine EvC.block ?_
 have hno : ¬ (kd = 0 ∨ kd = 1 ∨ kd = 2 ∨ kd = 3 ∨ kd = 4) → plainB ⟨kd, s, i, t, a, o⟩ = false := fun h => by
  unfold plainB
  simp only
  rw [if_neg (by omega), if_neg (by omega), if_neg (by omega), if_neg (by omega), if_neg (by omega)]
 by_cases hk0 : kd = 0
 ·
  subst hk0
  refine EvC.a ?_
  refine EvC.ct ?_
  refine EvC.g ?_ (h := by simp only [go_sem, inN_if] <;> rfl)
  refine EvC.rz ?_
  simp only [go_sem]
  unfold plainB
  generalize inN o m.outs = b
  by_cases e1 : t = 0 <;> by_cases e2 : a = 0 <;> cases b <;> simp [e1, e2]
 have dk0 : decide (kd = 0) = false := decide_eq_false hk0
 refine EvC.a ?_ (by simp only [go_sem, dk0] <;> rfl)
 refine EvC.cf ?_
 by_cases hk1 : kd = 1
 ·
  subst hk1
  refine EvC.a ?_
  refine EvC.ct ?_
  refine EvC.g ?_ (h := by simp only [go_sem, inN_if] <;> rfl)
  refine EvC.rz ?_
  simp only [go_sem]
  unfold plainB
  generalize inN t m.rows.length = b
  by_cases e1 : o = 0 <;> by_cases e2 : a = 0 <;> cases b <;> simp [e1, e2]
 have dk1 : decide (kd = 1) = false := decide_eq_false hk1
 refine EvC.a ?_ (by simp only [go_sem, dk1] <;> rfl)
 refine EvC.cf ?_
 by_cases hk2 : kd = 2
 ·
  subst hk2
  refine EvC.a ?_
  refine EvC.ct ?_
  refine EvC.g ?_ (h := by simp only [go_sem, inN_if] <;> rfl)
  refine EvC.rz ?_
  simp only [go_sem]
  unfold plainB
  by_cases e1 : o = 0 <;> by_cases e2 : a = 0 <;> by_cases e3 : t = 0 <;> simp [e1, e2, e3]
 have dk2 : decide (kd = 2) = false := decide_eq_false hk2
 refine EvC.a ?_ (by simp only [go_sem, dk2] <;> rfl)
 refine EvC.cf ?_
 by_cases hk3 : kd = 3
 ·
  subst hk3
  refine EvC.a ?_
  refine EvC.ct ?_
  refine EvC.g ?_ (h := by simp only [go_sem, inN_if] <;> rfl)
  refine EvC.rz ?_
  simp only [go_sem]
  unfold plainB
  generalize inN t m.rows.length = b
  by_cases e1 : o = 0 <;> by_cases e2 : a = 0 <;> cases b <;> simp [e1, e2]
 have dk3 : decide (kd = 3) = false := decide_eq_false hk3
 refine EvC.a ?_ (by simp only [go_sem, dk3] <;> rfl)
 refine EvC.cf ?_
 by_cases hk4 : kd = 4
 rotate_left
 ·
  have dk4 : decide (kd = 4) = false := decide_eq_false hk4
  rw [hno (by omega)]
  refine EvC.a ?_ (by simp only [go_sem, dk4] <;> rfl)
  refine EvC.cs ?_
  refine EvC.a ?_
  refine EvC.rz ?_
  simp only [go_sem]
 subst hk4
 have qd2 := defined66_is hv e.1 a
 refine EvC.a ?_
 refine EvC.ct ?_
 have hp4 : plainB ⟨4, s, i, t, a, o⟩ = decide (t = 0) := rfl
 rw [hp4]
 rw [hsm]
 cases h4 : r3.2[a.toNat]? with
 | none =>
   have hdf : definedB m e.1 a = false := by
    cases hx : definedB m e.1 a with
    | false => rfl
    | true =>
      obtain ⟨_, k2, _⟩ := definedB_iff.1 hx
      have := List.getElem?_eq_none_iff.1 h4
      omega
   rw [hdf] at qd2
   rw [hdf]
   simp only [Bool.false_and, Bool.and_false]
   by_cases ht0 : t = 0
   ·have d1 : decide (t = 0) = true := decide_eq_true ht0
    apply EvC.seq
    apply EvC.drw mixed
    ·apply Tr.run
     ·simp only [go_sem, d1, h3, h4, rowC, List.length_map, Mach.cells] <;> rfl
     ·simp
     apply Tr.cons
     ·exact .cg (qd2)
     apply Tr.run
     ·simp only [go_sem, d1, h3, h4, rowC, List.length_map, Mach.cells] <;> rfl
     ·simp
     apply Tr.cons
     ·exact .skipv (.ia [.sc (.int .i64 0), .sc (.int .i64 0)]) rfl rfl (by simp only [go_sem] <;> rfl) (by simp only [go_sem] <;> rfl)
     apply Tr.done
     ·simp only [go_sem, d1, h3, h4, rowC, List.length_map, Mach.cells] <;> rfl
     ·simp
    ·kernel_rfl
    refine EvC.rz ?_
    simp only [go_sem]
   ·have d1 : decide (t = 0) = false := decide_eq_false ht0
    apply EvC.seq
    apply EvC.drw mixed
    ·apply Tr.run
     ·simp only [go_sem, d1, h3, h4, rowC, List.length_map, Mach.cells] <;> rfl
     ·simp
     apply Tr.cons
     ·exact .skipv (.sc (.bool false)) rfl rfl (by simp only [go_sem] <;> rfl) (by simp only [go_sem] <;> rfl)
     apply Tr.run
     ·simp only [go_sem, d1, h3, h4, rowC, List.length_map, Mach.cells] <;> rfl
     ·simp
     apply Tr.cons
     ·exact .skipv (.ia [.sc (.int .i64 0), .sc (.int .i64 0)]) rfl rfl (by simp only [go_sem] <;> rfl) (by simp only [go_sem] <;> rfl)
     apply Tr.done
     ·simp only [go_sem, d1, h3, h4, rowC, List.length_map, Mach.cells] <;> rfl
     ·simp
    ·kernel_rfl
    refine EvC.rz ?_
    simp only [go_sem]
 | some e4 =>
   have hal : a.toNat < r3.2.length := (List.getElem?_eq_some_iff.1 h4).1
   by_cases ht0 : t = 0
   rotate_left
   ·have d1 : decide (t = 0) = false := decide_eq_false ht0
    apply EvC.seq
    apply EvC.drw mixed
    ·apply Tr.run
     ·simp only [go_sem, d1, h3, h4, edgeC, rowC, List.length_map, Mach.cells] <;> rfl
     ·simp
     apply Tr.cons
     ·exact .skipv (.sc (.bool false)) rfl rfl (by simp only [go_sem] <;> rfl) (by simp only [go_sem] <;> rfl)
     apply Tr.done
     ·simp only [go_sem, d1, h3, h4, edgeC, rowC, List.length_map, Mach.cells] <;> rfl
     ·simp
    ·kernel_rfl
    refine EvC.rz ?_
    simp only [go_sem]
    rw [d1]; rfl
   have d1 : decide (t = 0) = true := decide_eq_true ht0
   cases hdf : definedB m e.1 a with
   | false =>
     rw [hdf] at qd2
     refine EvC.k1D mixed ?_ (h1 := by simp only [go_sem, d1, h3, h4, edgeC, rowC, List.length_map, Mach.cells] <;> rfl) (c1 := .cg qd2) (h2 := by simp only [go_sem, d1, h3, h4, edgeC, rowC, List.length_map, Mach.cells] <;> rfl)
     refine EvC.rz ?_
     simp only [go_sem]
   | true =>
     rw [hdf] at qd2
     obtain ⟨k1, k2, _⟩ := definedB_iff.1 hdf
     refine EvC.k1D mixed ?_ (h1 := by simp only [go_sem, d1, h3, h4, edgeC, rowC, List.length_map, Mach.cells] <;> rfl) (k1 := by simp; try omega) (c1 := .cg qd2) (h2 := by simp only [go_sem, d1, h3, h4, edgeC, rowC, List.length_map, Mach.cells] <;> rfl) (k2 := by simp; try omega)
     refine EvC.rz ?_
     simp only [go_sem]
     generalize inN o m.outs = b
     rw [d1]
     cases b <;> simp
@[go_sem] theorem norefs_faL (l : List FA) : (l.map FA.cells).all AV.norefs = true := by simp [List.all_eq_true, FA.cells, AV.norefs, AV.noref]
def faO (m : Mach) (k s i t a : Int) : Nat → List FA
 | 0 => []
 | n + 1 => faO m k s i t a n ++ (if faultB m ⟨k, s, i, t, a, n⟩ = true then [⟨k, s, i, t, a, n⟩] else [])
def faA (m : Mach) (k s i t : Int) : Nat → List FA
 | 0 => []
 | n + 1 => faA m k s i t n ++ faO m k s i t n m.outs.toNat
def faT (m : Mach) (k s i : Int) : Nat → List FA
 | 0 => []
 | n + 1 => faT m k s i n ++ faA m k s i n m.ins.toNat
def faI (m : Mach) (k s : Int) : Nat → List FA
 | 0 => []
 | n + 1 => faI m k s n ++ faT m k s n m.rows.length
def faS (m : Mach) (k : Int) : Nat → List FA
 | 0 => []
 | n + 1 => faS m k n ++ faI m k n m.ins.toNat
def faK (m : Mach) (ks : List Int) : Nat → List FA
 | 0 => []
 | n + 1 => faK m ks n ++ faS m ((ks[n]?).getD 0) m.rows.length
def allF (m : Mach) (ks : List Int) : List FA := faK m ks ks.length
theorem faO_len (m : Mach) (k s i t a : Int) : ∀ n, (faO m k s i t a n).length ≤ n
 | 0 => Nat.le_refl _
 | n + 1 => by
   have := faO_len m k s i t a n
   rw [faO, List.length_append]
   split <;> simp <;> omega
theorem faA_len {m : Mach} (hv : Valid m) (k s i t : Int) : ∀ n, (faA m k s i t n).length ≤ n * 16
 | 0 => Nat.le_refl _
 | n + 1 => by
   have := faA_len hv k s i t n
   have := faO_len m k s i t n m.outs.toNat
   have := hv.outs
   rw [faA, List.length_append]; omega
theorem faT_len {m : Mach} (hv : Valid m) (k s i : Int) : ∀ n, (faT m k s i n).length ≤ n * 256
 | 0 => Nat.le_refl _
 | n + 1 => by
   have := faT_len hv k s i n
   have := faA_len hv k s i n m.ins.toNat
   have := hv.ins
   rw [faT, List.length_append]; omega
theorem faI_len {m : Mach} (hv : Valid m) (k s : Int) : ∀ n, (faI m k s n).length ≤ n * 16384
 | 0 => Nat.le_refl _
 | n + 1 => by
   have := faI_len hv k s n
   have := faT_len hv k s n m.rows.length
   have := hv.rows
   rw [faI, List.length_append]; omega
theorem faS_len {m : Mach} (hv : Valid m) (k : Int) : ∀ n, (faS m k n).length ≤ n * 262144
 | 0 => Nat.le_refl _
 | n + 1 => by
   have := faS_len hv k n
   have := faI_len hv k n m.ins.toNat
   have := hv.ins
   rw [faS, List.length_append]; omega
theorem faK_len {m : Mach} (hv : Valid m) (ks : List Int) : ∀ n, (faK m ks n).length ≤ n * 16777216
 | 0 => Nat.le_refl _
 | n + 1 => by
   have := faK_len hv ks n
   have := faS_len hv ((ks[n]?).getD 0) m.rows.length
   have := hv.rows
   rw [faK, List.length_append]; omega
def apF (a b : List FA) : List FA := a ++ b
theorem apF_nil (a : List FA) : apF a [] = a := List.append_nil a
theorem apF_app (a b c : List FA) : apF a (b ++ c) = apF (apF a b) c := (List.append_assoc a b c).symm
theorem apF_len (a b : List FA) : (apF a b).length = a.length + b.length := List.length_append
set_option maxHeartbeats 8000000 in
theorem all48_is {m : Mach} (hv : Valid m) (kn : Bool) (ks : List Int) (kc : Cp) (hks : ks.length ≤ 1000) : PureIs prog 32 [.ag m.cells, .sl kn (ks.map intC) kc] (.sl (allF m ks).isEmpty ((allF m ks).map FA.cells) .unk) := by
 have hmi := hv.ins
 have hmo := hv.outs
 have hmr := hv.rows
 refine PureIs.of1 3 [4, 5, 6, 7, 8, 9, 10, 11, 12, 16, 23, 29, 36, 42, 48, 63] func32 ntmps32 results32 fun _ => ?_
 refine EvC.a ?_ (by simp only [go_sem, Mach.cells] <;> rfl)
 refine EvC.z 0 ?_
 refine EvC.a ?_
 refine EvC.seq ?_
 refine EvC.a ?_
 refine EvC.block ?_
 obtain ⟨pre, hpre⟩ : ∃ pre : List FA, pre = [] := ⟨_, rfl⟩
 have hpl : pre.length ≤ 0 := by rw [hpre]; exact Nat.le_refl _
 refine EvC.loopS (σ := Nat) (fun n => ⟨[(1, .sl kn (ks.map intC) kc), (2, .ia m.cells), (5, .tl 0 (apF pre (faK m ks n)).length (apF pre (faK m ks n)).isEmpty), (6, .sc (.int .i64 n))], [], [(0, .arr 6 ((apF pre (faK m ks n)).map FA.cells) true)], 1⟩) (fun n => ks.length - n) (fun n => n ≤ ks.length) [1, 2, 5, 6] 1 ?_ ?_
 ·exact ⟨[(2, 0)], 0, rfl, (by rw [hpre, show apF [] (faK m ks 0) = [] from rfl]; simp only [go_sem, Int.natCast_zero, List.map_nil, List.length_nil, List.isEmpty_nil] <;> rfl), Nat.zero_le _⟩
 intro kN hkN
 refine EvC.seq ?_
 refine EvC.a ?_ (by simp only [go_sem, Mach.cells, List.length_map] <;> rfl)
 refine EvC.cond (by simp only [go_sem] <;> rfl) (fun hc => ?_) (fun hc => ?_)
 rotate_left
 ·
  refine EvC.exit ?_
  obtain rfl : ks.length = kN := by have : ¬ (kN : Int) < ks.length := (by simpa using hc); omega
  clear hc
  subst hpre
  rw [show apF [] (faK m ks ks.length) = allF m ks from rfl]
  refine EvC.a ?_
  refine EvC.frz 0 (by simp only [go_sem, List.length_map] <;> rfl) ?_
  refine EvC.rz ?_
  simp only [go_sem]
 have hkNl : kN + 1 ≤ ks.length := by have : (kN : Int) < ks.length := (by simpa using hc); omega
 clear hc
 have he : ks[kN]? = some (ks[kN]'hkNl) := List.getElem?_eq_getElem hkNl
 generalize ks[kN]'hkNl = k at he
 obtain ⟨kZ, hZ⟩ : ∃ z : Int, z = (kN : Int) := ⟨_, rfl⟩
 have hin : kZ.toNat = kN := by omega
 rw [← hZ]
 have hnK : apF pre (faK m ks (kN + 1)) = apF (apF pre (faK m ks kN)) (faS m k m.rows.length) := by rw [faK, he, Option.getD_some, apF_app]
 have hlenK := faK_len hv ks kN
 have hplK : (apF pre (faK m ks kN)).length ≤ 16777216 * 1000 := by rw [apF_len]; omega
 generalize apF pre (faK m ks kN) = pre1 at hnK hplK ⊢
 clear hlenK
 refine EvC.skip ?_
 refine EvC.seq ?_
 refine EvC.block ?_
 refine EvC.a ?_
 refine EvC.block ?_
 clear hpre
 refine EvC.loopS (σ := Nat) (fun n => ⟨[(1, .sl kn (ks.map intC) kc), (2, .ia m.cells), (5, .tl 0 (apF pre1 (faS m k n)).length (apF pre1 (faS m k n)).isEmpty), (6, .sc (.int .i64 kZ)), (7, .sc (.int .i64 n))], [], [(0, .arr 6 ((apF pre1 (faS m k n)).map FA.cells) true)], 1⟩) (fun n => m.rows.length - n) (fun n => n ≤ m.rows.length) [1, 2, 5, 6, 7] 1 ?_ ?_
 ·exact ⟨[(0, 0)], 0, rfl, (by rw [show faS m k 0 = [] from rfl, apF_nil]; simp only [go_sem, Int.natCast_zero] <;> rfl), Nat.zero_le _⟩
 intro sN hsN
 refine EvC.seq ?_
 refine EvC.a ?_ (by simp only [go_sem, Mach.cells, List.length_map] <;> rfl)
 refine EvC.cond (by simp only [go_sem] <;> rfl) (fun hc => ?_) (fun hc => ?_)
 rotate_left
 ·
  refine EvC.exit ?_
  obtain rfl : m.rows.length = sN := by have : ¬ (sN : Int) < m.rows.length := (by simpa using hc); omega
  clear hc
  refine EvC.b ?_ (hok := by exact inI64_of (by omega) (by omega))
  exact ⟨[(0, 0)], kN + 1, rfl, (by rw [hnK]; simp only [go_sem, Int.natCast_add, Int.natCast_one, hZ] <;> rfl), hkNl, by omega⟩
 have hsNl : sN + 1 ≤ m.rows.length := by have : (sN : Int) < m.rows.length := (by simpa using hc); omega
 clear hc
 obtain ⟨s, hsZ⟩ : ∃ z : Int, z = (sN : Int) := ⟨_, rfl⟩
 have hnS : apF pre1 (faS m k (sN + 1)) = apF (apF pre1 (faS m k sN)) (faI m k s m.ins.toNat) := by rw [faS, apF_app, hsZ]
 rw [← hsZ]
 have hlenS := faS_len hv k sN
 have hplS : (apF pre1 (faS m k sN)).length ≤ 16777216 * 1001 := by rw [apF_len]; omega
 generalize apF pre1 (faS m k sN) = pre2 at hnS hplS ⊢
 clear hlenS
 refine EvC.skip ?_
 refine EvC.seq ?_
 refine EvC.block ?_
 refine EvC.a ?_
 refine EvC.block ?_
 refine EvC.loopS (σ := Nat) (fun n => ⟨[(1, .sl kn (ks.map intC) kc), (2, .ia m.cells), (5, .tl 0 (apF pre2 (faI m k s n)).length (apF pre2 (faI m k s n)).isEmpty), (6, .sc (.int .i64 kZ)), (7, .sc (.int .i64 s)), (8, .sc (.int .i64 n))], [], [(0, .arr 6 ((apF pre2 (faI m k s n)).map FA.cells) true)], 1⟩) (fun n => m.ins.toNat - n) (fun n => n ≤ m.ins.toNat) [1, 2, 5, 6, 7, 8] 1 ?_ ?_
 ·exact ⟨[(0, 0)], 0, rfl, (by rw [show faI m k s 0 = [] from rfl, apF_nil]; simp only [go_sem, Int.natCast_zero] <;> rfl), Nat.zero_le _⟩
 intro iN hiN
 refine EvC.seq ?_
 refine EvC.a ?_ (by simp only [go_sem, Mach.cells, List.length_map] <;> rfl)
 refine EvC.cond (by simp only [go_sem] <;> rfl) (fun hc => ?_) (fun hc => ?_)
 rotate_left
 ·
  refine EvC.exit ?_
  obtain rfl : iN = m.ins.toNat := by have : ¬ (iN : Int) < m.ins := (by simpa using hc); omega
  clear hc
  refine EvC.b ?_ (hok := by exact inI64_of (by omega) (by omega))
  exact ⟨[(0, 0)], sN + 1, rfl, (by rw [hnS]; simp only [go_sem, Int.natCast_add, Int.natCast_one, hsZ] <;> rfl), hsNl, by omega⟩
 have hiNl : iN + 1 ≤ m.ins.toNat := by have : (iN : Int) < m.ins := (by simpa using hc); omega
 clear hc
 obtain ⟨i, hiZ⟩ : ∃ z : Int, z = (iN : Int) := ⟨_, rfl⟩
 have hnI : apF pre2 (faI m k s (iN + 1)) = apF (apF pre2 (faI m k s iN)) (faT m k s i m.rows.length) := by rw [faI, apF_app, hiZ]
 rw [← hiZ]
 have hlenI := faI_len hv k s iN
 have hplI : (apF pre2 (faI m k s iN)).length ≤ 16777216 * 1002 := by rw [apF_len]; omega
 generalize apF pre2 (faI m k s iN) = pre3 at hnI hplI ⊢
 clear hlenI
 refine EvC.skip ?_
 refine EvC.seq ?_
 refine EvC.block ?_
 refine EvC.a ?_
 refine EvC.block ?_
 refine EvC.loopS (σ := Nat) (fun n => ⟨[(1, .sl kn (ks.map intC) kc), (2, .ia m.cells), (5, .tl 0 (apF pre3 (faT m k s i n)).length (apF pre3 (faT m k s i n)).isEmpty), (6, .sc (.int .i64 kZ)), (7, .sc (.int .i64 s)), (8, .sc (.int .i64 i)), (9, .sc (.int .i64 n))], [], [(0, .arr 6 ((apF pre3 (faT m k s i n)).map FA.cells) true)], 1⟩) (fun n => m.rows.length - n) (fun n => n ≤ m.rows.length) [1, 2, 5, 6, 7, 8, 9] 1 ?_ ?_
 ·exact ⟨[(0, 0)], 0, rfl, (by rw [show faT m k s i 0 = [] from rfl, apF_nil]; simp only [go_sem, Int.natCast_zero] <;> rfl), Nat.zero_le _⟩
 intro tN htN
 refine EvC.seq ?_
 refine EvC.a ?_ (by simp only [go_sem, Mach.cells, List.length_map] <;> rfl)
 refine EvC.cond (by simp only [go_sem] <;> rfl) (fun hc => ?_) (fun hc => ?_)
 rotate_left
 ·
  refine EvC.exit ?_
  obtain rfl : m.rows.length = tN := by have : ¬ (tN : Int) < m.rows.length := (by simpa using hc); omega
  clear hc
  refine EvC.b ?_ (hok := by exact inI64_of (by omega) (by omega))
  exact ⟨[(0, 0)], iN + 1, rfl, (by rw [hnI]; simp only [go_sem, Int.natCast_add, Int.natCast_one, hiZ] <;> rfl), hiNl, by omega⟩
 have htNl : tN + 1 ≤ m.rows.length := by have : (tN : Int) < m.rows.length := (by simpa using hc); omega
 clear hc
 obtain ⟨t, htZ⟩ : ∃ z : Int, z = (tN : Int) := ⟨_, rfl⟩
 have hnT : apF pre3 (faT m k s i (tN + 1)) = apF (apF pre3 (faT m k s i tN)) (faA m k s i t m.ins.toNat) := by rw [faT, apF_app, htZ]
 rw [← htZ]
 have hlenT := faT_len hv k s i tN
 have hplT : (apF pre3 (faT m k s i tN)).length ≤ 16777216 * 1003 := by rw [apF_len]; omega
 generalize apF pre3 (faT m k s i tN) = pre4 at hnT hplT ⊢
 clear hlenT
 refine EvC.skip ?_
 refine EvC.seq ?_
 refine EvC.block ?_
 refine EvC.a ?_
 refine EvC.block ?_
 refine EvC.loopS (σ := Nat) (fun n => ⟨[(1, .sl kn (ks.map intC) kc), (2, .ia m.cells), (5, .tl 0 (apF pre4 (faA m k s i t n)).length (apF pre4 (faA m k s i t n)).isEmpty), (6, .sc (.int .i64 kZ)), (7, .sc (.int .i64 s)), (8, .sc (.int .i64 i)), (9, .sc (.int .i64 t)), (10, .sc (.int .i64 n))], [], [(0, .arr 6 ((apF pre4 (faA m k s i t n)).map FA.cells) true)], 1⟩) (fun n => m.ins.toNat - n) (fun n => n ≤ m.ins.toNat) [1, 2, 5, 6, 7, 8, 9, 10] 1 ?_ ?_
 ·exact ⟨[(0, 0)], 0, rfl, (by rw [show faA m k s i t 0 = [] from rfl, apF_nil]; simp only [go_sem, Int.natCast_zero] <;> rfl), Nat.zero_le _⟩
 intro aN haN
 refine EvC.seq ?_
 refine EvC.a ?_ (by simp only [go_sem, Mach.cells, List.length_map] <;> rfl)
 refine EvC.cond (by simp only [go_sem] <;> rfl) (fun hc => ?_) (fun hc => ?_)
 rotate_left
 ·
  refine EvC.exit ?_
  obtain rfl : aN = m.ins.toNat := by have : ¬ (aN : Int) < m.ins := (by simpa using hc); omega
  clear hc
  refine EvC.b ?_ (hok := by exact inI64_of (by omega) (by omega))
  exact ⟨[(0, 0)], tN + 1, rfl, (by rw [hnT]; simp only [go_sem, Int.natCast_add, Int.natCast_one, htZ] <;> rfl), htNl, by omega⟩
 have haNl : aN + 1 ≤ m.ins.toNat := by have : (aN : Int) < m.ins := (by simpa using hc); omega
 clear hc
 obtain ⟨a, haZ⟩ : ∃ z : Int, z = (aN : Int) := ⟨_, rfl⟩
 have hnA : apF pre4 (faA m k s i t (aN + 1)) = apF (apF pre4 (faA m k s i t aN)) (faO m k s i t a m.outs.toNat) := by rw [faA, apF_app, haZ]
 rw [← haZ]
 have hlenA := faA_len hv k s i t aN
 have hplA : (apF pre4 (faA m k s i t aN)).length ≤ 16777216 * 1004 := by rw [apF_len]; omega
 generalize apF pre4 (faA m k s i t aN) = pre5 at hnA hplA ⊢
 clear hlenA
 refine EvC.skip ?_
 refine EvC.seq ?_
 refine EvC.block ?_
 refine EvC.a ?_
 refine EvC.block ?_
 refine EvC.loopS (σ := Nat) (fun n => ⟨[(1, .sl kn (ks.map intC) kc), (2, .ia m.cells), (5, .tl 0 (apF pre5 (faO m k s i t a n)).length (apF pre5 (faO m k s i t a n)).isEmpty), (6, .sc (.int .i64 kZ)), (7, .sc (.int .i64 s)), (8, .sc (.int .i64 i)), (9, .sc (.int .i64 t)), (10, .sc (.int .i64 a)), (11, .sc (.int .i64 n))], [], [(0, .arr 6 ((apF pre5 (faO m k s i t a n)).map FA.cells) true)], 1⟩) (fun n => m.outs.toNat - n) (fun n => n ≤ m.outs.toNat) [1, 2, 5, 6, 7, 8, 9, 10, 11] 1 ?_ ?_
 ·exact ⟨[(0, 0)], 0, rfl, (by rw [show faO m k s i t a 0 = [] from rfl, apF_nil]; simp only [go_sem, Int.natCast_zero] <;> rfl), Nat.zero_le _⟩
 intro oN hoN
 refine EvC.seq ?_
 refine EvC.a ?_ (by simp only [go_sem, Mach.cells, List.length_map] <;> rfl)
 refine EvC.cond (by simp only [go_sem] <;> rfl) (fun hc => ?_) (fun hc => ?_)
 rotate_left
 ·
  refine EvC.exit ?_
  obtain rfl : oN = m.outs.toNat := by have : ¬ (oN : Int) < m.outs := (by simpa using hc); omega
  clear hc
  refine EvC.b ?_ (hok := by exact inI64_of (by omega) (by omega))
  exact ⟨[(0, 0)], aN + 1, rfl, (by rw [hnA]; simp only [go_sem, Int.natCast_add, Int.natCast_one, haZ] <;> rfl), haNl, by omega⟩
 have hoNl : oN + 1 ≤ m.outs.toNat := by have : (oN : Int) < m.outs := (by simpa using hc); omega
 clear hc
 have hlenO := faO_len m k s i t a oN
 have hplO : (apF pre5 (faO m k s i t a oN)).length ≤ 16777216 * 1005 := by rw [apF_len]; omega
 have q := is40_is hv ⟨k, s, i, t, a, oN⟩
 have hnO : apF pre5 (faO m k s i t a (oN + 1)) = apF (apF pre5 (faO m k s i t a oN)) (if faultB m ⟨k, s, i, t, a, oN⟩ = true then [⟨k, s, i, t, a, oN⟩] else []) := by rw [faO, apF_app]
 generalize apF pre5 (faO m k s i t a oN) = L at hnO hplO ⊢
 refine EvC.skip ?_
 refine EvC.seq ?_
 refine EvC.block ?_
 refine EvC.a ?_ (by simp only [go_sem, he, hin, intC] <;> rfl) (by simp; try omega)
 cases hF : faultB m ⟨k, s, i, t, a, oN⟩ with
 | false =>
   rw [hF] at q hnO
   rw [if_neg (by simp), apF_nil] at hnO
   refine EvC.k1 ?_ (h1 := by simp only [go_sem, Mach.cells, FA.cells] <;> rfl) (c1 := .ca q)
   refine EvC.cs ?_
   refine EvC.b ?_ (hok := by exact inI64_of (by omega) (by omega))
   exact ⟨[(0, 0)], oN + 1, rfl, (by rw [hnO]; simp only [go_sem, Int.natCast_add, Int.natCast_one] <;> rfl), hoNl, by omega⟩
 | true =>
   rw [hF] at q hnO
   rw [if_pos rfl] at hnO
   have hnO : apF pre5 (faO m k s i t a (oN + 1)) = L ++ [(⟨k, s, i, t, a, oN⟩ : FA)] := hnO
   refine EvC.k1 ?_ (h1 := by simp only [go_sem, Mach.cells, FA.cells] <;> rfl) (c1 := .ca q)
   refine EvC.ct ?_
   have hsn : L.map FA.cells ++ [[.sc (.int .i64 k), .sc (.int .i64 s), .sc (.int .i64 i), .sc (.int .i64 t), .sc (.int .i64 a), .sc (.int .i64 (oN : Int))]] = (L ++ [(⟨k, s, i, t, a, oN⟩ : FA)]).map FA.cells := by simp [FA.cells]
   have hsl : L.length + 1 = (L ++ [(⟨k, s, i, t, a, oN⟩ : FA)]).length := by simp
   have hse : (L ++ [(⟨k, s, i, t, a, oN⟩ : FA)]).isEmpty = false := by simp
   have hr2 : room (L.length + 1) 48 = true := by simp only [room_eq, decide_eq_true_eq]; omega
   rw [hsl] at hr2
   rw [← hnO] at hsn hsl hse hr2
   generalize hT' : apF pre5 (faO m k s i t a (oN + 1)) = T' at hsn hsl hse hr2
   refine EvC.b ?_ (by simp only [go_sem, hsn, hsl, List.length_map] <;> rfl) (by simp [hr2])
   refine EvC.b ?_ (hok := by exact inI64_of (by omega) (by omega))
   exact ⟨[(0, 0)], oN + 1, rfl, (by rw [hT']; simp only [go_sem, hse, Int.natCast_add, Int.natCast_one] <;> rfl), hoNl, by omega⟩
def u8C (x : Int) : List AV := [.sc (.int .u8 x)]
@[go_sem] theorem norefs_u8 (l : List Int) : (l.map u8C).all AV.norefs = true := by simp [List.all_eq_true, u8C, AV.norefs, AV.noref]
theorem LM.valid {x : LM} (h : x.Ok) : Valid x.mach := by
 obtain ⟨b1, b2, b3, b4, b5, b6, -, -⟩ := LM.bounds h
 have hl : x.mach.rows.length = x.n := by simp [LM.mach]
 refine ⟨⟨by show (1 : Int) ≤ x.i; omega, by show (x.i : Int) ≤ 16; omega⟩, ⟨b5, by show x.o ≤ 16; omega⟩, by rw [hl]; omega, fun r hr => ?_⟩
 rw [hl]
 simp only [LM.mach, List.mem_map, List.mem_range] at hr ⊢
 obtain ⟨s, hs, rfl⟩ := hr
 refine ⟨by simp [LM.row], fun e he => ?_⟩
 simp only [LM.row, List.mem_map, List.mem_range] at he
 obtain ⟨i, hi, rfl⟩ := he
 obtain ⟨v1, v2⟩ := LM.v_ok h s i
 unfold LM.edge
 split
 ·simp [fitsR]
 ·have h1 := Int.emod_nonneg (x.v s i / 4) (b := x.n) (by omega)
  have h2 := Int.emod_lt_of_pos (x.v s i / 4) (b := x.n) (by omega)
  have h3 := Int.emod_nonneg (x.v s i / 4 / x.n) (b := x.o) (by omega)
  have h4 := Int.emod_lt_of_pos (x.v s i / 4 / x.n) (b := x.o) (by omega)
  simp [fitsR, h1, h2, h3, h4]
def wbR (x : Bool × List Int) : List AV := [.sl x.1 (x.2.map u8C) .unk]
def boolC (b : Bool) : List AV := [.sc (.bool b)]
@[go_sem] theorem norefs_bool (l : List Bool) : (l.map boolC).all AV.norefs = true := by simp [List.all_eq_true, boolC, AV.norefs, AV.noref]
def ex (xs : List (Int × Int)) (a : Nat) : Int × Int := xs[a]?.getD (-1, -1)
theorem faO_mem {m : Mach} {k s i t a : Int} {f : FA} : ∀ {n}, f ∈ faO m k s i t a n → faultB m f = true
 | n + 1, h => by
   rw [faO] at h
   rcases List.mem_append.1 h with h | h
   ·exact faO_mem h
   ·split at h
    ·rename_i hf; rw [List.mem_singleton.1 h]; exact hf
    ·cases h
theorem faA_mem {m : Mach} {k s i t : Int} {f : FA} : ∀ {n}, f ∈ faA m k s i t n → faultB m f = true
 | n + 1, h => by
   rw [faA] at h
   rcases List.mem_append.1 h with h | h
   ·exact faA_mem h
   ·exact faO_mem h
theorem faT_mem {m : Mach} {k s i : Int} {f : FA} : ∀ {n}, f ∈ faT m k s i n → faultB m f = true
 | n + 1, h => by
   rw [faT] at h
   rcases List.mem_append.1 h with h | h
   ·exact faT_mem h
   ·exact faA_mem h
theorem faI_mem {m : Mach} {k s : Int} {f : FA} : ∀ {n}, f ∈ faI m k s n → faultB m f = true
 | n + 1, h => by
   rw [faI] at h
   rcases List.mem_append.1 h with h | h
   ·exact faI_mem h
   ·exact faT_mem h
theorem faS_mem {m : Mach} {k : Int} {f : FA} : ∀ {n}, f ∈ faS m k n → faultB m f = true
 | n + 1, h => by
   rw [faS] at h
   rcases List.mem_append.1 h with h | h
   ·exact faS_mem h
   ·exact faI_mem h
theorem faK_mem {m : Mach} {ks : List Int} {f : FA} : ∀ {n}, f ∈ faK m ks n → faultB m f = true
 | n + 1, h => by
   rw [faK] at h
   rcases List.mem_append.1 h with h | h
   ·exact faK_mem h
   ·exact faS_mem h
def allK : List Int := [0, 1, 2, 3, 4]
set_option maxHeartbeats 8000000 in
theorem apply55_is {m : Mach} (hv : Valid m) (f : FA) (hf : faultB m f = true) : PureIs prog 43 [.ag m.cells, .ag f.cells] (.ag (mutF m f).cells) := by
 have hfb := hf
 obtain ⟨kd, s, i, t, a, o⟩ := f
 unfold faultB at hfb
 simp only [Bool.and_eq_true] at hfb
 obtain ⟨hp, hd, hkb⟩ := hfb
 obtain ⟨r, h1, h2, he⟩ := step_in hv hd
 obtain ⟨b1, b2, _⟩ := definedB_iff.1 hd
 have hkd := plainB_kind hp
 simp only at hkd
 obtain ⟨S, hS⟩ : ∃ S : Nat, S = s.toNat := ⟨_, rfl⟩
 have hSl : S < m.rows.length := by omega
 rw [← hS] at h1
 have hn1 := hv.rows
 have hrl := (hv.row _ (List.mem_of_getElem? h1)).1
 have hi1 := hv.ins
 refine PureIs.of1 9 [18, 30, 44, 45, 50, 55, 58, 70, 77] func43 ntmps43 results43 fun _ => ?_
 refine EvC.a ?_ (by simp only [go_sem, Mach.cells, FA.cells] <;> rfl)
 refine EvC.z 0 ?_
 refine EvC.z 1 ?_
 refine EvC.a ?_
 refine EvC.ownC 8 2 1 (by simp only [go_sem] <;> rfl) ?_
 refine EvC.thaw 10 (by simp only [go_sem] <;> rfl) ?_
 refine EvC.seq ?_
 refine EvC.a ?_
 refine EvC.block ?_
 obtain ⟨n, hn⟩ : ∃ n, n = r.2.length := ⟨_, rfl⟩
 have hn0 : n ≠ 0 := by omega
 obtain ⟨memK, hmK⟩ : ∃ memK : Nat → Mem, memK = fun k => (0, RObj.cells [.sc (.int .i64 0), .sc (.int .i64 0), .sl true [] .zer]) :: (1, .cells [.sc (.int .i64 m.ins), .sc (.int .i64 m.outs), .tl 2 k (decide (k = 0))]) :: (2, .arr 1 (rowsK m k S (.tl 3 n false)) false) :: (if S < k then [(3, .arr 2 (r.2.map edgeC) false)] else []) := ⟨_, rfl⟩
 have hlo : ∀ k, k ≤ S → memK k = [(0, RObj.cells [.sc (.int .i64 0), .sc (.int .i64 0), .sl true [] .zer]), (1, .cells [.sc (.int .i64 m.ins), .sc (.int .i64 m.outs), .tl 2 k (decide (k = 0))]), (2, .arr 1 (((m.rows.take k).map fun r => ((false, r.2) : Row)).map rowC) false)] := fun k hk => by
  rw [hmK]
  simp only
  rw [if_neg (by omega), rowsK, List.set_eq_of_length_le (by simp; omega)]
 have hhi : ∀ k, S < k → memK k = [(0, RObj.cells [.sc (.int .i64 0), .sc (.int .i64 0), .sl true [] .zer]), (1, .cells [.sc (.int .i64 m.ins), .sc (.int .i64 m.outs), .tl 2 k (decide (k = 0))]), (2, .arr 1 (rowsK m k S (.tl 3 n false)) false), (3, .arr 2 (r.2.map edgeC) false)] := fun k hk => by
  rw [hmK]
  simp only
  rw [if_pos hk]
 refine EvC.loopS (σ := Nat) (fun k => ⟨[(2, .ia [.sc (.int .i64 m.ins), .sc (.int .i64 m.outs), .sl m.nl (m.rows.map rowC) .unk]), (3, .ia [.sc (.int .i64 kd), .sc (.int .i64 s), .sc (.int .i64 i), .sc (.int .i64 t), .sc (.int .i64 a), .sc (.int .i64 o)]), (4, .rf 0 0), (5, .rf 1 0), (6, .sc (.int .i64 k))], [], memK k, 4⟩) (fun k => m.rows.length - k) (fun k => k ≤ m.rows.length) [2, 3, 4, 5, 6] 4 ?_ ?_
 ·exact ⟨[(2, 0), (8, 1), (10, 2)], 0, rfl, (by rw [hlo 0 (by omega)]; simp only [go_sem, Int.natCast_zero, List.take_zero, List.map_nil] <;> rfl), Nat.zero_le _⟩
 intro k hk1
 by_cases hkl : k < m.rows.length
 rotate_left
 ·
  obtain rfl : k = m.rows.length := by omega
  rw [hhi m.rows.length hSl]
  have dk : decide ((m.rows.length : Int) < m.rows.length) = false := decide_eq_false (by omega)
  refine EvC.seq ?_
  refine EvC.a ?_ (by simp only [go_sem, List.length_map] <;> rfl)
  refine EvC.cf ?_ (by simp only [go_sem, dk] <;> rfl)
  refine EvC.exit ?_
  have hNd : decide (m.rows.length = 0) = false := decide_eq_false (by omega)
  have hg := rowsK_get (v := .tl 3 n false) hSl (Nat.le_refl m.rows.length)
  have hRl := rowsK_len (S := S) (v := .tl 3 n false) (Nat.le_refl m.rows.length)
  have hel : (r.2.map edgeC).length = n := by rw [List.length_map]; exact hn.symm
  have hin : i.toNat < n := by omega
  rw [hNd]
  refine EvC.d mixed ?_ (h := by simp only [go_sem, h1, h2, ← hS, rowC, edgeC, List.length_map] <;> rfl) (hok := by simp; try omega)
  have hrowAt : rowAt m s = r.2 := by unfold rowAt; rw [← hS, h1]; rfl
  generalize hE : stepM m s i = e at *
  refine EvC.mergeC (α := (Int × Int) × List (List AV)) (fun p => ⟨[(3, .ia [.sc (.int .i64 kd), .sc (.int .i64 s), .sc (.int .i64 i), .sc (.int .i64 t), .sc (.int .i64 a), .sc (.int .i64 o)]), (4, .rf 0 0), (5, .rf 1 0), (7, .rf 4 0)], [], [(0, .cells [.sc (.int .i64 0), .sc (.int .i64 0), .sl true [] .zer]), (1, .cells [.sc (.int .i64 m.ins), .sc (.int .i64 m.outs), .tl 2 (m.rows.length + p.2.length) false]), (2, .arr 1 (rowsK m m.rows.length S (.tl 3 n false) ++ p.2) false), (3, .arr 2 (r.2.map edgeC) false), (4, .cells [.sc (.int .i64 p.1.1), .sc (.int .i64 p.1.2)])], 5⟩)
   (fun p => p.2.all AV.norefs = true ∧ (∀ c ∈ p.2, c.length = 1) ∧ rowsK m m.rows.length S (.sl false ((r.2.set i.toNat p.1).map edgeC) .unk) ++ p.2 = (mutRows m ⟨kd, s, i, t, a, o⟩).map rowC) ?_ ?_
  rotate_left
  ·
   rintro ⟨e', ex⟩ ⟨hex1, hex2, hraw⟩
   simp only at hex1 hex2 hraw ⊢
   have hRe : (rowsK m m.rows.length S (.tl 3 n false) ++ ex).length = m.rows.length + ex.length := by rw [List.length_append, hRl]
   have hge : (rowsK m m.rows.length S (.tl 3 n false) ++ ex)[S]? = some [.tl 3 n false] := by rw [List.getElem?_append_left (by rw [hRl]; exact hSl)]; exact hg
   have hse : ∀ v, (rowsK m m.rows.length S (.tl 3 n false) ++ ex).set S [v] = rowsK m m.rows.length S v ++ ex := fun v => by
    rw [List.set_append_left _ _ (by rw [hRl]; exact hSl)]
    unfold rowsK
    rw [List.set_set]
   obtain ⟨RR, hRR⟩ : ∃ RR, RR = rowsK m m.rows.length S (.sl false ((r.2.set i.toNat e').map edgeC) .unk) ++ ex := ⟨_, rfl⟩
   have hse1 := hse (.sl false ((r.2.set i.toNat e').map edgeC) .unk)
   rw [← hRR] at hse1 hraw
   generalize rowsK m m.rows.length S (.tl 3 n false) ++ ex = RW at hRe hge hse1
   have hgE : (r.2.map edgeC)[i.toNat]? = some (edgeC e) := by rw [List.getElem?_map, h2]; rfl
   have hsE : ∀ x y : Int, (r.2.map edgeC).set i.toNat [.sc (.int .i64 x), .sc (.int .i64 y)] = (r.2.set i.toNat (x, y)).map edgeC := fun x y => by rw [List.map_set]; rfl
   have hset2 : ((r.2.set i.toNat e').map edgeC).length = n := by rw [List.length_map, List.length_set]; exact hn.symm
   have hmr : (mutRows m ⟨kd, s, i, t, a, o⟩).map rowC = RR := hraw.symm
   have hRR2 : RR.length = m.rows.length + ex.length := by rw [hRR, List.length_append, rowsK_len (Nat.le_refl _)]
   refine EvC.d mixed ?_ (h := by simp only [go_sem, hge, hRe, ← hS, hgE, hsE, edgeC, hel] <;> rfl) (hok := by simp; try omega)
   refine EvC.frz 3 (by simp only [go_sem, hset2] <;> rfl) ?_
   refine EvC.snapE 2 S (by simp only [go_sem, hge, hRe, hse1, hset2] <;> rfl) ?_
   have hRRn : RR.all AV.norefs = true := by
    rw [← hmr]
    simp only [List.all_eq_true]
    intro c hc
    obtain ⟨r, _, rfl⟩ := List.mem_map.1 hc
    exact rowC_norefs r
   have hRR1 : ∀ c ∈ RR, c.length = 1 := by
    rw [← hmr]
    intro c hc
    obtain ⟨r, _, rfl⟩ := List.mem_map.1 hc
    rfl
   have hmc : (mutF m ⟨kd, s, i, t, a, o⟩).cells = [.sc (.int .i64 m.ins), .sc (.int .i64 m.outs), .sl false RR .unk] := by rw [← hmr]; rfl
   rw [hmc]
   clear hse1 hRR hraw hmr hmc
   refine EvC.frzD 2 (by simp only [go_sem, hRRn, hRR2] <;> rfl) ?_
   refine EvC.a ?_ (by simp only [go_sem, hRRn, hRR2] <;> rfl)
   refine EvC.ret ⟨.inl rfl, _, (by simp only [go_sem, hRRn, hRR2] <;> rfl), ?_, by simp [AV.noref, AV.norefs, hRRn]⟩
   simp only [go_sem, hRRn]
  ·
   have hnr : (rowsK m m.rows.length S (.tl 3 n false)).all AV.norefs = false := rowsK_norefs hSl (Nat.le_refl _) rfl
   have hrn := rowsK_ren m m.rows.length S (.tl 3 n false) [(0, 0), (1, 1), (2, 2), (3, 3), (19, 4)]
   have hraw : ∀ e' : Int × Int, rowsK m m.rows.length S (.sl false ((r.2.set i.toNat e').map edgeC) .unk) = (putR m s i e').map rowC := fun e' => by
    unfold rowsK putR copyR
    rw [List.take_length, ← hS, hrowAt]
    show (((m.rows.map fun r => ((false, r.2) : Row)).map rowC).set S (rowC (false, r.2.set i.toNat e'))) = _
    exact List.map_set.symm
   refine EvC.a ?_
   refine EvC.block ?_
   rcases hkd with rfl | rfl | rfl | rfl | rfl
   ·
    refine EvC.a ?_
    refine EvC.ct ?_
    refine EvC.b ?_
    refine ⟨rfl, ((e.1, o), []), ⟨rfl, (fun _ h => by cases h), ?_⟩, fun c Q h => ?_⟩
    ·rw [List.append_nil, hraw, mutRows, if_pos rfl, hE]
    refine EvC.gcE [3, 4, 5, 7] [(0, 0), (1, 1), (2, 2), (3, 3), (19, 4)] 5 rfl (by simp only [go_sem, hnr, hrn, Bool.and_false, List.append_nil, List.length_nil] <;> rfl) h
   ·
    refine EvC.a ?_
    refine EvC.cf ?_
    refine EvC.a ?_
    refine EvC.ct ?_
    refine EvC.b ?_
    refine ⟨rfl, ((t, e.2), []), ⟨rfl, (fun _ h => by cases h), ?_⟩, fun c Q h => ?_⟩
    ·rw [List.append_nil, hraw, mutRows, if_neg (show ¬ (1 : Int) = 0 by decide), if_pos (show (1 : Int) = 1 from rfl), hE]
    refine EvC.gcE [3, 4, 5, 7] [(0, 0), (1, 1), (2, 2), (3, 3), (19, 4)] 5 rfl (by simp only [go_sem, hnr, hrn, Bool.and_false, List.append_nil, List.length_nil] <;> rfl) h
   ·
    refine EvC.a ?_
    refine EvC.cf ?_
    refine EvC.a ?_
    refine EvC.cf ?_
    refine EvC.a ?_
    refine EvC.ct ?_
    refine EvC.b ?_
    refine ⟨rfl, ((-1, -1), []), ⟨rfl, (fun _ h => by cases h), ?_⟩, fun c Q h => ?_⟩
    ·rw [List.append_nil, hraw, mutRows, if_neg (show ¬ (2 : Int) = 0 by decide), if_neg (show ¬ (2 : Int) = 1 by decide), if_pos (show (2 : Int) = 2 from rfl)]
    refine EvC.gcE [3, 4, 5, 7] [(0, 0), (1, 1), (2, 2), (3, 3), (19, 4)] 5 rfl (by simp only [go_sem, hnr, hrn, Bool.and_false, List.append_nil, List.length_nil] <;> rfl) h
   ·
    have htn : 0 ≤ t ∧ t < m.rows.length := by
     unfold kindB at hkb
     rw [if_neg (show ¬ (3 : Int) = 0 by decide), if_neg (show ¬ (3 : Int) = 1 by decide), if_neg (show ¬ (3 : Int) = 2 by decide), if_pos (show (3 : Int) = 3 from rfl)] at hkb
     simpa [inN] using hkb
    have h5 : m.rows[t.toNat]? = some (m.rows[t.toNat]'(by omega)) := List.getElem?_eq_getElem (by omega)
    have h5m := List.getElem_mem (show t.toNat < m.rows.length by omega)
    have h5r := (hv.row _ h5m).1
    have hrt : rowAt m t = (m.rows[t.toNat]'(by omega)).2 := by unfold rowAt; rw [h5]; rfl
    generalize m.rows[t.toNat]'(by omega) = r5 at h5 h5r hrt
    obtain ⟨b5, e5⟩ := r5
    simp only at h5r hrt
    have hr8 : room (m.rows.length + 1) 24 = true := by simp only [room_eq, decide_eq_true_eq]; omega
    have hr16 : room e5.length 16 = true := by simp only [room_eq, decide_eq_true_eq]; omega
    have hl2 : ∀ x : Int × Int, (edgeC x).length = 2 := fun _ => rfl
    have hel5 : (e5.map edgeC).length = e5.length := List.length_map _
    refine EvC.a ?_
    refine EvC.cf ?_
    refine EvC.a ?_
    refine EvC.cf ?_
    refine EvC.a ?_
    refine EvC.cf ?_
    refine EvC.a ?_
    refine EvC.ct ?_
    refine EvC.d mixed ?_ (h := by simp only [go_sem, h5, rowC, hel5, hRl] <;> rfl) (hok := by simp [hr8, hr16, hl2]; try omega)
    refine EvC.frz 40 (by simp only [go_sem, hel5] <;> rfl) ?_
    have hgl : (rowsK m m.rows.length S (.tl 3 n false) ++ [[AV.tl 40 e5.length false]])[m.rows.length]? = some [AV.tl 40 e5.length false] := by rw [List.getElem?_append_right (by omega), hRl, Nat.sub_self]; rfl
    have hsl : ∀ v, (rowsK m m.rows.length S (.tl 3 n false) ++ [[v]]).set m.rows.length [.sl false (e5.map edgeC) .unk] = rowsK m m.rows.length S (.tl 3 n false) ++ [[.sl false (e5.map edgeC) .unk]] := fun v => by rw [List.set_append_right _ _ (by omega), hRl, Nat.sub_self]; rfl
    refine EvC.snapE 2 m.rows.length (by simp only [go_sem, hgl, hsl, hel5, hRl] <;> rfl) ?_
    refine EvC.b ?_ (by simp only [go_sem, List.length_map] <;> rfl)
    have hex1 : ([[.sl false (e5.map edgeC) .unk]] : List (List AV)).all AV.norefs = true := by simp [AV.norefs, AV.noref, norefs_edges]
    have hex3 : ([[.sl false (e5.map edgeC) .unk]] : List (List AV)).map (fun c => c.map (AV.ren [(0, 0), (1, 1), (2, 2), (3, 3), (19, 4)])) = [[.sl false (e5.map edgeC) .unk]] := by simp [AV.ren, AV.noref, norefs_edges]
    have hXr : ([[.sl false (e5.map edgeC) .unk]] : List (List AV)) = [(false, e5)].map rowC := rfl
    generalize hXX : ([[.sl false (e5.map edgeC) .unk]] : List (List AV)) = XX at hex1 hex3 hXr ⊢
    have hXl : XX.length = 1 := by rw [← hXX]; rfl
    refine ⟨rfl, (((m.rows.length : Int), e.2), XX), ⟨hex1, (fun c hc => by subst hXX; simp only [List.mem_singleton] at hc; rw [hc]; rfl), ?_⟩, fun c Q h => ?_⟩
    ·rw [hraw, mutRows, if_neg (show ¬ (3 : Int) = 0 by decide), if_neg (show ¬ (3 : Int) = 1 by decide), if_neg (show ¬ (3 : Int) = 2 by decide), if_pos (show (3 : Int) = 3 from rfl), hE, hrt, hXr, ← List.map_append]
    simp only [hXl] at h
    refine EvC.gcE [3, 4, 5, 7] [(0, 0), (1, 1), (2, 2), (3, 3), (19, 4)] 5 rfl (by simp only [go_sem, hnr, hrn, List.all_append, Bool.false_and, hex1, hex3, List.map_append] <;> rfl) h
   ·
    have hd2 : definedB m e.1 a = true := by
     unfold kindB at hkb
     rw [if_neg (show ¬ (4 : Int) = 0 by decide), if_neg (show ¬ (4 : Int) = 1 by decide), if_neg (show ¬ (4 : Int) = 2 by decide), if_neg (show ¬ (4 : Int) = 3 by decide)] at hkb
     simp only [Bool.and_eq_true] at hkb
     rw [hE] at hkb
     exact hkb.2.1
    obtain ⟨r5, h5, h5i, _⟩ := step_in hv hd2
    obtain ⟨c1, c2, _⟩ := definedB_iff.1 hd2
    have h5m := List.mem_of_getElem? h5
    have h5r := (hv.row _ h5m).1
    have hrt : rowAt m e.1 = r5.2 := by unfold rowAt; rw [h5]; rfl
    obtain ⟨b5, e5⟩ := r5
    simp only at h5r hrt h5i
    have hr8 : room (m.rows.length + 1) 24 = true := by simp only [room_eq, decide_eq_true_eq]; omega
    have hr16 : room e5.length 16 = true := by simp only [room_eq, decide_eq_true_eq]; omega
    have hl2 : ∀ x : Int × Int, (edgeC x).length = 2 := fun _ => rfl
    have hel5 : (e5.map edgeC).length = e5.length := List.length_map _
    have h5g : (e5.map edgeC)[a.toNat]? = some (edgeC (stepM m e.1 a)) := by rw [List.getElem?_map, h5i]; rfl
    have h5s : ∀ x y : Int, (e5.map edgeC).set a.toNat [.sc (.int .i64 x), .sc (.int .i64 y)] = (e5.set a.toNat (x, y)).map edgeC := fun x y => by rw [List.map_set]; rfl
    have h5l : (e5.set a.toNat ((stepM m e.1 a).1, o)).length = e5.length := List.length_set
    refine EvC.a ?_
    refine EvC.cf ?_
    refine EvC.a ?_
    refine EvC.cf ?_
    refine EvC.a ?_
    refine EvC.cf ?_
    refine EvC.a ?_
    refine EvC.cf ?_
    refine EvC.a ?_
    refine EvC.ct ?_
    refine EvC.a ?_ (by simp only [go_sem, h5, rowC, hel5, hRl] <;> rfl) (by simp [hr8, hr16, hl2]; try omega)
    refine EvC.a ?_ (by simp only [go_sem, h5g, h5s, edgeC, hel5] <;> rfl) (by simp; try omega)
    refine EvC.frz 40 (by simp only [go_sem, List.length_map, h5l] <;> rfl) ?_
    refine EvC.a ?_ (by simp only [go_sem, hRl, hr8] <;> rfl)
    refine EvC.b ?_ (by simp only [go_sem, List.length_map] <;> rfl)
    obtain ⟨E5, hE5⟩ : ∃ E5, E5 = e5.set a.toNat ((stepM m e.1 a).1, o) := ⟨_, rfl⟩
    rw [← hE5]
    have hex1 : ([[.sl false (E5.map edgeC) .unk]] : List (List AV)).all AV.norefs = true := by simp [AV.norefs, AV.noref, norefs_edges]
    have hex3 : ([[.sl false (E5.map edgeC) .unk]] : List (List AV)).map (fun c => c.map (AV.ren [(0, 0), (1, 1), (2, 2), (3, 3), (19, 4)])) = [[.sl false (E5.map edgeC) .unk]] := by simp [AV.ren, AV.noref, norefs_edges]
    have hXr : ([[.sl false (E5.map edgeC) .unk]] : List (List AV)) = [(false, E5)].map rowC := rfl
    generalize hXX : ([[.sl false (E5.map edgeC) .unk]] : List (List AV)) = XX at hex1 hex3 hXr ⊢
    have hXl : XX.length = 1 := by rw [← hXX]; rfl
    refine ⟨rfl, (((m.rows.length : Int), e.2), XX), ⟨hex1, (fun c hc => by subst hXX; simp only [List.mem_singleton] at hc; rw [hc]; rfl), ?_⟩, fun c Q h => ?_⟩
    ·rw [hraw, mutRows, if_neg (show ¬ (4 : Int) = 0 by decide), if_neg (show ¬ (4 : Int) = 1 by decide), if_neg (show ¬ (4 : Int) = 2 by decide), if_neg (show ¬ (4 : Int) = 3 by decide), hE, hrt, hXr, ← List.map_append, hE5]
    simp only [hXl] at h
    refine EvC.gcE [3, 4, 5, 7] [(0, 0), (1, 1), (2, 2), (3, 3), (19, 4)] 5 rfl (by simp only [go_sem, hnr, hrn, List.all_append, Bool.false_and, hex1, hex3, List.map_append] <;> rfl) h
 have dk : decide ((k : Int) < m.rows.length) = true := decide_eq_true (by omega)
 have hk : m.rows[k]? = some (m.rows[k]'hkl) := List.getElem?_eq_getElem hkl
 have hkm := List.getElem_mem hkl
 have hkr := (hv.row _ hkm).1
 generalize m.rows[k]'hkl = rk at hk hkr
 obtain ⟨bk, es⟩ := rk
 simp only at hkr
 have hin : (k : Int).toNat = k := Int.toNat_natCast k
 have hr8 : room (k + 1) 24 = true := by simp only [room_eq, decide_eq_true_eq]; omega
 have hr16 : room es.length 16 = true := by simp only [room_eq, decide_eq_true_eq]; omega
 have hk1d : decide (k + 1 = 0) = false := decide_eq_false (by omega)
 have hel : (es.map edgeC).length = es.length := List.length_map _
 have hkk : k + 1 ≤ m.rows.length := hkl
 have hRl : (((m.rows.take k).map fun r => ((false, r.2) : Row)).map rowC).length = k := by simp; omega
 by_cases hkS : k = S
 ·subst hkS
  have hre : r = (bk, es) := by rw [hk] at h1; exact (Option.some.inj h1).symm
  subst hre
  have hl0 : rowsK m k k (.tl 3 n false) = ((m.rows.take k).map fun r => ((false, r.2) : Row)).map rowC := by rw [rowsK, List.set_eq_of_length_le (by simp; omega)]
  rw [hlo k (by omega)]
  refine EvC.seq ?_
  refine EvC.a ?_ (by simp only [go_sem, List.length_map] <;> rfl)
  refine EvC.cr ?_ (by simp only [go_sem, dk] <;> rfl)
  refine EvC.seq ?_
  refine EvC.block ?_
  have hl2 : ∀ x : Int × Int, (edgeC x).length = 2 := fun _ => rfl
  have hnl : n = es.length := hn
  have hsn := rowsK_self (m := m) (S := k) (v := .tl 17 n false) (w := .tl 3 n false) hk
  rw [hl0] at hsn
  have hRl4 : (rowsK m (k + 1) k (.tl 17 n false)).length = k + 1 := rowsK_len (by omega)
  refine EvC.dL mixed ?_ (h := by simp only [go_sem, hk, hin, rowC, hel, hRl, ← hnl, hsn, hRl4] <;> rfl) (hok := by simp [hr8, hnl, hr16, hl2])
  have hnr : (rowsK m (k + 1) k (.tl 17 n false)).all AV.norefs = false := rowsK_norefs (by omega) hkk rfl
  have hrn := rowsK_ren m (k + 1) k (.tl 17 n false) [(0, 0), (1, 1), (2, 2), (17, 3)]
  refine EvC.b ?_ (hok := by exact inI64_of (by omega) (by omega))
  exact ⟨[(0, 0), (1, 1), (2, 2), (17, 3)], k + 1, rfl, (by rw [hhi (k + 1) (by omega)]; simp only [go_sem, hnr, hrn, hk1d, Bool.and_false, Int.natCast_add, Int.natCast_one] <;> rfl), hkk, by omega⟩
 have hl2 : ∀ x : Int × Int, (edgeC x).length = 2 := fun _ => rfl
 have hsn := rowsK_other (v := .tl 3 n false) hk hkS
 simp only at hsn
 have hRl2 : (rowsK m k S (.tl 3 n false)).length = k := rowsK_len (by omega)
 have hRl3 : (rowsK m (k + 1) S (.tl 3 n false)).length = k + 1 := rowsK_len (by omega)
 rcases Nat.lt_or_ge k S with hlt | hge
 ·have hl0 : rowsK m k S (.tl 3 n false) = ((m.rows.take k).map fun r => ((false, r.2) : Row)).map rowC := by rw [rowsK, List.set_eq_of_length_le (by simp; omega)]
  have hl1 : rowsK m (k + 1) S (.tl 3 n false) = ((m.rows.take (k + 1)).map fun r => ((false, r.2) : Row)).map rowC := by rw [rowsK, List.set_eq_of_length_le (by simp; omega)]
  rw [hl0, hl1] at hsn
  have hsn : List.map rowC (List.map (fun r => (false, r.snd)) (List.take k m.rows)) ++ [[.sl false (es.map edgeC) .unk]] = List.map rowC (List.map (fun r => (false, r.snd)) (List.take (k + 1) m.rows)) := hsn
  rw [hlo k (by omega)]
  refine EvC.seq ?_
  refine EvC.a ?_ (by simp only [go_sem, List.length_map] <;> rfl)
  refine EvC.cr ?_ (by simp only [go_sem, dk] <;> rfl)
  refine EvC.seq ?_
  refine EvC.block ?_
  have hnr : (List.map rowC (List.map (fun r => ((false, r.snd) : Row)) (List.take (k + 1) m.rows))).all AV.norefs = true := by
   simp only [List.all_eq_true]
   intro c hc
   obtain ⟨r, _, rfl⟩ := List.mem_map.1 hc
   exact rowC_norefs r
  obtain ⟨R0, hR0⟩ : ∃ R0, R0 = List.map rowC (List.map (fun r => ((false, r.snd) : Row)) (List.take k m.rows)) := ⟨_, rfl⟩
  rw [← hR0] at hsn hRl ⊢
  refine EvC.dL mixed ?_ (h := by simp only [go_sem, hk, hin, rowC, hel, hRl] <;> rfl) (hok := by simp [hr8, hr16, hl2])
  refine EvC.frz 17 (by simp only [go_sem, hel] <;> rfl) ?_
  have hgl : (R0 ++ [[AV.tl 17 es.length false]])[k]? = some [AV.tl 17 es.length false] := by rw [List.getElem?_append_right (by omega), hRl, Nat.sub_self]; rfl
  have hsl : ∀ v, (R0 ++ [[v]]).set k [.sl false (es.map edgeC) .unk] = R0 ++ [[.sl false (es.map edgeC) .unk]] := fun v => by rw [List.set_append_right _ _ (by omega), hRl, Nat.sub_self]; rfl
  rw [hsn] at hsl
  have hRl1 : (List.map rowC (List.map (fun r => ((false, r.snd) : Row)) (List.take (k + 1) m.rows))).length = k + 1 := by simp; omega
  obtain ⟨R1, hR1⟩ : ∃ R1, R1 = List.map rowC (List.map (fun r => ((false, r.snd) : Row)) (List.take (k + 1) m.rows)) := ⟨_, rfl⟩
  rw [← hR1] at hsl hnr hRl1
  refine EvC.snapE 2 k (by simp only [go_sem, hgl, hsl, hel, hRl] <;> rfl) ?_
  refine EvC.b ?_ (hok := by exact inI64_of (by omega) (by omega))
  exact ⟨[(0, 0), (1, 1), (2, 2)], k + 1, rfl, (by rw [hlo (k + 1) (by omega), ← hR1]; simp only [go_sem, hnr, hk1d, Int.natCast_add, Int.natCast_one] <;> rfl), hkk, by omega⟩
 ·have hSk : S < k := by omega
  rw [hhi k hSk]
  refine EvC.seq ?_
  refine EvC.a ?_ (by simp only [go_sem, List.length_map] <;> rfl)
  refine EvC.cr ?_ (by simp only [go_sem, dk] <;> rfl)
  refine EvC.seq ?_
  refine EvC.block ?_
  have hk0d : decide (k = 0) = false := decide_eq_false (by omega)
  have hnr : (rowsK m (k + 1) S (.tl 3 n false)).all AV.norefs = false := rowsK_norefs (by omega) hkk rfl
  have hrn := rowsK_ren m (k + 1) S (.tl 3 n false) [(0, 0), (1, 1), (2, 2), (3, 3)]
  obtain ⟨R0, hR0⟩ : ∃ R0, R0 = rowsK m k S (.tl 3 n false) := ⟨_, rfl⟩
  rw [← hR0] at hsn hRl2 ⊢
  refine EvC.dL mixed ?_ (h := by simp only [go_sem, hk, hin, rowC, hel, hRl2] <;> rfl) (hok := by simp [hr8, hr16, hl2])
  refine EvC.frz 17 (by simp only [go_sem, hel] <;> rfl) ?_
  have hgl : (R0 ++ [[AV.tl 17 es.length false]])[k]? = some [AV.tl 17 es.length false] := by rw [List.getElem?_append_right (by omega), hRl2, Nat.sub_self]; rfl
  have hsl : ∀ v, (R0 ++ [[v]]).set k [.sl false (es.map edgeC) .unk] = R0 ++ [[.sl false (es.map edgeC) .unk]] := fun v => by rw [List.set_append_right _ _ (by omega), hRl2, Nat.sub_self]; rfl
  have hsn : R0 ++ [[.sl false (es.map edgeC) .unk]] = rowsK m (k + 1) S (.tl 3 n false) := hsn
  rw [hsn] at hsl
  refine EvC.snapE 2 k (by simp only [go_sem, hgl, hsl, hel, hRl2] <;> rfl) ?_
  refine EvC.b ?_ (hok := by exact inI64_of (by omega) (by omega))
  exact ⟨[(0, 0), (1, 1), (2, 2), (3, 3)], k + 1, rfl, (by rw [hhi (k + 1) (by omega)]; simp only [go_sem, hnr, hrn, hk1d, hRl3, Bool.and_false, Int.natCast_add, Int.natCast_one] <;> rfl), hkk, by omega⟩
def orR : List Int → Int
 | [] => 0
 | x :: xs => if x ≠ 0 then x else orR xs
theorem or_is (nl : Bool) (xs : List Int) (c : Cp) (hl : xs.length < 1000000) : PureIs prog 99 [.sl nl (xs.map intC) c] (.sc (.int .i64 (orR xs))) := by
 refine PureIs.of1 6 [6, 7, 8, 9, 14] func99 ntmps99 results99 fun _ => ?_
 refine EvC.seq (EvC.rg (by simp only [go_sem] <;> rfl) rfl ?_)
 refine EvC.seq (EvC.rg (by simp only [go_sem] <;> rfl) rfl ?_)
 refine EvC.seq ?_
 refine EvC.seq (EvC.rg (by simp only [go_sem] <;> rfl) rfl ?_)
 refine EvC.block (EvC.loopS (σ := Nat) (fun i => ⟨[(3, .sc (.int .i64 0)), (6, .sl nl (xs.map intC) c), (7, .sc (.int .i64 xs.length)), (8, .sc (.int .i64 i))], [], [], 0⟩) (fun i => xs.length - i) (fun i => i ≤ xs.length ∧ orR xs = orR (xs.drop i)) [3, 6, 7, 8] 0 ?_ ?_)
 ·refine ⟨[], 0, rfl, (by simp only [go_sem] <;> rfl), Nat.zero_le _, by simp⟩
 rintro i ⟨h1, h2⟩
 refine EvC.seq (EvC.rg (by simp only [go_sem] <;> rfl) rfl ?_)
 refine EvC.seq (EvC.cond (by simp only [go_sem] <;> rfl) (fun hc => ?_) (fun hc => ?_))
 ·refine EvC.skip ?_
  have hi : i < xs.length := by simpa using hc
  have he : xs[i]? = some xs[i] := List.getElem?_eq_getElem hi
  generalize xs[i] = e at he
  have hd : xs.drop i = e :: xs.drop (i + 1) := by
   rw [List.drop_eq_getElem_cons hi]; congr 1; rw [List.getElem?_eq_getElem hi] at he; simpa using he
  refine EvC.seq ?_
  refine EvC.block (EvC.seq (EvC.rg (by simp only [go_sem, he, intC] <;> rfl) (by simp) ?_))
  refine EvC.a ?_
  refine EvC.cond (by simp only [go_sem] <;> rfl) (fun hc1 => ?_) (fun hc1 => ?_)
  ·refine EvC.seq (EvC.rg (by simp only [go_sem] <;> rfl) rfl ?_)
   refine EvC.rz ?_
   simp only [go_sem]
   rw [h2, hd, orR, if_pos (by simpa using hc1)]
  refine EvC.skip ?_
  refine EvC.rg (by simp only [go_sem] <;> rfl) ?_ ?_
  ·exact inI64_of (by omega) (by omega)
  refine ⟨[], i + 1, rfl, (by simp only [go_sem] <;> rfl), ⟨by omega, ?_⟩, by omega⟩
  rw [h2, hd, orR, if_neg (by simpa using hc1)]
 ·refine EvC.exit ?_
  have hi : ¬ i < xs.length := by simpa using hc
  refine EvC.seq (EvC.rg (by simp only [go_sem] <;> rfl) rfl ?_)
  refine EvC.rz ?_
  simp only [go_sem]
  rw [h2, List.drop_of_length_le (by omega)]; rfl
def bothR (a b : Mach) : Int := if checkM a ≠ 0 then checkM a else if checkM b ≠ 0 then checkM b else if a.ins ≠ b.ins then 5 else 0
theorem both_is (a b : Mach) (ha : ∀ r ∈ a.rows, r.2.length < 1000000) (hb : ∀ r ∈ b.rows, r.2.length < 1000000) : PureIs prog 93 [.ag a.cells, .ag b.cells] (.sc (.int .i64 (bothR a b))) := by
 refine PureIs.of1 6 [20] func93 ntmps93 results93 fun _ => ?_
 refine EvC.seq (EvC.rg (by simp only [go_sem, Mach.cells] <;> rfl) rfl ?_)
 apply EvC.seq
 apply EvC.drw mixed
 ·apply Tr.run
  ·simp only [go_sem] <;> rfl
  ·simp
  apply Tr.cons
  ·exact .ca (check_is a ha)
  apply Tr.run
  ·simp only [go_sem] <;> rfl
  ·simp
  apply Tr.cons
  ·exact .ca (check_is b hb)
  apply Tr.run
  ·simp only [go_sem, List.set_cons_zero, List.set_cons_succ] <;> rfl
  ·simp
  apply Tr.cons
  ·exact .ca (or_is false [checkM a, checkM b] .full (by simp))
  apply Tr.done
  ·simp only [go_sem] <;> rfl
  ·simp
 ·kernel_rfl
 apply EvC.seq
 apply EvC.seq
 apply EvC.trd
 ·simp only [go_sem] <;> rfl
 ·simp
 have ho : orR [checkM a, checkM b] = if checkM a ≠ 0 then checkM a else checkM b := by
  unfold orR orR orR; by_cases h : checkM a = 0 <;> simp [h] <;> omega
 refine EvC.cond (by simp only [go_sem] <;> rfl) (fun hc => ?_) (fun hc => ?_)
 ·refine EvC.rg (by simp only [go_sem] <;> rfl) rfl ?_
  refine EvC.seq (EvC.rg (by simp only [go_sem] <;> rfl) rfl ?_)
  refine EvC.rz ?_
  simp only [go_sem]
  rw [ho] at hc
  have : bothR a b = 5 := by unfold bothR; grind
  rw [this]
 ·refine EvC.skip ?_
  refine EvC.seq (EvC.rg (by simp only [go_sem] <;> rfl) rfl ?_)
  refine EvC.rz ?_
  simp only [go_sem]
  rw [ho] at hc ⊢
  have : bothR a b = if checkM a ≠ 0 then checkM a else checkM b := by unfold bothR; grind
  rw [this]
end Go.Avl
