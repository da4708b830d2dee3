/-
  Lemmas.
  Lemmas.
  Lemmas.
  Lemmas.
  Lemmas.
  Lemmas.
  Lemmas.
  Lemmas.
  Lemmas.
  Lemmas.
  From a law's row to its contract: arguments opened, and read again behind the call.
  How the arguments of these laws read.
-/
import Derived.ProofKit
import Derived.OpenShut
import Derived.Test.YtnnmghgifhidgaaRows
import Derived.Test.YtnnmghgifhidgaaPart5
set_option linter.unusedSimpArgs false
set_option linter.unusedVariables false
set_option linter.unnecessarySimpa false
set_option linter.deprecated false
namespace Go.Avl
open Go Go.Proofs.Try
set_option maxRecDepth 10000
set_option linter.unusedSimpArgs false

theorem runJ_is {x : Timed} (hv : ValidT x) (nl : Bool) (es : List Evt) (cp : Cp) (hel : es.length ≤ 256) (hall : ∀ e ∈ es, 0 ≤ e.1 ∧ e.1 ≤ 1024 ∧ 0 ≤ e.2 ∧ e.2 < x.m.ins) :
    PureIs prog 13 [.ag x.cells, .sl nl (es.map edgeC) cp] (.sl (runJ x es 0 0 0 []).isEmpty ((runJ x es 0 0 0 []).map edgeC) .unk) := by
  refine PureIs.of (nv := 3) (hid := [4, 5, 6, 7, 8, 9, 10, 11, 15, 43, 94]) func13 rfl (by kernel_rfl) (by simp [ntmps13]) fun _ => ?_
  rw [ntmps13, results13]
  obtain ⟨T, hT⟩ : ∃ T, T = runJ x es 0 0 0 [] := ⟨_, rfl⟩
  rw [← hT]
  have hrows := hv.m.rows
  refine EvC.seq (EvC.rg (by (simp only [go_sem, Timed.cells]) <;> rfl) (by simp) ?_)  -- R0
  refine EvC.frzB 0 (by (simp only [go_sem]) <;> rfl) ?_
  refine EvC.seq (EvC.rg (by (simp only [go_sem]) <;> rfl) (by simp) ?_)  -- R1
  refine EvC.seq (EvC.rg (by (simp only [go_sem]) <;> rfl) (by simp) ?_)  -- R2
  refine EvC.seq ?_
  refine EvC.seq (EvC.rg (by (simp only [go_sem]) <;> rfl) (by simp) ?_)  -- R3
  refine EvC.block ?_  -- 0
  refine EvC.loopS (σ := Nat × Int × Int × Int × List Rep) (fun g => ⟨[(1, .sl nl (es.map edgeC) cp), (2, .ia x.cells), (5, .tl 0 g.2.2.2.2.length g.2.2.2.2.isEmpty), (6, .sc (.int .i64 g.2.1)), (7, .sc (.int .i64 g.2.2.1)), (8, .sc (.int .i64 g.2.2.2.1)), (9, .sc (.int .i64 g.1))], [],
      [(0, .arr 2 (g.2.2.2.2.map edgeC) true)], 1⟩) (fun g => es.length - g.1)
    (fun g => g.1 ≤ es.length ∧ 0 ≤ g.2.1 ∧ g.2.1 < x.m.rows.length ∧ g.2.2.1 ≤ g.2.2.2.1 ∧ 0 ≤ g.2.2.1 ∧ g.2.2.2.1 ≤ 1024 * g.1 ∧ (g.2.2.2.2.length : Int) ≤ g.2.2.1 + g.1 ∧ T = runJ x (es.drop g.1) g.2.1 g.2.2.1 g.2.2.2.1 g.2.2.2.2) [1, 2, 5, 6, 7, 8, 9] 1 ?_ ?_
  · refine ⟨[(2, 0)], (0, 0, 0, 0, []), rfl, (by (simp only [go_sem]) <;> rfl), Nat.zero_le _, by simp, by simp only; omega, by simp, by simp, by simp, by simp, hT⟩
  clear hT
  rintro ⟨j, s0, en0, now, out0⟩ ⟨hj, hs0, hs1, hen, hen0, hnow, hlen, hT⟩
  simp only at hj hs0 hs1 hen hen0 hnow hlen hT
  refine EvC.seq ?_
  refine EvC.seq (EvC.rg (by (simp only [go_sem]) <;> rfl) (by simp) ?_)  -- R4
  refine EvC.cond (by (simp only [go_sem]) <;> rfl) (fun hc => ?_) (fun hc => ?_)
  rotate_left
  · refine EvC.exit ?_  -- 0
    have hc : ¬ j < es.length := by simpa using hc
    rw [List.drop_of_length_le (by omega), runJ] at hT
    refine EvC.frz 0 (by (simp only [go_sem]) <;> rfl) ?_
    refine EvC.seq (EvC.rg (by (simp only [go_sem]) <;> rfl) (by simp) ?_)  -- R17
    refine EvC.ret ⟨.inl rfl, _, (by (simp only [go_sem]) <;> rfl), ?_, rfl⟩
    simp only [go_sem]
    rw [hT]
  have hc : j < es.length := by simpa using hc
  have he : es[j]? = some es[j] := List.getElem?_eq_getElem hc
  have hd : es.drop j = es[j] :: es.drop (j + 1) := List.drop_eq_getElem_cons hc
  have hev := hall _ (List.getElem_mem hc)
  generalize es[j] = e at he hd hev
  rw [hd, runJ] at hT
  obtain ⟨J, hJ⟩ : ∃ J, J = jumps x (now + e.1) (now + e.1 - en0).toNat s0 en0 out0 := ⟨_, rfl⟩
  rw [← hJ] at hT
  have hIf : inI64 (now + e.1) = true := inI64_of (by omega) (by omega)
  refine EvC.skip ?_
  refine EvC.seq ?_
  refine EvC.block ?_  -- 1
  refine EvC.seq (EvC.rg (by (simp only [go_sem, he, edgeC]) <;> rfl) (by simp [hIf]) ?_)  -- R6
  refine EvC.seq ?_
  refine EvC.block ?_  -- 2
  refine EvC.loopS (σ := Int × Int × List Rep) (fun g => ⟨[(1, .sl nl (es.map edgeC) cp), (2, .ia x.cells), (5, .tl 0 g.2.2.length g.2.2.isEmpty), (6, .sc (.int .i64 g.1)), (7, .sc (.int .i64 g.2.1)), (9, .sc (.int .i64 j)), (10, .sc (.int .i64 (now + e.1)))], [],
      [(0, .arr 2 (g.2.2.map edgeC) true)], 1⟩) (fun g => (now + e.1 - g.2.1).toNat)
    (fun g => 0 ≤ g.1 ∧ g.1 < x.m.rows.length ∧ g.2.1 ≤ now + e.1 ∧ 0 ≤ g.2.1 ∧ (g.2.2.length : Int) ≤ g.2.1 + j ∧ J = jumps x (now + e.1) (now + e.1 - g.2.1).toNat g.1 g.2.1 g.2.2) [1, 2, 5, 6, 7, 9, 10] 1 ?_ ?_
  · exact ⟨[(0, 0)], (s0, en0, out0), rfl, (by (simp only [go_sem]) <;> rfl), hs0, hs1, by simp only; omega, hen0, hlen, hJ⟩
  clear hJ hlen hs0 hs1 hen hen0
  rintro ⟨s, en, out⟩ ⟨hs0, hs1, hen, hen0, hlen, hJ⟩
  simp only at hs0 hs1 hen hen0 hlen hJ
  obtain ⟨t1, t2⟩ := timAt_get hv hs0 hs1
  have htc := timOk_cases t2
  generalize timAt x s = tm at t1 t2 htc
  have htm : timAt x s = tm := by unfold timAt; rw [t1]; rfl
  have hIe : inI64 (en + tm.1) = true := inI64_of (by omega) (by omega)
  refine EvC.seq ?_
  apply EvC.seq  -- R7
  apply EvC.trd
  · (simp only [go_sem, Timed.cells, t1, timC]) <;> rfl
  · simp [hIe]; omega
  refine EvC.cond (by (simp only [go_sem]) <;> rfl) (fun hc => ?_) (fun hc => ?_)
  rotate_left
  · refine EvC.exit ?_  -- 2
    have hc : ¬ (0 < tm.1 ∧ en + tm.1 ≤ now + e.1) := by
      rintro ⟨h1, h2⟩
      simp [h1, h2] at hc
    have hJ' : J = (s, en, out) := by
      rw [hJ]
      cases (now + e.1 - en).toNat with
      | zero => rfl
      | succ n => simp only [jumps, htm]; rw [if_neg hc]
    rw [hJ'] at hT
    simp only at hT
    obtain ⟨r, d, d1, d2, d3, d4⟩ := stepR_get hv.m hs0 hs1 ⟨hev.2.2.1, hev.2.2.2⟩
    rw [d3] at hT
    refine EvC.seq (EvC.rg (by (simp only [go_sem]) <;> rfl) (by simp) ?_)  -- R11
    apply EvC.seq  -- R12
    apply EvC.drd mixed
    · (simp only [go_sem, Timed.cells, he, edgeC, d1, rowC, d2]) <;> rfl
    · simp; omega
    · kernel_rfl
    refine EvC.seq (EvC.rg (by (simp only [go_sem]) <;> rfl) (by simp [room_eq, AV.norefs, AV.noref]; omega) ?_)  -- R13
    refine EvC.seq ?_
    refine EvC.seq (EvC.rg (by (simp only [go_sem]) <;> rfl) (by simp) ?_)  -- R14
    refine EvC.cond (by (simp only [go_sem]) <;> rfl) (fun hu => ?_) (fun hu => ?_)
    · have hu : d.1 < 0 := by simpa using hu
      rw [if_pos hu] at hT
      refine EvC.frz 0 (by (simp only [go_sem]) <;> rfl) ?_
      refine EvC.seq (EvC.rg (by (simp only [go_sem]) <;> rfl) (by simp) ?_)  -- R15
      refine EvC.ret ⟨.inl rfl, _, (by (simp only [go_sem]) <;> rfl), ?_, rfl⟩
      simp only [go_sem]
      rw [hT]
      simp [edgeC]
    have hu : ¬ d.1 < 0 := by simpa using hu
    rw [if_neg hu] at hT
    unfold fitsR at d4
    simp at d4
    refine EvC.skip ?_
    refine EvC.rg (by (simp only [go_sem]) <;> rfl) (by simp) ?_  -- R16
    refine EvC.rg (by (simp only [go_sem]) <;> rfl) (inI64_of (by omega) (by omega)) ?_  -- R5
    exact ⟨[(0, 0)], (j + 1, d.1, now + e.1, now + e.1, out ++ [(now + e.1, d.2)]), rfl, (by (simp only [go_sem, edgeC]) <;> rfl), ⟨by simp only; omega, by simp only; omega, by simp only; omega, by simp, by simp only; omega, by simp only; omega, by simp; omega, hT⟩, by simp only; omega⟩
  have hc : 0 < tm.1 ∧ en + tm.1 ≤ now + e.1 := by
    by_cases h : 0 < tm.1
    · simp [h] at hc; exact ⟨h, hc⟩
    · simp [h] at hc
  refine EvC.skip ?_
  refine EvC.block ?_  -- 3
  refine EvC.seq (EvC.rg (by (simp only [go_sem, Timed.cells, t1, timC]) <;> rfl) (by simp [hIe]; omega) ?_)  -- R8
  refine EvC.seq (EvC.rg (by (simp only [go_sem, Timed.cells, t1, timC]) <;> rfl) (by simp [room_eq, AV.norefs, AV.noref]; omega) ?_)  -- R9
  refine EvC.rg (by (simp only [go_sem, Timed.cells, t1, timC]) <;> rfl) (by simp; omega) ?_  -- R10
  refine ⟨[(0, 0)], (tm.2.1, en + tm.1, out ++ [(en + tm.1, tm.2.2)]), rfl, (by (simp only [go_sem, edgeC]) <;> rfl), ⟨by simp only; omega, by simp only; omega, by simp only; omega, by simp only; omega, by simp; omega, ?_⟩, by simp only; omega⟩
  rw [hJ]
  obtain ⟨n, hn⟩ : ∃ n, (now + e.1 - en).toNat = n + 1 := ⟨(now + e.1 - en).toNat - 1, by omega⟩
  rw [hn]
  simp only [jumps, htm]
  rw [if_pos hc]
  exact jumps_fuel _ _ _ _ _ (by omega) (by omega)
end Go.Avl
namespace Go.Avl
open Go Go.Proofs.Try
set_option maxRecDepth 10000
set_option linter.unusedSimpArgs false

theorem idxC_min {c : Cfg} : ∀ {l : List Cfg} {j : Nat}, j < idxC c l → ∀ d, l[j]? = some d → d ≠ c
  | [], j, h, _, _ => by simp [idxC] at h
  | e :: l, j, h, d, hd => by
    simp only [idxC] at h
    split at h
    · omega
    · rename_i hne
      cases j with
      | zero => simp only [List.getElem?_cons_zero, Option.some.injEq] at hd; subst hd; exact hne
      | succ j => exact idxC_min (l := l) (j := j) (by omega) d (by simpa using hd)

theorem unfoldRef_is {x : Timed} (hv : ValidT x) : PureIs prog 16 [.ag x.cells] (.ag [.sc (.int .i64 (x.m.ins + 1)), .sc (.int .i64 (x.m.outs + 1)), .sl false ((unfAll x).1.map rowF) .unk]) := by
  refine PureIs.of (nv := 11) (hid := [12, 25, 30, 37, 53, 85, 97, 103]) func16 rfl (by kernel_rfl) (by simp [ntmps16]) fun _ => ?_
  rw [ntmps16, results16]
  have hin := hv.m.ins
  have hou := hv.m.outs
  have hI1 : inI64 (x.m.ins + 1) = true := inI64_of (by omega) (by omega)
  have hI2 : inI64 (x.m.outs + 1) = true := inI64_of (by omega) (by omega)
  refine EvC.seq (EvC.rg (by (simp only [go_sem, Timed.cells]) <;> rfl) (by simp) ?_)  -- R0
  refine EvC.frzB 0 (by (simp only [go_sem]) <;> rfl) ?_
  refine EvC.seq (EvC.rg (by (simp only [go_sem]) <;> rfl) (by simp) ?_)  -- R1
  refine EvC.seq (EvC.rg (by (simp only [go_sem]) <;> rfl) (by simp [hI1, hI2]) ?_)  -- R2
  refine EvC.seq ?_
  refine EvC.seq (EvC.rg (by (simp only [go_sem]) <;> rfl) (by simp) ?_)  -- R3
  refine EvC.block ?_  -- 0
  obtain ⟨N, hN⟩ : ∃ N : Nat, N = x.m.ins.toNat + 1 := ⟨_, rfl⟩
  have hN2 : ((N : Nat) : Int) = x.m.ins + 1 := by omega
  refine EvC.ownC 14 2 1 (by (simp only [go_sem]) <;> rfl) ?_
  refine EvC.loopS (σ := Nat × List Cfg × List (List (Int × Int))) (fun g => ⟨[(1, .ia x.cells), (2, .rf 0 0), (3, .tl 1 g.2.1.length false), (4, .rf 2 0), (5, .sc (.int .i64 g.1))], [],
      [(0, .cells [.sc (.int .i64 0), .sc (.int .i64 0), .sl true [] .zer]), (1, .arr 2 (g.2.1.map edgeC) false), (2, .cells [.sc (.int .i64 (x.m.ins + 1)), .sc (.int .i64 (x.m.outs + 1)), .tl 3 g.2.2.length g.2.2.isEmpty]), (3, .arr 1 (g.2.2.map rowF) true)], 4⟩) (fun g => 100 - g.1)
    (fun g => GoodCs x g.2.1 ∧ 1 ≤ g.2.1.length ∧ g.2.1.length ≤ 64 + N ∧ g.1 ≤ g.2.1.length ∧ g.2.2.length = g.1 ∧ ∃ f, f + g.1 = 100 ∧ unfAll x = (g.2.2 ++ (unfR x f g.1 g.2.1).1, (unfR x f g.1 g.2.1).2)) [1, 2, 3, 4, 5] 4 ?_ ?_
  · refine ⟨[(1, 0), (3, 1), (14, 2), (17, 3)], (0, [(0, 0)], []), rfl, (by (simp only [go_sem, edgeC]) <;> rfl), ?_, by simp, by simp; omega, by simp, rfl, 100, rfl, rfl⟩
    intro c hc
    simp only [List.mem_singleton] at hc
    subst hc; exact .zero hv
  rintro ⟨n, l, rows⟩ ⟨hg, hl1, hl2, hnl, hrl, f, hf, hall⟩
  simp only at hg hl1 hl2 hnl hrl hf hall
  refine EvC.seq ?_
  apply EvC.seq  -- R4
  apply EvC.trd
  · (simp only [go_sem]) <;> rfl
  · simp
  refine EvC.cond (by (simp only [go_sem]) <;> rfl) (fun hc => ?_) (fun hc => ?_)
  rotate_left
  · refine EvC.exit ?_  -- 0
    have hc : ¬ (n < l.length ∧ l.length ≤ 64) := by
      rintro ⟨h1, h2⟩
      have : (l.length : Int) ≤ 64 := by omega
      simp [h1, this] at hc
    have hun : unfR x f n l = ([], l) := by
      cases f with
      | zero => rfl
      | succ f =>
        rw [unfR]
        split
        · rfl
        · rename_i c he
          have := (List.getElem?_eq_some_iff.1 he).1
          rw [if_pos (by omega)]
    rw [hun] at hall
    refine EvC.frzD 3 (by (simp only [go_sem]) <;> rfl) ?_
    refine EvC.seq (EvC.rg (by (simp only [go_sem]) <;> rfl) (by simp) ?_)  -- R22
    refine EvC.ret ⟨.inl rfl, _, (by (simp only [go_sem]) <;> rfl), ?_, rfl⟩
    simp only [go_sem]
    have hne : rows.isEmpty = false := by
      cases rows with
      | nil =>
        exfalso
        simp only [List.length_nil] at hrl
        subst hrl
        have h0 : unfAll x = unfR x 100 0 [(0, 0)] := rfl
        rw [unfR] at h0
        simp only [List.getElem?_cons_zero, List.length_cons, List.length_nil] at h0
        rw [if_neg (by omega)] at h0
        rw [h0] at hall
        simp at hall
      | cons r rs => rfl
    rw [hall, hne]
    simp
  have hc : n < l.length ∧ l.length ≤ 64 := by
    by_cases h1 : n < l.length
    · simp [h1] at hc
      exact ⟨h1, by omega⟩
    · simp [h1] at hc
  obtain ⟨hc, hc64⟩ := hc
  have he : l[n]? = some l[n] := List.getElem?_eq_getElem hc
  have hgc : GoodC x l[n] := hg _ (List.getElem_mem hc)
  generalize l[n] = c at he hgc
  obtain ⟨f, rfl⟩ : ∃ k, f = k + 1 := ⟨f - 1, by omega⟩
  have hstep : unfR x (f + 1) n l = ((rowU x c N 0 l).1 :: (unfR x f (n + 1) (rowU x c N 0 l).2).1, (unfR x f (n + 1) (rowU x c N 0 l).2).2) := by
    rw [unfR, he]
    simp only
    rw [if_neg (by omega), ← hN]
  rw [hstep] at hall
  have hst := hgc.st
  obtain ⟨t1, t2⟩ := timAt_get hv hst.1 hst.2
  have hkc := hgc.clock hv
  have hk0 := hgc.ck
  have hnext := next30_is x c (timAt x c.1) hst.1 t1 (by omega)
  refine EvC.skip ?_
  refine EvC.seq ?_
  refine EvC.block ?_  -- 1
  refine EvC.seq (EvC.rg (by (simp only [go_sem]) <;> rfl) (by simp) ?_)  -- R6
  refine EvC.seq ?_
  refine EvC.seq (EvC.rg (by (simp only [go_sem]) <;> rfl) (by simp) ?_)  -- R7
  refine EvC.block ?_  -- 2
  refine EvC.loopS (σ := Nat × List Cfg × List (Int × Int)) (fun g => ⟨[(1, .ia x.cells), (2, .rf 0 0), (3, .tl 1 g.2.1.length false), (4, .rf 2 0), (5, .sc (.int .i64 n)), (6, .tl 4 g.2.2.length g.2.2.isEmpty), (7, .sc (.int .i64 g.1))], [],
      [(0, .cells [.sc (.int .i64 0), .sc (.int .i64 0), .sl true [] .zer]), (1, .arr 2 (g.2.1.map edgeC) false), (2, .cells [.sc (.int .i64 (x.m.ins + 1)), .sc (.int .i64 (x.m.outs + 1)), .tl 3 rows.length rows.isEmpty]), (3, .arr 1 (rows.map rowF) true),
       (4, .arr 2 (g.2.2.map edgeC) true)], 5⟩) (fun g => N - g.1)
    (fun g => GoodCs x g.2.1 ∧ g.2.1.length ≤ 64 + g.1 ∧ n < g.2.1.length ∧ g.2.1[n]? = some c ∧ g.2.2.length = g.1 ∧ g.1 ≤ N ∧ rowU x c N 0 l = (g.2.2 ++ (rowU x c (N - g.1) g.1 g.2.1).1, (rowU x c (N - g.1) g.1 g.2.1).2)) [1, 2, 3, 4, 5, 6, 7] 5 ?_ ?_
  · exact ⟨[(0, 0), (1, 1), (2, 2), (3, 3), (13, 4)], (0, l, []), rfl, (by (simp only [go_sem]) <;> rfl), hg, hc64, hc, he, rfl, Nat.zero_le _, rfl⟩
  rintro ⟨i, l', pre⟩ ⟨hg, hl2, hc, he, hpl, hiN, hrow⟩
  simp only at hg hl2 hc he hpl hiN hrow
  refine EvC.seq ?_
  refine EvC.seq (EvC.rg (by (simp only [go_sem, Timed.cells]) <;> rfl) (by simp) ?_)  -- R8
  refine EvC.cond (by (simp only [go_sem]) <;> rfl) (fun hci => ?_) (fun hci => ?_)
  rotate_left
  · refine EvC.exit ?_  -- 2
    have hci : ¬ i < N := by
      have : ¬ (i : Int) ≤ x.m.ins := by simpa using hci
      omega
    obtain rfl : i = N := by omega
    rw [Nat.sub_self, rowU, List.append_nil] at hrow
    rw [hrow] at hall
    simp only at hall
    have hpe : pre.isEmpty = false := by cases pre with
      | nil => simp at hpl; omega
      | cons a b => rfl
    refine EvC.frz 4 (by (simp only [go_sem, hpe]) <;> rfl) ?_
    refine EvC.rg (by (simp only [go_sem]) <;> rfl) (by simp [room_eq, AV.norefs, AV.noref]; omega) ?_  -- R21
    refine EvC.rg (by (simp only [go_sem]) <;> rfl) (inI64_of (by omega) (by omega)) ?_  -- R5
    exact ⟨[(0, 0), (1, 1), (2, 2), (3, 3)], (n + 1, l', rows ++ [pre]), rfl, (by (simp only [go_sem, rowF, rowC]) <;> rfl), ⟨hg, by simp only; omega, by simp only; omega, by simp only; omega, by simp [hrl], f, by simp only; omega, by rw [hall]; simp⟩, by simp only; omega⟩
  have hci : i < N := by
    have : (i : Int) ≤ x.m.ins := by simpa using hci
    omega
  obtain ⟨m, hm⟩ : ∃ m, N - i = m + 1 := ⟨N - i - 1, by omega⟩
  have hm' : N - (i + 1) = m := by omega
  rw [hm, rowU] at hrow
  have hcs := cfgStep_good hv hgc (i := i) (by omega)
  have hIi : inI64 ((i : Int) + 1) = true := inI64_of (by omega) (by omega)
  obtain ⟨to, hto⟩ : ∃ to, to = (cfgStep x c i).1 := ⟨_, rfl⟩
  obtain ⟨ou, hou'⟩ : ∃ ou, ou = (cfgStep x c i).2 := ⟨_, rfl⟩
  rw [← hto] at hcs
  rw [← hou'] at hcs
  have hent : entU x c i l' = if to.1 < 0 then (((-1 : Int), ou), l') else ((((idxC to l' : Nat) : Int), ou), addC to l') := by unfold entU; rw [← hto, ← hou']
  have hcfg : cfgStep x c i = (to, ou) := by rw [hto, hou']
  refine EvC.skip ?_
  refine EvC.seq ?_
  refine EvC.block ?_  -- 3
  apply EvC.seq  -- R10
  apply EvC.drw mixed
  · apply Tr.run
    · (simp only [go_sem, Timed.cells, he, edgeC]) <;> rfl
    · simp [hc]
    apply Tr.cons
    · exact .call rfl rfl (by (simp only [go_sem]) <;> rfl) (by (simp only [go_sem]) <;> rfl) (by (simp only [go_sem]) <;> rfl) (by (simp only [go_sem]) <;> rfl) (by (simp only [go_sem]) <;> rfl) (by simpa [Timed.cells, edgeA] using hnext)
    apply Tr.done
    · (simp only [go_sem, edgeA]) <;> rfl
    · simp
  · kernel_rfl
  refine EvC.seq ?_
  refine EvC.seq (EvC.rg (by (simp only [go_sem, Timed.cells]) <;> rfl) (by simp) ?_)  -- R11
  by_cases hlt : (i : Int) < x.m.ins
  · obtain ⟨r, e, q1, q2, q3, q4⟩ := stepR_get hv.m hst.1 hst.2 ⟨by omega, hlt⟩
    rw [Int.toNat_natCast] at q2
    have hce : to = (e.1, 0) ∧ ou = e.2 := by
      have : cfgStep x c i = ((e.1, 0), e.2) := by unfold cfgStep; rw [if_pos hlt, q3]
      rw [hcfg] at this
      simpa using this
    obtain ⟨he1, he2⟩ := hce
    have h2to : to.2 = 0 := by rw [he1]
    obtain rfl : e = (to.1, ou) := by rw [he1, he2]
    clear he1 he2
    refine EvC.cond_true (by rw [← decide_eq_true hlt]; (simp only [go_sem]) <;> rfl) ?_
    apply EvC.drd mixed  -- R12
    · (simp only [go_sem, Timed.cells, he, edgeC, q1, rowC, q2]) <;> rfl
    · simp [hc]; omega
    · kernel_rfl
    refine EvC.seq (EvC.rg (by (simp only [go_sem]) <;> rfl) (by simp) ?_)  -- R13
    refine EvC.seq ?_
    refine EvC.seq (EvC.rg (by (simp only [go_sem]) <;> rfl) (by simp) ?_)  -- R14
    refine EvC.cond (by (simp only [go_sem]) <;> rfl) (fun hd => ?_) (fun hd => ?_)
    rotate_left
    · have hd : to.1 < 0 := by simpa using hd
      have hou2 : ou = -1 := by
        rcases hcs with hcs | hcs
        · have := hcs.1.st; omega
        · exact hcs.2.1
      rw [if_pos hd] at hent
      rw [hent] at hrow
      refine EvC.skip ?_
      refine EvC.rg (by (simp only [go_sem]) <;> rfl) (by simp [room_eq, AV.norefs, AV.noref]; omega) ?_  -- R20
      refine EvC.rg (by (simp only [go_sem]) <;> rfl) hIi ?_  -- R9
      refine ⟨[(0, 0), (1, 1), (2, 2), (3, 3), (4, 4)], (i + 1, l', pre ++ [(-1, ou)]), rfl, (by (simp only [go_sem, edgeC]) <;> rfl), ⟨hg, by simp only; omega, hc, he, by simp [hpl], by simp only; omega, ?_⟩, by simp only; omega⟩
      simp only
      rw [hrow, hm']; simp
    have hd : 0 ≤ to.1 := by simpa using hd
    rw [if_neg (by omega)] at hent
    rw [hent] at hrow
    have hgt : GoodC x to := by
      rcases hcs with hcs | hcs
      · exact hcs.1
      · have := hcs.1; omega
    have hidx := idxC_le to l'
    refine EvC.seq (EvC.rg (by (simp only [go_sem]) <;> rfl) (by simp) ?_)  -- R15
    refine EvC.seq ?_
    refine EvC.block ?_  -- 4
    refine EvC.loopS (σ := Nat) (fun k => ⟨[(1, .ia x.cells), (2, .rf 0 0), (3, .tl 1 l'.length false), (4, .rf 2 0), (5, .sc (.int .i64 n)), (6, .tl 4 pre.length pre.isEmpty), (7, .sc (.int .i64 i)), (8, .rf 5 0), (9, .sc (.int .i64 ou)), (10, .sc (.int .i64 k))], [],
      [(0, .cells [.sc (.int .i64 0), .sc (.int .i64 0), .sl true [] .zer]), (1, .arr 2 (l'.map edgeC) false), (2, .cells [.sc (.int .i64 (x.m.ins + 1)), .sc (.int .i64 (x.m.outs + 1)), .tl 3 rows.length rows.isEmpty]), (3, .arr 1 (rows.map rowF) true),
       (4, .arr 2 (pre.map edgeC) true), (5, .cells (edgeC to))], 6⟩) (fun k => l'.length - k) (fun k => k ≤ idxC to l') [1, 2, 3, 4, 5, 6, 7, 8, 9, 10] 6 ?_ ?_
    · exact ⟨[(0, 0), (1, 1), (2, 2), (3, 3), (4, 4), (19, 5)], 0, rfl, (by (simp only [go_sem, edgeC, h2to]) <;> rfl), Nat.zero_le _⟩
    intro k hk
    refine EvC.seq ?_
    by_cases hkl : k < l'.length
    · have hke : l'[k]? = some l'[k] := List.getElem?_eq_getElem hkl
      generalize l'[k] = d at hke
      have hkd : d = to ↔ k = idxC to l' := by
        constructor
        · intro h
          by_cases hlt : k < idxC to l'
          · exact absurd h (idxC_min hlt d hke)
          · omega
        · intro h
          have hm2 : to ∈ l' := idxC_mem.1 (by omega)
          have := idxC_get hm2
          rw [← h, hke] at this
          exact Option.some.inj this
      have hkl' := decide_eq_true (show (k : Int) < (l'.length : Int) by omega)
      have hdt : (decide (d.1 = to.1) && (decide (d.2 = to.2) && true)) = decide (d = to) := by
        obtain ⟨a, b⟩ := d; obtain ⟨c, d⟩ := to
        by_cases h1 : a = c <;> by_cases h2 : b = d <;> simp [h1, h2]
      apply EvC.seq  -- R16
      apply EvC.drd mixed
      · (simp only [go_sem, hkl', hke, edgeC]) <;> rfl
      · simp [hkl]
      · kernel_rfl
      refine EvC.cond (by (simp only [go_sem]) <;> rfl) (fun hx => ?_) (fun hx => ?_)
      · have hne : ¬ d = to := by
          intro h
          rw [decide_eq_true h] at hdt
          simp only [band_t'] at hx hdt
          simp [hdt] at hx
        have hlt : k < idxC to l' := by
          have := mt hkd.2 hne; omega
        refine EvC.skip ?_
        refine EvC.block ?_  -- 5
        refine EvC.rg (by (simp only [go_sem]) <;> rfl) (inI64_of (by omega) (by omega)) ?_  -- R17
        exact ⟨[(0, 0), (1, 1), (2, 2), (3, 3), (4, 4), (5, 5)], k + 1, rfl, (by (simp only [go_sem, edgeC]) <;> rfl), by omega, by omega⟩
      have hdd : d = to := by
        by_cases h : d = to
        · exact h
        · rw [decide_eq_false h] at hdt
          simp only [band_t'] at hx hdt
          simp [hdt] at hx
      have hki := hkd.1 hdd
      have hklf : decide ((k : Int) = (l'.length : Int)) = false := decide_eq_false (by omega)
      have hadd : addC to l' = l' := if_pos (idxC_mem.1 (by omega))
      rw [hadd, ← hki] at hrow
      refine EvC.exit ?_  -- 4
      refine EvC.seq (EvC.rg (by (simp only [go_sem]) <;> rfl) (by simp) ?_)  -- R18
      refine EvC.cond_false (by (simp only [go_sem, hklf, List.length_map]) <;> rfl) ?_
      refine EvC.skip ?_
      refine EvC.rg (by (simp only [go_sem]) <;> rfl) (by simp [room_eq, AV.norefs, AV.noref]; omega) ?_  -- R20
      refine EvC.rg (by (simp only [go_sem]) <;> rfl) hIi ?_  -- R9
      refine ⟨[(0, 0), (1, 1), (2, 2), (3, 3), (4, 4)], (i + 1, l', pre ++ [((k : Int), ou)]), rfl, (by (simp only [go_sem, edgeC]) <;> rfl), ⟨hg, by simp only; omega, hc, he, by simp [hpl], by simp only; omega, ?_⟩, by simp only; omega⟩
      simp only
      rw [hrow, hm']; simp
    · have hki : k = idxC to l' := by omega
      have hkl' := decide_eq_false (show ¬ (k : Int) < (l'.length : Int) by omega)
      have hkn : k = l'.length := by omega
      have hklt : decide ((k : Int) = (l'.length : Int)) = true := decide_eq_true (by omega)
      have hnone : l'[k]? = none := List.getElem?_eq_none (by omega)
      have hadd : addC to l' = l' ++ [to] := if_neg fun h => by have := idxC_mem.2 h; omega
      rw [hadd, ← hki] at hrow
      apply EvC.seq  -- R16
      apply EvC.drw mixed
      · apply Tr.run
        · (simp only [go_sem, hkl', hnone]) <;> rfl
        · simp
        apply Tr.cons
        · exact .skipv (.ag [.sc (.int .i64 0), .sc (.int .i64 0)]) rfl rfl (by (simp only [go_sem]) <;> rfl) (by (simp only [go_sem]) <;> rfl)
        apply Tr.done
        · (simp only [go_sem, edgeC]) <;> rfl
        · simp
      · kernel_rfl
      refine EvC.cond_false (by (simp only [go_sem]) <;> rfl) ?_
      refine EvC.exit ?_  -- 4
      refine EvC.seq (EvC.rg (by (simp only [go_sem]) <;> rfl) (by simp) ?_)  -- R18
      refine EvC.cond_true (by (simp only [go_sem, hklt, List.length_map]) <;> rfl) ?_
      refine EvC.rg (by (simp only [go_sem]) <;> rfl) (by simp [room_eq, AV.norefs, AV.noref]; omega) ?_  -- R19
      refine EvC.rg (by (simp only [go_sem]) <;> rfl) (by simp [room_eq, AV.norefs, AV.noref]; omega) ?_  -- R20
      refine EvC.rg (by (simp only [go_sem]) <;> rfl) hIi ?_  -- R9
      refine ⟨[(0, 0), (1, 1), (2, 2), (3, 3), (4, 4)], (i + 1, l' ++ [to], pre ++ [((k : Int), ou)]), rfl, (by (simp only [go_sem, edgeC]) <;> rfl), ⟨(fun d hd => by rcases List.mem_append.1 hd with h | h; exact hg d h; simp only [List.mem_singleton] at h; subst h; exact hgt), by simp; omega, by simp; omega, by rw [List.getElem?_append_left hc]; exact he, by simp [hpl], by simp only; omega, ?_⟩, by simp only; omega⟩
      simp only
      rw [hrow, hm']; simp
  · have hce : tickR x.m.outs (timAt x c.1) c = (to, ou) := by
      rw [← hcfg]; unfold cfgStep; rw [if_neg hlt]
    rw [hce]
    refine EvC.cond_false (by rw [← decide_eq_false hlt]; (simp only [go_sem]) <;> rfl) ?_
    refine EvC.skip ?_
    refine EvC.seq (EvC.rg (by (simp only [go_sem]) <;> rfl) (by simp) ?_)  -- R13
    refine EvC.seq ?_
    refine EvC.seq (EvC.rg (by (simp only [go_sem]) <;> rfl) (by simp) ?_)  -- R14
    refine EvC.cond (by (simp only [go_sem]) <;> rfl) (fun hd => ?_) (fun hd => ?_)
    rotate_left
    · have hd : to.1 < 0 := by simpa using hd
      have hou2 : ou = -1 := by
        rcases hcs with hcs | hcs
        · have := hcs.1.st; omega
        · exact hcs.2.1
      rw [if_pos hd] at hent
      rw [hent] at hrow
      refine EvC.skip ?_
      refine EvC.rg (by (simp only [go_sem]) <;> rfl) (by simp [room_eq, AV.norefs, AV.noref]; omega) ?_  -- R20
      refine EvC.rg (by (simp only [go_sem]) <;> rfl) hIi ?_  -- R9
      refine ⟨[(0, 0), (1, 1), (2, 2), (3, 3), (4, 4)], (i + 1, l', pre ++ [(-1, ou)]), rfl, (by (simp only [go_sem, edgeC]) <;> rfl), ⟨hg, by simp only; omega, hc, he, by simp [hpl], by simp only; omega, ?_⟩, by simp only; omega⟩
      simp only
      rw [hrow, hm']; simp
    have hd : 0 ≤ to.1 := by simpa using hd
    rw [if_neg (by omega)] at hent
    rw [hent] at hrow
    have hgt : GoodC x to := by
      rcases hcs with hcs | hcs
      · exact hcs.1
      · have := hcs.1; omega
    have hidx := idxC_le to l'
    refine EvC.seq (EvC.rg (by (simp only [go_sem]) <;> rfl) (by simp) ?_)  -- R15
    refine EvC.seq ?_
    refine EvC.block ?_  -- 4
    refine EvC.loopS (σ := Nat) (fun k => ⟨[(1, .ia x.cells), (2, .rf 0 0), (3, .tl 1 l'.length false), (4, .rf 2 0), (5, .sc (.int .i64 n)), (6, .tl 4 pre.length pre.isEmpty), (7, .sc (.int .i64 i)), (8, .rf 5 0), (9, .sc (.int .i64 ou)), (10, .sc (.int .i64 k))], [],
      [(0, .cells [.sc (.int .i64 0), .sc (.int .i64 0), .sl true [] .zer]), (1, .arr 2 (l'.map edgeC) false), (2, .cells [.sc (.int .i64 (x.m.ins + 1)), .sc (.int .i64 (x.m.outs + 1)), .tl 3 rows.length rows.isEmpty]), (3, .arr 1 (rows.map rowF) true),
       (4, .arr 2 (pre.map edgeC) true), (5, .cells (edgeC to))], 6⟩) (fun k => l'.length - k) (fun k => k ≤ idxC to l') [1, 2, 3, 4, 5, 6, 7, 8, 9, 10] 6 ?_ ?_
    · exact ⟨[(0, 0), (1, 1), (2, 2), (3, 3), (4, 4), (19, 5)], 0, rfl, (by (simp only [go_sem, edgeC]) <;> rfl), Nat.zero_le _⟩
    intro k hk
    refine EvC.seq ?_
    by_cases hkl : k < l'.length
    · have hke : l'[k]? = some l'[k] := List.getElem?_eq_getElem hkl
      generalize l'[k] = d at hke
      have hkd : d = to ↔ k = idxC to l' := by
        constructor
        · intro h
          by_cases hlt : k < idxC to l'
          · exact absurd h (idxC_min hlt d hke)
          · omega
        · intro h
          have hm2 : to ∈ l' := idxC_mem.1 (by omega)
          have := idxC_get hm2
          rw [← h, hke] at this
          exact Option.some.inj this
      have hkl' := decide_eq_true (show (k : Int) < (l'.length : Int) by omega)
      have hdt : (decide (d.1 = to.1) && (decide (d.2 = to.2) && true)) = decide (d = to) := by
        obtain ⟨a, b⟩ := d; obtain ⟨c, d⟩ := to
        by_cases h1 : a = c <;> by_cases h2 : b = d <;> simp [h1, h2]
      apply EvC.seq  -- R16
      apply EvC.drd mixed
      · (simp only [go_sem, hkl', hke, edgeC]) <;> rfl
      · simp [hkl]
      · kernel_rfl
      refine EvC.cond (by (simp only [go_sem]) <;> rfl) (fun hx => ?_) (fun hx => ?_)
      · have hne : ¬ d = to := by
          intro h
          rw [decide_eq_true h] at hdt
          simp only [band_t'] at hx hdt
          simp [hdt] at hx
        have hlt : k < idxC to l' := by
          have := mt hkd.2 hne; omega
        refine EvC.skip ?_
        refine EvC.block ?_  -- 5
        refine EvC.rg (by (simp only [go_sem]) <;> rfl) (inI64_of (by omega) (by omega)) ?_  -- R17
        exact ⟨[(0, 0), (1, 1), (2, 2), (3, 3), (4, 4), (5, 5)], k + 1, rfl, (by (simp only [go_sem, edgeC]) <;> rfl), by omega, by omega⟩
      have hdd : d = to := by
        by_cases h : d = to
        · exact h
        · rw [decide_eq_false h] at hdt
          simp only [band_t'] at hx hdt
          simp [hdt] at hx
      have hki := hkd.1 hdd
      have hklf : decide ((k : Int) = (l'.length : Int)) = false := decide_eq_false (by omega)
      have hadd : addC to l' = l' := if_pos (idxC_mem.1 (by omega))
      rw [hadd, ← hki] at hrow
      refine EvC.exit ?_  -- 4
      refine EvC.seq (EvC.rg (by (simp only [go_sem]) <;> rfl) (by simp) ?_)  -- R18
      refine EvC.cond_false (by (simp only [go_sem, hklf, List.length_map]) <;> rfl) ?_
      refine EvC.skip ?_
      refine EvC.rg (by (simp only [go_sem]) <;> rfl) (by simp [room_eq, AV.norefs, AV.noref]; omega) ?_  -- R20
      refine EvC.rg (by (simp only [go_sem]) <;> rfl) hIi ?_  -- R9
      refine ⟨[(0, 0), (1, 1), (2, 2), (3, 3), (4, 4)], (i + 1, l', pre ++ [((k : Int), ou)]), rfl, (by (simp only [go_sem, edgeC]) <;> rfl), ⟨hg, by simp only; omega, hc, he, by simp [hpl], by simp only; omega, ?_⟩, by simp only; omega⟩
      simp only
      rw [hrow, hm']; simp
    · have hki : k = idxC to l' := by omega
      have hkl' := decide_eq_false (show ¬ (k : Int) < (l'.length : Int) by omega)
      have hkn : k = l'.length := by omega
      have hklt : decide ((k : Int) = (l'.length : Int)) = true := decide_eq_true (by omega)
      have hnone : l'[k]? = none := List.getElem?_eq_none (by omega)
      have hadd : addC to l' = l' ++ [to] := if_neg fun h => by have := idxC_mem.2 h; omega
      rw [hadd, ← hki] at hrow
      apply EvC.seq  -- R16
      apply EvC.drw mixed
      · apply Tr.run
        · (simp only [go_sem, hkl', hnone]) <;> rfl
        · simp
        apply Tr.cons
        · exact .skipv (.ag [.sc (.int .i64 0), .sc (.int .i64 0)]) rfl rfl (by (simp only [go_sem]) <;> rfl) (by (simp only [go_sem]) <;> rfl)
        apply Tr.done
        · (simp only [go_sem, edgeC]) <;> rfl
        · simp
      · kernel_rfl
      refine EvC.cond_false (by (simp only [go_sem]) <;> rfl) ?_
      refine EvC.exit ?_  -- 4
      refine EvC.seq (EvC.rg (by (simp only [go_sem]) <;> rfl) (by simp) ?_)  -- R18
      refine EvC.cond_true (by (simp only [go_sem, hklt, List.length_map]) <;> rfl) ?_
      refine EvC.rg (by (simp only [go_sem]) <;> rfl) (by simp [room_eq, AV.norefs, AV.noref]; omega) ?_  -- R19
      refine EvC.rg (by (simp only [go_sem]) <;> rfl) (by simp [room_eq, AV.norefs, AV.noref]; omega) ?_  -- R20
      refine EvC.rg (by (simp only [go_sem]) <;> rfl) hIi ?_  -- R9
      refine ⟨[(0, 0), (1, 1), (2, 2), (3, 3), (4, 4)], (i + 1, l' ++ [to], pre ++ [((k : Int), ou)]), rfl, (by (simp only [go_sem, edgeC]) <;> rfl), ⟨(fun d hd => by rcases List.mem_append.1 hd with h | h; exact hg d h; simp only [List.mem_singleton] at h; subst h; exact hgt), by simp; omega, by simp; omega, by rw [List.getElem?_append_left hc]; exact he, by simp [hpl], by simp only; omega, ?_⟩, by simp only; omega⟩
      simp only
      rw [hrow, hm']; simp
end Go.Avl
namespace Go.Avl
open Go Go.Proofs.Try
set_option maxRecDepth 10000
set_option linter.unusedSimpArgs false

def refEqR (a b : Mach) : Int := if (diffO a b).isSome then 0 else 1

theorem fits_none {n : Nat} {o : Int} {e : Int × Int} (h : fitsR n o e.1 e.2 = true) : (e.1 = -1 ∧ e.2 = -1) ∨ (0 ≤ e.1 ∧ e.1 < n ∧ 0 ≤ e.2 ∧ e.2 < o) := by
  unfold fitsR at h; simp at h; omega

theorem refEqual_is {a b : Mach} (ha : Valid a) (hb : Valid b) (hab : a.ins = b.ins) : PureIs prog 20 [.ag a.cells, .ag b.cells] (.sc (.int .i64 (refEqR a b))) := by
  refine PureIs.of (nv := 13) (hid := [14, 18, 24, 55, 64, 72, 79]) func20 rfl (by kernel_rfl) (by simp [ntmps20]) fun _ => ?_
  rw [ntmps20, results20]
  have hra := ha.rows
  have hrb := hb.rows
  have hia := ha.ins
  refine EvC.seq (EvC.rg (by (simp only [go_sem, Mach.cells]) <;> rfl) (by simp) ?_)  -- R0
  refine EvC.frzB 0 (by (simp only [go_sem]) <;> rfl) ?_
  refine EvC.frzB 1 (by (simp only [go_sem]) <;> rfl) ?_
  refine EvC.seq (EvC.rg (by (simp only [go_sem]) <;> rfl) (by simp) ?_)  -- R1
  refine EvC.seq ?_
  refine EvC.seq (EvC.rg (by (simp only [go_sem]) <;> rfl) (by simp) ?_)  -- R2
  refine EvC.block ?_  -- 0
  refine EvC.loopS (σ := Nat × Nat × List Arr) (fun g => ⟨[(2, .ia a.cells), (3, .ia b.cells), (5, .tl 0 g.2.2.length false), (6, .sc (.int .i64 g.2.1))], [], [(0, .arr 2 ((g.2.2.map Prod.fst).map edgeC) false)], 1⟩) (fun g => 5000 - g.2.1)
    (fun g => GoodL a b g.2.2 ∧ g.2.1 ≤ g.2.2.length ∧ diffO a b = (outR a b g.1 g.2.1 g.2.2).find? (fun z => decide (z.x.2 ≠ z.y.2)) ∧ g.1 + g.2.1 = 5000) [2, 3, 5, 6] 1 ?_ ?_
  · exact ⟨[(4, 0)], (5000, 0, arr0), rfl, (by (simp only [go_sem, arr0, edgeC]) <;> rfl), .zero ha hb, Nat.zero_le _, rfl, rfl⟩
  rintro ⟨n, at', l⟩ ⟨hg, hat, hdo, hn⟩
  simp only at hg hat hdo hn
  have hlen := hg.len ha hb
  refine EvC.seq ?_
  refine EvC.seq (EvC.rg (by (simp only [go_sem, List.length_map]) <;> rfl) (by simp) ?_)  -- R3
  refine EvC.cond (by (simp only [go_sem]) <;> rfl) (fun hc => ?_) (fun hc => ?_)
  rotate_left
  · refine EvC.exit ?_  -- 0
    have hc : ¬ at' < l.length := by simpa using hc
    have : outR a b n at' l = [] := by
      cases n with
      | zero => rfl
      | succ n => simp only [outR, List.getElem?_eq_none (show l.length ≤ at' by omega)]
    rw [this] at hdo
    refine EvC.seq (EvC.rg (by (simp only [go_sem]) <;> rfl) (by simp) ?_)  -- R20
    refine EvC.ret ⟨.inl rfl, _, (by (simp only [go_sem]) <;> rfl), ?_, rfl⟩
    simp only [go_sem]
    rw [refEqR, hdo]; rfl
  have hc : at' < l.length := by simpa using hc
  have he : l[at']? = some l[at'] := List.getElem?_eq_getElem hc
  have hmem := List.getElem_mem hc
  generalize l[at'] = p at he hmem
  have hp := hg.rng p hmem
  have hpe : (l.map Prod.fst)[at']? = some p.1 := by rw [List.getElem?_map, he]; rfl
  obtain ⟨n, rfl⟩ : ∃ m, n = m + 1 := ⟨n - 1, by omega⟩
  rw [outR, he] at hdo
  simp only at hdo
  refine EvC.skip ?_
  refine EvC.seq ?_
  refine EvC.block ?_  -- 1
  refine EvC.seq (EvC.rg (by (simp only [go_sem]) <;> rfl) (by simp) ?_)  -- R5
  refine EvC.block ?_  -- 2
  refine EvC.loopS (σ := Nat × Nat × List Arr) (fun g => ⟨[(2, .ia a.cells), (3, .ia b.cells), (5, .tl 0 g.2.2.length false), (6, .sc (.int .i64 at')), (7, .sc (.int .i64 g.2.1))], [], [(0, .arr 2 ((g.2.2.map Prod.fst).map edgeC) false)], 1⟩) (fun g => g.1)
    (fun g => GoodL a b g.2.2 ∧ at' < g.2.2.length ∧ g.2.2[at']? = some p ∧ diffO a b = ((inR a b at' p.1.1 p.1.2 g.1 g.2.1 g.2.2).1 ++ outR a b n (at' + 1) (inR a b at' p.1.1 p.1.2 g.1 g.2.1 g.2.2).2).find? (fun z => decide (z.x.2 ≠ z.y.2)) ∧ g.1 + g.2.1 = a.ins.toNat) [2, 3, 5, 6, 7] 1 ?_ ?_
  · exact ⟨[(0, 0)], (a.ins.toNat, 0, l), rfl, (by (simp only [go_sem]) <;> rfl), hg, hc, he, hdo, rfl⟩
  clear hdo hg hlen hc he hmem hat hpe
  rintro ⟨m, i, l⟩ ⟨hg, hat, he, hdo, hm⟩
  simp only at hg hat he hdo hm
  have hlen := hg.len ha hb
  have hpe : (l.map Prod.fst)[at']? = some p.1 := by rw [List.getElem?_map, he]; rfl
  refine EvC.seq ?_
  refine EvC.seq (EvC.rg (by (simp only [go_sem, Mach.cells]) <;> rfl) (by simp) ?_)  -- R6
  refine EvC.cond (by (simp only [go_sem]) <;> rfl) (fun hc => ?_) (fun hc => ?_)
  rotate_left
  · refine EvC.exit ?_  -- 2
    have hc : ¬ (i : Int) < a.ins := by simpa using hc
    obtain rfl : m = 0 := by omega
    refine EvC.rg (by (simp only [go_sem]) <;> rfl) (inI64_of (by omega) (by omega)) ?_  -- R4
    exact ⟨[(0, 0)], (n, at' + 1, l), rfl, (by (simp only [go_sem]) <;> rfl), ⟨hg, by simp only; omega, by simpa [inR] using hdo, by simp only; omega⟩, by simp only; omega⟩
  have hc : (i : Int) < a.ins := by simpa using hc
  obtain ⟨m, rfl⟩ : ∃ k, m = k + 1 := ⟨m - 1, by omega⟩
  obtain ⟨r1, e, q1, q2, q3, f1⟩ := stepR_get ha hp.1 hp.2.1 (a := (i : Int)) (by omega)
  obtain ⟨r2, f, q4, q5, q6, f2⟩ := stepR_get hb hp.2.2.1 hp.2.2.2 (a := (i : Int)) (by omega)
  rw [Int.toNat_natCast] at q2 q5
  have hnx := hg.next ha hb hat (s := p.1.1) (t := p.1.2) (i := i) ⟨hp.1, hp.2.1⟩ ⟨hp.2.2.1, hp.2.2.2⟩ (by omega) hab
  rw [inR, q3, q6] at hdo
  rw [q3, q6] at hnx
  simp only [List.cons_append, List.find?_cons] at hdo
  have hIi : inI64 ((i : Int) + 1) = true := inI64_of (by omega) (by omega)
  refine EvC.skip ?_
  refine EvC.seq ?_
  refine EvC.block ?_  -- 3
  apply EvC.seq  -- R8
  apply EvC.drd mixed
  · (simp only [go_sem, Mach.cells, hpe, edgeC, q1, q4, rowC, q2, q5]) <;> rfl
  · simp; omega
  · kernel_rfl
  refine EvC.seq ?_
  refine EvC.seq (EvC.rg (by (simp only [go_sem]) <;> rfl) (by simp) ?_)  -- R9
  refine EvC.cond (by (simp only [go_sem]) <;> rfl) (fun hne => ?_) (fun hne => ?_)
  · have hne : ¬ e.2 = f.2 := by simpa using hne
    refine EvC.seq (EvC.rg (by (simp only [go_sem]) <;> rfl) (by simp) ?_)  -- R10
    refine EvC.ret ⟨.inl rfl, _, (by (simp only [go_sem]) <;> rfl), ?_, rfl⟩
    simp only [go_sem]
    rw [decide_eq_true hne] at hdo
    rw [refEqR, hdo]; rfl
  have heq : e.2 = f.2 := by simpa using hne
  rw [decide_eq_false (by simpa using heq)] at hdo
  simp only at hdo
  have hxy := fits_none f1
  have hxy2 := fits_none f2
  refine EvC.skip ?_
  refine EvC.seq (EvC.rg (by (simp only [go_sem]) <;> rfl) (by simp) ?_)  -- R11
  refine EvC.seq (EvC.rg (by (simp only [go_sem]) <;> rfl) (by simp) ?_)  -- R12
  refine EvC.seq ?_
  refine EvC.seq (EvC.rg (by (simp only [go_sem]) <;> rfl) (by simp) ?_)  -- R13
  refine EvC.block ?_  -- 4
  refine EvC.loopS (σ := Nat) (fun k => ⟨[(2, .ia a.cells), (3, .ia b.cells), (5, .tl 0 l.length false), (6, .sc (.int .i64 at')), (7, .sc (.int .i64 i)), (8, .rf 1 0), (10, .rf 2 0), (11, .sc (.int .i64 (if (e.1, f.1) ∈ (l.map Prod.fst).take k then 1 else 0))), (12, .sc (.int .i64 k))], [],
    [(0, .arr 2 ((l.map Prod.fst).map edgeC) false), (1, .cells (edgeC e)), (2, .cells (edgeC (e.1, f.1)))], 3⟩) (fun k => l.length - k) (fun k => k ≤ l.length) [2, 3, 5, 6, 7, 8, 10, 11, 12] 3 ?_ ?_
  · exact ⟨[(0, 0), (29, 1), (43, 2)], 0, rfl, (by (simp only [go_sem, edgeC, List.not_mem_nil]) <;> rfl), Nat.zero_le _⟩
  intro k hk
  refine EvC.seq ?_
  refine EvC.seq (EvC.rg (by (simp only [go_sem, List.length_map]) <;> rfl) (by simp) ?_)  -- R14
  refine EvC.cond (by (simp only [go_sem]) <;> rfl) (fun hc => ?_) (fun hc => ?_)
  · have hkl : k < l.length := by simpa using hc
    have hke : (l.map Prod.fst)[k]? = some ((l.map Prod.fst)[k]'(by simpa using hkl)) := List.getElem?_eq_getElem _
    have htk : (l.map Prod.fst).take (k + 1) = (l.map Prod.fst).take k ++ [(l.map Prod.fst)[k]'(by simpa using hkl)] := by rw [List.take_add_one, hke]; rfl
    generalize (l.map Prod.fst)[k]'(by simpa using hkl) = d at hke htk
    have hdt : (decide (d.1 = e.1) && (decide (d.2 = f.1) && true)) = decide (d = (e.1, f.1)) := by
      obtain ⟨a, b⟩ := d
      by_cases h1 : a = e.1 <;> by_cases h2 : b = f.1 <;> simp [h1, h2]
    refine EvC.skip ?_
    refine EvC.seq ?_
    refine EvC.block ?_  -- 5
    apply EvC.seq  -- R16
    apply EvC.drd mixed
    · (simp only [go_sem, hke, edgeC]) <;> rfl
    · simp [hkl]
    · kernel_rfl
    refine EvC.cond (by (simp only [go_sem]) <;> rfl) (fun hx => ?_) (fun hx => ?_)
    · have hdd : d = (e.1, f.1) := by
        have : decide (d = (e.1, f.1)) = true := by rw [← hdt]; simpa using hx
        simpa using this
      refine EvC.rg (by (simp only [go_sem]) <;> rfl) (by simp) ?_  -- R17
      refine EvC.rg (by (simp only [go_sem]) <;> rfl) (inI64_of (by omega) (by omega)) ?_  -- R15
      refine ⟨[(0, 0), (1, 1), (2, 2)], k + 1, rfl, ?_, by omega, by omega⟩
      have : (e.1, f.1) ∈ (l.map Prod.fst).take (k + 1) := by rw [htk, hdd]; simp
      rw [if_pos this]
      (simp only [go_sem, edgeC]) <;> rfl
    · have hdd : ¬ d = (e.1, f.1) := by
        have : ¬ decide (d = (e.1, f.1)) = true := by rw [← hdt]; simpa using hx
        simpa using this
      refine EvC.skip ?_
      refine EvC.rg (by (simp only [go_sem]) <;> rfl) (inI64_of (by omega) (by omega)) ?_  -- R15
      refine ⟨[(0, 0), (1, 1), (2, 2)], k + 1, rfl, ?_, by omega, by omega⟩
      have : ((e.1, f.1) ∈ (l.map Prod.fst).take (k + 1)) = ((e.1, f.1) ∈ (l.map Prod.fst).take k) := by
        rw [htk]
        simp only [List.mem_append, List.mem_singleton, eq_iff_iff, or_iff_left_iff_imp]
        intro h; exact absurd h.symm hdd
      simp only [this]
      (simp only [go_sem, edgeC]) <;> rfl
  refine EvC.exit ?_  -- 4
  have hkl : ¬ k < l.length := by simpa using hc
  have hmm : ((e.1, f.1) ∈ (l.map Prod.fst).take k) = ((e.1, f.1) ∈ l.map Prod.fst) := by rw [List.take_of_length_le (by simp; omega)]
  simp only [hmm]
  by_cases hmem : (e.1, f.1) ∈ l.map Prod.fst
  · have hl' : nextL at' i e f l = l := by unfold nextL; rw [if_neg (fun h => h.2.2 hmem)]
    rw [hl'] at hdo hnx
    rw [if_pos hmem]
    apply EvC.seq  -- R18
    apply EvC.trd
    · (simp only [go_sem, edgeC]) <;> rfl
    · simp
    refine EvC.cond_false (by (simp only [go_sem]) <;> rfl) ?_
    refine EvC.skip ?_
    refine EvC.rg (by (simp only [go_sem]) <;> rfl) hIi ?_  -- R7
    exact ⟨[(0, 0)], (m, i + 1, l), rfl, (by (simp only [go_sem]) <;> rfl), ⟨hg, hat, he, hdo, by simp only; omega⟩, by simp⟩
  rw [if_neg hmem]
  by_cases hx : e.1 = -1
  · have hl' : nextL at' i e f l = l := by unfold nextL; rw [if_neg (fun h => h.1 hx)]
    rw [hl'] at hdo hnx
    have hge := decide_eq_false (show ¬ 0 ≤ e.1 by omega)
    apply EvC.seq  -- R18
    apply EvC.trd
    · (simp only [go_sem, hge, edgeC]) <;> rfl
    · simp
    refine EvC.cond_false (by (simp only [go_sem]) <;> rfl) ?_
    refine EvC.skip ?_
    refine EvC.rg (by (simp only [go_sem]) <;> rfl) hIi ?_  -- R7
    exact ⟨[(0, 0)], (m, i + 1, l), rfl, (by (simp only [go_sem]) <;> rfl), ⟨hg, hat, he, hdo, by simp only; omega⟩, by simp⟩
  have hl' : nextL at' i e f l = l ++ [((e.1, f.1), (at' : Int), (i : Int))] := by unfold nextL; rw [if_pos ⟨hx, by omega, hmem⟩]
  rw [hl'] at hdo hnx
  have hge := decide_eq_true (show 0 ≤ e.1 by omega)
  apply EvC.seq  -- R18
  apply EvC.trd
  · (simp only [go_sem, hge, edgeC]) <;> rfl
  · simp
  refine EvC.cond_true (by (simp only [go_sem]) <;> rfl) ?_
  refine EvC.rg (by (simp only [go_sem]) <;> rfl) (by simp [room_eq, AV.norefs, AV.noref]; omega) ?_  -- R19
  refine EvC.rg (by (simp only [go_sem]) <;> rfl) hIi ?_  -- R7
  exact ⟨[(0, 0)], (m, i + 1, l ++ [((e.1, f.1), (at' : Int), (i : Int))]), rfl, (by (simp only [go_sem, edgeC]) <;> rfl), ⟨hnx.1, hnx.2, by rw [List.getElem?_append_left hat]; exact he, hdo, by simp only; omega⟩, by simp⟩
end Go.Avl
namespace Go.Avl
open Go Go.Proofs.Try
set_option maxRecDepth 10000
set_option linter.unusedSimpArgs false

def sameR (a b : Mach) : Bool := decide (a.ins = b.ins ∧ a.outs = b.outs ∧ a.rows.map (·.2) = b.rows.map (·.2))
theorem sameR_false {a b : Mach} (h : ¬ (a.ins = b.ins ∧ a.outs = b.outs ∧ a.rows.map (·.2) = b.rows.map (·.2))) : sameR a b = false := decide_eq_false h
theorem take_snoc_eq {α β : Type} {f : α → β} {l l' : List α} {i : Nat} {x y : α} (hx : l[i]? = some x) (hy : l'[i]? = some y) (h : (l.take i).map f = (l'.take i).map f) (e : f x = f y) : (l.take (i + 1)).map f = (l'.take (i + 1)).map f := by
  rw [List.take_add_one, List.take_add_one, hx, hy, List.map_append, List.map_append, h]; simp [e]

theorem same_is (a b : Mach) (ha : a.rows.length < 1000000 ∧ ∀ r ∈ a.rows, r.2.length < 1000000) : PureIs prog 17 [.ag a.cells, .ag b.cells] (.sc (.bool (sameR a b))) := by
  refine PureIs.of (nv := 7) (hid := [27, 32, 47, 55, 74]) func17 rfl (by kernel_rfl) (by simp [ntmps17]) fun _ => ?_
  rw [ntmps17, results17]
  refine EvC.seq (EvC.rg (by (simp only [go_sem, Mach.cells]) <;> rfl) (by simp) ?_)  -- R0
  refine EvC.frzB 0 (by (simp only [go_sem]) <;> rfl) ?_
  refine EvC.frzB 1 (by (simp only [go_sem]) <;> rfl) ?_
  refine EvC.seq ?_
  apply EvC.seq  -- R1
  apply EvC.trd
  · (simp only [go_sem]) <;> rfl
  · simp
  refine EvC.cond (by (simp only [go_sem]) <;> rfl) (fun hc => ?_) (fun hc => ?_)
  · refine EvC.seq (EvC.rg (by (simp only [go_sem]) <;> rfl) (by simp) ?_)  -- R2
    refine EvC.ret ⟨.inl rfl, _, (by (simp only [go_sem]) <;> rfl), ?_, rfl⟩
    simp only [go_sem]
    rw [sameR_false]
    rintro ⟨h1, h2, h3⟩
    have h4 : a.rows.length = b.rows.length := by simpa using congrArg List.length h3
    simp [h1, h2, h4] at hc
  have hh : a.ins = b.ins ∧ a.outs = b.outs ∧ a.rows.length = b.rows.length := by
    by_cases h1 : a.ins = b.ins
    · by_cases h2 : a.outs = b.outs
      · simp [h1, h2] at hc; omega
      · simp [h1, h2] at hc
    · simp [h1] at hc
  obtain ⟨h1, h2, h3⟩ := hh
  clear hc
  refine EvC.skip ?_
  refine EvC.seq ?_
  refine EvC.seq (EvC.rg (by (simp only [go_sem]) <;> rfl) (by simp) ?_)  -- R3
  refine EvC.block ?_  -- 0
  refine EvC.loopS (σ := Nat) (fun i => ⟨[(2, .ia a.cells), (3, .ia b.cells), (5, .sc (.int .i64 i))], [], [], 0⟩) (fun i => a.rows.length - i) (fun i => i ≤ a.rows.length ∧ (a.rows.take i).map (·.2) = (b.rows.take i).map (·.2)) [2, 3, 5] 0 ?_ ?_
  · exact ⟨[], 0, rfl, (by (simp only [go_sem, Mach.cells]) <;> rfl), Nat.zero_le _, rfl⟩
  rintro i ⟨hi, ht⟩
  refine EvC.seq ?_
  refine EvC.seq (EvC.rg (by (simp only [go_sem, Mach.cells]) <;> rfl) (by simp) ?_)  -- R4
  refine EvC.cond (by (simp only [go_sem]) <;> rfl) (fun hc => ?_) (fun hc => ?_)
  rotate_left
  · refine EvC.exit ?_  -- 0
    have hc : ¬ i < a.rows.length := by simpa using hc
    rw [List.take_of_length_le (by omega), List.take_of_length_le (by omega)] at ht
    refine EvC.seq (EvC.rg (by (simp only [go_sem]) <;> rfl) (by simp) ?_)  -- R13
    refine EvC.ret ⟨.inl rfl, _, (by (simp only [go_sem]) <;> rfl), ?_, rfl⟩
    simp only [go_sem]
    have : sameR a b = true := decide_eq_true ⟨h1, h2, ht⟩
    rw [this]
  have hc : i < a.rows.length := by simpa using hc
  have hx : a.rows[i]? = some a.rows[i] := List.getElem?_eq_getElem hc
  have hy : b.rows[i]? = some (b.rows[i]'(by omega)) := List.getElem?_eq_getElem _
  have hrl := ha.2 _ (List.getElem_mem hc)
  generalize a.rows[i] = r at hx hrl
  generalize b.rows[i]'(by omega) = s at hy
  have hrs : a.rows.map (·.2) = b.rows.map (·.2) → r.2 = s.2 := fun h => by
    have h5 : (a.rows.map (·.2))[i]? = (b.rows.map (·.2))[i]? := by rw [h]
    rw [List.getElem?_map, List.getElem?_map, hx, hy] at h5
    simpa using h5
  refine EvC.skip ?_
  refine EvC.seq ?_
  refine EvC.block ?_  -- 1
  refine EvC.seq ?_
  apply EvC.seq  -- R6
  apply EvC.drd mixed
  · (simp only [go_sem, Mach.cells, hx, hy, rowC, List.length_map]) <;> rfl
  · simp
  · kernel_rfl
  refine EvC.cond (by (simp only [go_sem]) <;> rfl) (fun hc => ?_) (fun hc => ?_)
  · have hc : ¬ r.2.length = s.2.length := by
      have : ¬ (r.2.length : Int) = s.2.length := by simpa using hc
      omega
    refine EvC.seq (EvC.rg (by (simp only [go_sem]) <;> rfl) (by simp) ?_)  -- R7
    refine EvC.ret ⟨.inl rfl, _, (by (simp only [go_sem]) <;> rfl), ?_, rfl⟩
    simp only [go_sem]
    rw [sameR_false fun h => hc (by rw [hrs h.2.2])]
  have hlen : r.2.length = s.2.length := by
    have : (r.2.length : Int) = s.2.length := by simpa using hc
    omega
  refine EvC.skip ?_
  refine EvC.seq (EvC.rg (by (simp only [go_sem]) <;> rfl) (by simp) ?_)  -- R8
  refine EvC.block ?_  -- 2
  refine EvC.loopS (σ := Nat) (fun j => ⟨[(2, .ia a.cells), (3, .ia b.cells), (5, .sc (.int .i64 i)), (6, .sc (.int .i64 j))], [], [], 0⟩) (fun j => r.2.length - j) (fun j => j ≤ r.2.length ∧ r.2.take j = s.2.take j) [2, 3, 5, 6] 0 ?_ ?_
  · exact ⟨[], 0, rfl, (by (simp only [go_sem, Mach.cells]) <;> rfl), Nat.zero_le _, rfl⟩
  rintro j ⟨hj, htj⟩
  refine EvC.seq ?_
  refine EvC.seq (EvC.rg (by (simp only [go_sem, Mach.cells, hx, hy, rowC, List.length_map]) <;> rfl) (by simp) ?_)  -- R9
  refine EvC.cond (by (simp only [go_sem]) <;> rfl) (fun hc => ?_) (fun hc => ?_)
  rotate_left
  · refine EvC.exit ?_  -- 2
    have hc : ¬ j < r.2.length := by
      have : ¬ (j : Int) < r.2.length := by simpa using hc
      omega
    rw [List.take_of_length_le (by omega), List.take_of_length_le (by omega)] at htj
    refine EvC.rg (by (simp only [go_sem]) <;> rfl) (inI64_of (by omega) (by omega)) ?_  -- R5
    exact ⟨[], i + 1, rfl, (by (simp only [go_sem, Mach.cells]) <;> rfl), ⟨by omega, take_snoc_eq hx hy ht htj⟩, by omega⟩
  have hc : j < r.2.length := by
    have : (j : Int) < r.2.length := by simpa using hc
    omega
  have hex : r.2[j]? = some r.2[j] := List.getElem?_eq_getElem hc
  have hey : s.2[j]? = some (s.2[j]'(by omega)) := List.getElem?_eq_getElem _
  generalize r.2[j] = e at hex
  generalize s.2[j]'(by omega) = f at hey
  refine EvC.skip ?_
  refine EvC.seq ?_
  refine EvC.block ?_  -- 3
  apply EvC.seq  -- R11
  apply EvC.drd mixed
  · (simp only [go_sem, Mach.cells, hx, hy, rowC, hex, hey, edgeC]) <;> rfl
  · simp
  · kernel_rfl
  have hdt : (decide (e.1 = f.1) && (decide (e.2 = f.2) && true)) = decide (e = f) := by
    obtain ⟨a, b⟩ := e; obtain ⟨c, d⟩ := f
    by_cases h1 : a = c <;> by_cases h2 : b = d <;> simp [h1, h2]
  refine EvC.cond (by (simp only [go_sem]) <;> rfl) (fun hc => ?_) (fun hc => ?_)
  · have hef : ¬ e = f := by
      intro h
      rw [decide_eq_true h] at hdt
      simp only [band_t'] at hc hdt
      simp [hdt] at hc
    refine EvC.seq (EvC.rg (by (simp only [go_sem]) <;> rfl) (by simp) ?_)  -- R12
    refine EvC.ret ⟨.inl rfl, _, (by (simp only [go_sem]) <;> rfl), ?_, rfl⟩
    simp only [go_sem]
    rw [sameR_false fun h => hef (by have := hrs h.2.2; rw [this, hey] at hex; exact (Option.some.inj hex).symm)]
  have hef : e = f := by
    by_cases h : e = f
    · exact h
    · rw [decide_eq_false h] at hdt
      simp only [band_t'] at hc hdt
      simp [hdt] at hc
  refine EvC.skip ?_
  refine EvC.rg (by (simp only [go_sem]) <;> rfl) (inI64_of (by omega) (by omega)) ?_  -- R10
  refine ⟨[], j + 1, rfl, (by (simp only [go_sem, Mach.cells]) <;> rfl), ⟨by omega, ?_⟩, by omega⟩
  rw [List.take_add_one, List.take_add_one, htj, hex, hey, hef]
end Go.Avl
namespace Go.Avl
open Go Go.Proofs.Try
set_option maxRecDepth 10000
set_option linter.unusedSimpArgs false

theorem unkss_edges (l : List (Int × Int)) : AV.unkss (l.map edgeC) = l.map edgeC := unkss_map _ (fun _ => rfl) l
theorem unkss_rowC (l : List Row) : AV.unkss (l.map rowC) = l.map rowC := unkss_map _ (fun r => by simp only [rowC, AV.unks, AV.unk, unkss_edges]) l
theorem unkss_rowF (l : List (List (Int × Int))) : AV.unkss (l.map rowF) = l.map rowF := unkss_map _ (fun r => by simp only [rowF, rowC, AV.unks, AV.unk, unkss_edges]) l
theorem rows_rowF (l : List (List (Int × Int))) : (l.map fun r => (false, r)).map rowC = l.map rowF := by rw [List.map_map]; rfl
/-- A machine in new memory, without spare room. -/
def unfCells (x : Timed) : List AV := [.sc (.int .i64 (x.m.ins + 1)), .sc (.int .i64 (x.m.outs + 1)), .sl false ((unfAll x).1.map rowF) .full]
theorem unfCells_unk (x : Timed) : (AV.ag (unfCells x)).unk = .ag (unfMach x).cells := by
  simp only [unfCells, AV.unk, AV.unks, unkss_rowF, Mach.cells, unfMach, rows_rowF]

theorem unfR_row {x : Timed} : ∀ (f n : Nat) (l : List Cfg), ∀ r ∈ (unfR x f n l).1, r.length = x.m.ins.toNat + 1
  | 0, _, _, r, h => by cases h
  | f + 1, n, l, r, h => by
    rw [unfR] at h
    split at h
    · cases h
    · split at h
      · cases h
      · simp only at h
        rcases List.mem_cons.1 h with rfl | h
        · exact (rowU_len x _ _ _ _).2.2
        · exact unfR_row f (n + 1) _ r h
theorem unfMach_rows {x : Timed} (hi : x.m.ins ≤ 16) : ∀ r ∈ (unfMach x).rows, r.2.length < 1000000 := by
  intro r hr
  obtain ⟨r', h1, rfl⟩ := List.mem_map.1 hr
  have := unfR_row 100 0 _ r' h1
  simp only; omega

def teqR (x y : Timed) : Bool × Int :=
  if checkT x ≠ 0 then (false, checkT x) else if checkT y ≠ 0 then (false, checkT y)
  else if x.m.ins ≠ y.m.ins ∨ x.m.outs ≠ y.m.outs then (false, 5)
  else if x.m.ins = 16 ∨ x.m.outs = 16 ∨ 64 < (unfAll x).2.length then (false, 3)
  else if 64 < (unfAll y).2.length then (false, 3)
  else equalR (unfMach x) (unfMach y)

theorem teq_is (x y : Timed) (hx : (∀ r ∈ x.m.rows, r.2.length < 1000000) ∧ x.ts.length < 1000000) (hy : (∀ r ∈ y.m.rows, r.2.length < 1000000) ∧ y.ts.length < 1000000) :
    PureIs prog 19 [.ag x.cells, .ag y.cells] (.tu [.sc (.bool (teqR x y).1), .sc (.int .i64 (teqR x y).2)]) := by
  refine PureIs.of (nv := 6) (hid := [7, 8, 9, 10, 11, 14, 15, 16, 17, 23, 41, 48, 56]) func19 rfl (by kernel_rfl) (by simp [ntmps19]) fun _ => ?_
  rw [ntmps19, results19]
  refine EvC.seq (EvC.rg (by (simp only [go_sem, Timed.cells]) <;> rfl) (by simp) ?_)  -- R0
  refine EvC.frzB 0 (by (simp only [go_sem]) <;> rfl) ?_
  refine EvC.frzB 1 (by (simp only [go_sem]) <;> rfl) ?_
  refine EvC.seq ?_
  refine EvC.seq (EvC.rg (by (simp only [go_sem]) <;> rfl) (by simp) ?_)  -- R1
  refine EvC.block ?_  -- 0
  refine EvC.loopS (σ := Nat) (fun i => ⟨[(2, .ia x.cells), (3, .ia y.cells), (14, .tl 0 2 false), (15, .sc (.int .i64 2)), (16, .sc (.int .i64 i))], [], [(0, .arr 4 [x.cells, y.cells] false)], 1⟩) (fun i => 2 - i) (fun i => i ≤ 2 ∧ (1 ≤ i → checkT x = 0) ∧ (2 ≤ i → checkT y = 0)) [2, 3, 14, 15, 16] 1 ?_ ?_
  · exact ⟨[(6, 0)], 0, rfl, (by (simp only [go_sem, Timed.cells]) <;> rfl), Nat.zero_le _, fun h => by omega, fun h => by omega⟩
  rintro i ⟨hi2, hi1, hi22⟩
  refine EvC.seq (EvC.rg (by (simp only [go_sem]) <;> rfl) (by simp) ?_)  -- R2
  refine EvC.seq ?_
  refine EvC.cond (by (simp only [go_sem]) <;> rfl) (fun hc => ?_) (fun hc => ?_)
  · have hc : i < 2 := by
      have : (i : Int) < 2 := by simpa using hc
      omega
    refine EvC.skip ?_
    by_cases hi0 : i = 0
    · skip
      subst hi0
      refine EvC.seq ?_
      refine EvC.block ?_  -- 1
      refine EvC.seq (EvC.rg (by (simp only [go_sem, Timed.cells]) <;> rfl) (by simp) ?_)  -- R3
      apply EvC.seq  -- R4
      apply EvC.tr
      · apply Tr.run
        · (simp only [go_sem]) <;> rfl
        · simp
        apply Tr.cons
        · exact .call rfl rfl (by (simp only [go_sem]) <;> rfl) (by (simp only [go_sem]) <;> rfl) (by (simp only [go_sem]) <;> rfl) (by (simp only [go_sem]) <;> rfl) (by (simp only [go_sem]) <;> rfl) (by simpa [Timed.cells] using checkT_is x hx.1 hx.2)
        apply Tr.done
        · (simp only [go_sem]) <;> rfl
        · simp
      refine EvC.seq (EvC.rg (by (simp only [go_sem]) <;> rfl) (by simp) ?_)  -- R5
      refine EvC.cond (by (simp only [go_sem]) <;> rfl) (fun hc => ?_) (fun hc => ?_)
      · have hc : checkT x ≠ 0 := by simpa using hc
        refine EvC.seq (EvC.rg (by (simp only [go_sem]) <;> rfl) (by simp) ?_)  -- R6
        refine EvC.ret ⟨.inl rfl, _, (by (simp only [go_sem]) <;> rfl), ?_, rfl⟩
        simp only [go_sem]
        rw [teqR, if_pos hc]
      have hc : checkT x = 0 := by simpa using hc
      refine EvC.skip ?_
      refine EvC.rg (by (simp only [go_sem]) <;> rfl) (inI64_of (by omega) (by omega)) ?_  -- R7
      exact ⟨[(0, 0)], 1, rfl, (by (simp only [go_sem, Timed.cells]) <;> rfl), ⟨by omega, fun _ => hc, fun h => by omega⟩, by omega⟩
    have hi0 : i = 1 := by omega
    subst hi0
    refine EvC.seq ?_
    refine EvC.block ?_  -- 1
    refine EvC.seq (EvC.rg (by (simp only [go_sem, Timed.cells]) <;> rfl) (by simp) ?_)  -- R3
    apply EvC.seq  -- R4
    apply EvC.tr
    · apply Tr.run
      · (simp only [go_sem]) <;> rfl
      · simp
      apply Tr.cons
      · exact .call rfl rfl (by (simp only [go_sem]) <;> rfl) (by (simp only [go_sem]) <;> rfl) (by (simp only [go_sem]) <;> rfl) (by (simp only [go_sem]) <;> rfl) (by (simp only [go_sem]) <;> rfl) (by simpa [Timed.cells] using checkT_is y hy.1 hy.2)
      apply Tr.done
      · (simp only [go_sem]) <;> rfl
      · simp
    refine EvC.seq (EvC.rg (by (simp only [go_sem]) <;> rfl) (by simp) ?_)  -- R5
    refine EvC.cond (by (simp only [go_sem]) <;> rfl) (fun hc => ?_) (fun hc => ?_)
    · have hc : checkT y ≠ 0 := by simpa using hc
      refine EvC.seq (EvC.rg (by (simp only [go_sem]) <;> rfl) (by simp) ?_)  -- R6
      refine EvC.ret ⟨.inl rfl, _, (by (simp only [go_sem]) <;> rfl), ?_, rfl⟩
      simp only [go_sem]
      rw [teqR, if_neg (by simpa using hi1 (by omega)), if_pos hc]
    have hc : checkT y = 0 := by simpa using hc
    refine EvC.skip ?_
    refine EvC.rg (by (simp only [go_sem]) <;> rfl) (inI64_of (by omega) (by omega)) ?_  -- R7
    exact ⟨[(0, 0)], 2, rfl, (by (simp only [go_sem, Timed.cells]) <;> rfl), ⟨by omega, fun _ => hi1 (by omega), fun _ => hc⟩, by omega⟩
  refine EvC.exit ?_  -- 0
  have hc : ¬ i < 2 := by
    have : ¬ (i : Int) < 2 := by simpa using hc
    omega
  have hcx := hi1 (by omega)
  have hcy := hi22 (by omega)
  clear hi1 hi22 hi2 hc
  have hvx : ValidT x := .of hcx
  have hvy : ValidT y := .of hcy
  refine EvC.seq ?_
  apply EvC.seq  -- R8
  apply EvC.trd
  · (simp only [go_sem, Timed.cells]) <;> rfl
  · simp
  refine EvC.cond (by (simp only [go_sem]) <;> rfl) (fun hc => ?_) (fun hc => ?_)
  · have hc : x.m.ins ≠ y.m.ins ∨ x.m.outs ≠ y.m.outs := by
      by_cases h : x.m.ins = y.m.ins
      · simp [h] at hc; exact .inr hc
      · exact .inl h
    refine EvC.seq (EvC.rg (by (simp only [go_sem]) <;> rfl) (by simp) ?_)  -- R9
    refine EvC.ret ⟨.inl rfl, _, (by (simp only [go_sem]) <;> rfl), ?_, rfl⟩
    simp only [go_sem]
    rw [teqR, if_neg (by simpa using hcx), if_neg (by simpa using hcy), if_pos hc]
  have hio : ¬ (x.m.ins ≠ y.m.ins ∨ x.m.outs ≠ y.m.outs) := by
    by_cases h : x.m.ins = y.m.ins
    · simp [h] at hc; simp [h, hc]
    · simp [h] at hc
  have hT : teqR x y = if x.m.ins = 16 ∨ x.m.outs = 16 ∨ 64 < (unfAll x).2.length then (false, 3) else if 64 < (unfAll y).2.length then (false, 3) else equalR (unfMach x) (unfMach y) := by
    rw [teqR, if_neg (by simpa using hcx), if_neg (by simpa using hcy), if_neg hio]
  rw [hT]
  clear hc hT
  have hux := unfold_is x hx.1 hx.2
  have huy := unfold_is y hy.1 hy.2
  refine EvC.skip ?_
  by_cases hbad : x.m.ins = 16 ∨ x.m.outs = 16 ∨ 64 < (unfAll x).2.length
  · have hua : unfoldA x = .tu [zeroM, .sc (.int .i64 3)] := by
      rw [unfoldA, if_neg (by simpa using hcx)]
      by_cases h1 : x.m.ins = 16 ∨ x.m.outs = 16
      · rw [if_pos h1]
      · rw [if_neg h1, if_neg (by omega)]
    rw [hua] at hux
    rw [if_pos hbad]
    apply EvC.seq  -- R10
    apply EvC.tr
    · apply Tr.run
      · (simp only [go_sem, Timed.cells]) <;> rfl
      · simp
      apply Tr.cons
      · exact .call rfl rfl (by (simp only [go_sem]) <;> rfl) (by (simp only [go_sem]) <;> rfl) (by (simp only [go_sem]) <;> rfl) (by (simp only [go_sem]) <;> rfl) (by (simp only [go_sem]) <;> rfl) (by simpa [Timed.cells] using hux)
      apply Tr.done
      · (simp only [go_sem, zeroM]) <;> rfl
      · simp
    refine EvC.seq ?_
    refine EvC.seq (EvC.rg (by (simp only [go_sem]) <;> rfl) (by simp) ?_)  -- R11
    refine EvC.cond_true (by (simp only [go_sem]) <;> rfl) ?_
    refine EvC.seq (EvC.rg (by (simp only [go_sem]) <;> rfl) (by simp) ?_)  -- R12
    refine EvC.ret ⟨.inl rfl, _, (by (simp only [go_sem]) <;> rfl), ?_, rfl⟩
    simp only [go_sem]
  have hua : unfoldA x = .tu [.ag (unfCells x), .sc (.int .i64 0)] := by
    rw [unfoldA, if_neg (by simpa using hcx), if_neg (by omega), if_pos (by omega)]; rfl
  rw [hua] at hux
  rw [if_neg hbad]
  apply EvC.seq  -- R10
  apply EvC.tr
  · apply Tr.run
    · (simp only [go_sem, Timed.cells]) <;> rfl
    · simp
    apply Tr.cons
    · exact .call rfl rfl (by (simp only [go_sem]) <;> rfl) (by (simp only [go_sem]) <;> rfl) (by (simp only [go_sem]) <;> rfl) (by (simp only [go_sem]) <;> rfl) (by (simp only [go_sem]) <;> rfl) (by simpa [Timed.cells] using hux)
    apply Tr.done
    · (simp only [go_sem, unfCells]) <;> rfl
    · simp
  refine EvC.seq ?_
  refine EvC.seq (EvC.rg (by (simp only [go_sem]) <;> rfl) (by simp) ?_)  -- R11
  refine EvC.cond_false (by (simp only [go_sem]) <;> rfl) ?_
  refine EvC.skip ?_
  by_cases hbad2 : 64 < (unfAll y).2.length
  · have hua : unfoldA y = .tu [zeroM, .sc (.int .i64 3)] := by
      rw [unfoldA, if_neg (by simpa using hcy), if_neg (by omega), if_neg (by omega)]
    rw [hua] at huy
    rw [if_pos hbad2]
    apply EvC.seq  -- R13
    apply EvC.tr
    · apply Tr.run
      · (simp only [go_sem, Timed.cells]) <;> rfl
      · simp
      apply Tr.cons
      · exact .call rfl rfl (by (simp only [go_sem]) <;> rfl) (by (simp only [go_sem]) <;> rfl) (by (simp only [go_sem]) <;> rfl) (by (simp only [go_sem]) <;> rfl) (by (simp only [go_sem]) <;> rfl) (by simpa [Timed.cells] using huy)
      apply Tr.done
      · (simp only [go_sem, zeroM]) <;> rfl
      · simp
    refine EvC.seq ?_
    refine EvC.seq (EvC.rg (by (simp only [go_sem]) <;> rfl) (by simp) ?_)  -- R14
    refine EvC.cond_true (by (simp only [go_sem]) <;> rfl) ?_
    refine EvC.seq (EvC.rg (by (simp only [go_sem]) <;> rfl) (by simp) ?_)  -- R15
    refine EvC.ret ⟨.inl rfl, _, (by (simp only [go_sem]) <;> rfl), ?_, rfl⟩
    simp only [go_sem]
  have huay : unfoldA y = .tu [.ag (unfCells y), .sc (.int .i64 0)] := by
    rw [unfoldA, if_neg (by simpa using hcy), if_neg (by omega), if_pos (by omega)]; rfl
  rw [huay] at huy
  rw [if_neg hbad2]
  apply EvC.seq  -- R13
  apply EvC.tr
  · apply Tr.run
    · (simp only [go_sem, Timed.cells]) <;> rfl
    · simp
    apply Tr.cons
    · exact .call rfl rfl (by (simp only [go_sem]) <;> rfl) (by (simp only [go_sem]) <;> rfl) (by (simp only [go_sem]) <;> rfl) (by (simp only [go_sem]) <;> rfl) (by (simp only [go_sem]) <;> rfl) (by simpa [Timed.cells] using huy)
    apply Tr.done
    · (simp only [go_sem, unfCells]) <;> rfl
    · simp
  refine EvC.seq ?_
  refine EvC.seq (EvC.rg (by (simp only [go_sem]) <;> rfl) (by simp) ?_)  -- R14
  refine EvC.cond_false (by (simp only [go_sem]) <;> rfl) ?_
  refine EvC.skip ?_
  have heq : PureIs prog 32 [.ag (unfCells x), .ag (unfCells y)] (.tu [.sc (.bool (equalR (unfMach x) (unfMach y)).1), .sc (.int .i64 (equalR (unfMach x) (unfMach y)).2)]) := by
    refine PureIs.weak ?_
    rw [List.map_cons, List.map_cons, List.map_nil, unfCells_unk, unfCells_unk]
    exact equals_equal_is _ _ (unfMach_rows hvx.m.ins.2) (unfMach_rows hvy.m.ins.2)
  apply EvC.seq  -- R16
  apply EvC.tr
  · apply Tr.run
    · (simp only [go_sem]) <;> rfl
    · simp
    apply Tr.cons
    · exact .call rfl rfl (by (simp only [go_sem]) <;> rfl) (by (simp only [go_sem]) <;> rfl) (by (simp only [go_sem]) <;> rfl) (by (simp only [go_sem]) <;> rfl) (by (simp only [go_sem]) <;> rfl) (by simpa [unfCells] using heq)
    apply Tr.done
    · (simp only [go_sem]) <;> rfl
    · simp
  refine EvC.ret ⟨.inl rfl, _, (by (simp only [go_sem]) <;> rfl), ?_, rfl⟩
  simp only [go_sem]
end Go.Avl
namespace Go.Avl
open Go Go.Proofs.Try
set_option maxRecDepth 10000
set_option linter.unusedSimpArgs false

theorem unkss_timC (l : List Tim) : AV.unkss (l.map timC) = l.map timC := unkss_map _ (fun _ => rfl) l
theorem lampA_unk (n : Int) : (lampA n).unk = .ag (lampT n).cells := by
  simp only [lampA, AV.unk, AV.unks, AV.unkss, lampT, Timed.cells, List.map_cons, List.map_nil, rowC, edgeC, timC]
theorem lamp_small (n : Int) : (∀ r ∈ (lampT n).m.rows, r.2.length < 1000000) ∧ (lampT n).ts.length < 1000000 := by
  refine ⟨fun r hr => ?_, by simp [lampT]⟩
  simp [lampT] at hr
  subst hr; simp
theorem lamp_run (n : Int) (es : List Evt) (h : es.length < 1000000) (r : AV) (hr : runA (lampT n) es = r) : PureIs prog 11 [lampA n, .sl false (es.map edgeC) .full] r := by
  have h1 := run_is (lampT n) (lamp_small n).1 (lamp_small n).2 false es .unk h
  rw [hr] at h1
  refine PureIs.weak ?_
  rw [List.map_cons, List.map_cons, List.map_nil, lampA_unk]
  simp only [AV.unk, unkss_edges]
  exact h1
theorem runA_ok {x : Timed} {es : List Evt} {l : List Rep} (h1 : checkT x = 0) (h2 : checkEvts x.m.ins es = 0) (h3 : runP x es (0, 0) 0 [] = l) (h4 : l.length ≤ 4096) : runA x es = .tu [.sl l.isEmpty (l.map edgeC) .full, .sc (.int .i64 0)] := by
  rw [runA, if_neg (by simpa using h1), if_neg (by simpa using h2), h3, if_pos h4]

def wantM : Mach := ⟨2, 3, false, [(false, [(1, 0), (0, 2)]), (false, [(1, 0), (2, 2)]), (false, [(1, 0), (3, 2)]), (false, [(1, 0), (0, 1)])]⟩
theorem lives_is : PureIs prog 14 [] (.sc (.bool true)) := by
  refine PureIs.of (nv := 12) (hid := [59, 112]) func14 rfl (by kernel_rfl) (by simp [ntmps14]) fun _ => ?_
  rw [ntmps14, results14]
  have r1 := lamp_run 3 [(2, 0)] (by decide) _ (runA_ok (l := [(2, 0)]) (by decide +kernel) (by decide +kernel) (by decide +kernel) (by decide))
  have r2 := lamp_run 3 [(2, 0), (3, 0)] (by decide) _ (runA_ok (l := [(2, 0), (5, 1), (5, 0)]) (by decide +kernel) (by decide +kernel) (by decide +kernel) (by decide))
  have r3 := lamp_run 3 [(0, 0), (2, 0), (10, 0)] (by decide) _ (runA_ok (l := [(0, 0), (2, 0), (5, 1), (12, 0)]) (by decide +kernel) (by decide +kernel) (by decide +kernel) (by decide))
  refine EvC.seq (EvC.rg (by (simp only [go_sem]) <;> rfl) (by simp) ?_)  -- R0
  apply EvC.seq  -- R1
  apply EvC.tr
  · apply Tr.cons
    · exact .call rfl rfl (by (simp only [go_sem]) <;> rfl) (by (simp only [go_sem]) <;> rfl) (by (simp only [go_sem]) <;> rfl) (by (simp only [go_sem]) <;> rfl) (by (simp only [go_sem]) <;> rfl) (lamp_is 3)
    apply Tr.done
    · (simp only [go_sem, lampA]) <;> rfl
    · simp
  apply EvC.seq  -- R2
  apply EvC.tr
  · apply Tr.run
    · (simp only [go_sem]) <;> rfl
    · simp
    apply Tr.cons
    · exact .call rfl rfl (by (simp only [go_sem]) <;> rfl) (by (simp only [go_sem]) <;> rfl) (by (simp only [go_sem]) <;> rfl) (by (simp only [go_sem]) <;> rfl) (by (simp only [go_sem]) <;> rfl) (by simpa [lampA, edgeC] using r1)
    apply Tr.done
    · (simp only [go_sem]) <;> rfl
    · simp
  apply EvC.seq  -- R3
  apply EvC.tr
  · apply Tr.run
    · (simp only [go_sem]) <;> rfl
    · simp
    apply Tr.cons
    · exact .call rfl rfl (by (simp only [go_sem]) <;> rfl) (by (simp only [go_sem]) <;> rfl) (by (simp only [go_sem]) <;> rfl) (by (simp only [go_sem]) <;> rfl) (by (simp only [go_sem]) <;> rfl) (by simpa [lampA, edgeC] using r2)
    apply Tr.done
    · (simp only [go_sem]) <;> rfl
    · simp
  apply EvC.seq  -- R4
  apply EvC.tr
  · apply Tr.run
    · (simp only [go_sem]) <;> rfl
    · simp
    apply Tr.cons
    · exact .call rfl rfl (by (simp only [go_sem]) <;> rfl) (by (simp only [go_sem]) <;> rfl) (by (simp only [go_sem]) <;> rfl) (by (simp only [go_sem]) <;> rfl) (by (simp only [go_sem]) <;> rfl) (by simpa [lampA, edgeC] using r3)
    apply Tr.done
    · (simp only [go_sem]) <;> rfl
    · simp
  have p1 := replies_is false [(2, 0)] 0 false [(2, 0)] .full (by decide)
  have p2 := replies_is false [(2, 0), (5, 1), (5, 0)] 0 false [(2, 0), (5, 1), (5, 0)] .full (by decide)
  have p3 := replies_is false [(0, 0), (2, 0), (5, 1), (12, 0)] 0 false [(0, 0), (2, 0), (5, 1), (12, 0)] .full (by decide)
  have e1 : repliesR [(2, 0)] 0 [(2, 0)] = 1 := by decide
  have e2 : repliesR [(2, 0), (5, 1), (5, 0)] 0 [(2, 0), (5, 1), (5, 0)] = 1 := by decide
  have e3 : repliesR [(0, 0), (2, 0), (5, 1), (12, 0)] 0 [(0, 0), (2, 0), (5, 1), (12, 0)] = 1 := by decide
  rw [e1] at p1; rw [e2] at p2; rw [e3] at p3
  refine EvC.seq ?_
  apply EvC.seq  -- R5
  apply EvC.tr
  · apply Tr.run
    · (simp only [go_sem]) <;> rfl
    · simp
    apply Tr.cons
    · exact .call rfl rfl (by (simp only [go_sem]) <;> rfl) (by (simp only [go_sem]) <;> rfl) (by (simp only [go_sem]) <;> rfl) (by (simp only [go_sem]) <;> rfl) (by (simp only [go_sem]) <;> rfl) (by simpa [edgeC] using p1)
    apply Tr.run
    · (simp only [go_sem]) <;> rfl
    · simp
    apply Tr.cons
    · exact .call rfl rfl (by (simp only [go_sem]) <;> rfl) (by (simp only [go_sem]) <;> rfl) (by (simp only [go_sem]) <;> rfl) (by (simp only [go_sem]) <;> rfl) (by (simp only [go_sem]) <;> rfl) (by simpa [edgeC] using p2)
    apply Tr.run
    · (simp only [go_sem]) <;> rfl
    · simp [inI64_eq]
    apply Tr.cons
    · exact .call rfl rfl (by (simp only [go_sem]) <;> rfl) (by (simp only [go_sem]) <;> rfl) (by (simp only [go_sem]) <;> rfl) (by (simp only [go_sem]) <;> rfl) (by (simp only [go_sem]) <;> rfl) (by simpa [edgeC] using p3)
    apply Tr.done
    · (simp only [go_sem]) <;> rfl
    · simp [inI64_eq]
  refine EvC.cond_false (by (simp only [go_sem]) <;> rfl) ?_
  refine EvC.skip ?_
  have ua : (unfAll (lampT 3)).1 = [[(1, 0), (0, 2)], [(1, 0), (2, 2)], [(1, 0), (3, 2)], [(1, 0), (0, 1)]] := by decide +kernel
  have ua2 : unfoldA (lampT 3) = .tu [.ag (unfCells (lampT 3)), .sc (.int .i64 0)] := by
    rw [unfoldA, if_neg (by decide +kernel), if_neg (by decide +kernel), if_pos (by decide +kernel)]; rfl
  have uc : unfCells (lampT 3) = [.sc (.int .i64 2), .sc (.int .i64 3), .sl false ([[(1, 0), (0, 2)], [(1, 0), (2, 2)], [(1, 0), (3, 2)], [(1, 0), (0, 1)]].map rowF) .full] := by
    unfold unfCells; rw [ua]; rfl
  have u1 : PureIs prog 15 [lampA 3] (.tu [.ag [.sc (.int .i64 2), .sc (.int .i64 3), .sl false ([[(1, 0), (0, 2)], [(1, 0), (2, 2)], [(1, 0), (3, 2)], [(1, 0), (0, 1)]].map rowF) .full], .sc (.int .i64 0)]) := by
    refine PureIs.weak ?_
    rw [List.map_cons, List.map_nil, lampA_unk, ← uc, ← ua2]
    exact unfold_is (lampT 3) (lamp_small 3).1 (lamp_small 3).2
  have t1 : PureIs prog 19 [lampA 3, lampA 3] (.tu [.sc (.bool true), .sc (.int .i64 0)]) := by
    refine PureIs.weak ?_
    have h := teq_is (lampT 3) (lampT 3) (lamp_small 3) (lamp_small 3)
    have e : teqR (lampT 3) (lampT 3) = (true, 0) := by decide +kernel
    rw [e] at h
    rw [List.map_cons, List.map_cons, List.map_nil, lampA_unk]; exact h
  have t2 : PureIs prog 19 [lampA 3, lampA 4] (.tu [.sc (.bool false), .sc (.int .i64 0)]) := by
    refine PureIs.weak ?_
    have h := teq_is (lampT 3) (lampT 4) (lamp_small 3) (lamp_small 4)
    have e : teqR (lampT 3) (lampT 4) = (false, 0) := by decide +kernel
    rw [e] at h
    rw [List.map_cons, List.map_cons, List.map_nil, lampA_unk, lampA_unk]; exact h
  have s1 : PureIs prog 17 [.ag [.sc (.int .i64 2), .sc (.int .i64 3), .sl false ([[(1, 0), (0, 2)], [(1, 0), (2, 2)], [(1, 0), (3, 2)], [(1, 0), (0, 1)]].map rowF) .full],
      .ag [.sc (.int .i64 2), .sc (.int .i64 3), .sl false [[.sl false [[.sc (.int .i64 1), .sc (.int .i64 0)], [.sc (.int .i64 0), .sc (.int .i64 2)]] .full], [.sl false [[.sc (.int .i64 1), .sc (.int .i64 0)], [.sc (.int .i64 2), .sc (.int .i64 2)]] .full],
        [.sl false [[.sc (.int .i64 1), .sc (.int .i64 0)], [.sc (.int .i64 3), .sc (.int .i64 2)]] .full], [.sl false [[.sc (.int .i64 1), .sc (.int .i64 0)], [.sc (.int .i64 0), .sc (.int .i64 1)]] .full]] .full]] (.sc (.bool true)) := by
    refine PureIs.weak ?_
    have h := same_is wantM wantM (by decide)
    have e : sameR wantM wantM = true := by decide
    rw [e] at h
    simpa [AV.unk, AV.unks, AV.unkss, wantM, Mach.cells, rowC, rowF, edgeC] using h
  apply EvC.seq  -- R7
  apply EvC.tr
  · apply Tr.run
    · (simp only [go_sem, lampA]) <;> rfl
    · simp
    apply Tr.cons
    · exact .call rfl rfl (by (simp only [go_sem]) <;> rfl) (by (simp only [go_sem]) <;> rfl) (by (simp only [go_sem]) <;> rfl) (by (simp only [go_sem]) <;> rfl) (by (simp only [go_sem]) <;> rfl) (by simpa [lampA] using u1)
    apply Tr.done
    · (simp only [go_sem]) <;> rfl
    · simp [rowF, rowC, edgeC]
  refine EvC.seq (EvC.rg (by (simp only [go_sem]) <;> rfl) (by simp) ?_)  -- R8
  apply EvC.seq  -- R9
  apply EvC.tr
  · apply Tr.run
    · (simp only [go_sem, lampA]) <;> rfl
    · simp
    apply Tr.cons
    · exact .call rfl rfl (by (simp only [go_sem]) <;> rfl) (by (simp only [go_sem]) <;> rfl) (by (simp only [go_sem]) <;> rfl) (by (simp only [go_sem]) <;> rfl) (by (simp only [go_sem]) <;> rfl) (by simpa [lampA] using t1)
    apply Tr.done
    · (simp only [go_sem]) <;> rfl
    · simp
  apply EvC.seq  -- R10
  apply EvC.drw mixed
  · apply Tr.run
    · (simp only [go_sem, lampA]) <;> rfl
    · simp
    apply Tr.cons
    · exact .call rfl rfl (by (simp only [go_sem]) <;> rfl) (by (simp only [go_sem]) <;> rfl) (by (simp only [go_sem]) <;> rfl) (by (simp only [go_sem]) <;> rfl) (by (simp only [go_sem]) <;> rfl) (lamp_is 4)
    apply Tr.cons
    · exact .call rfl rfl (by (simp only [go_sem]) <;> rfl) (by (simp only [go_sem]) <;> rfl) (by (simp only [go_sem]) <;> rfl) (by (simp only [go_sem, lampA]) <;> rfl) (by (simp only [go_sem]) <;> rfl) (by simpa [lampA] using t2)
    apply Tr.done
    · (simp only [go_sem]) <;> rfl
    · simp
  · kernel_rfl
  apply EvC.seq  -- R11
  apply EvC.tr
  · apply Tr.run
    · (simp only [go_sem]) <;> rfl
    · simp
    apply Tr.cons
    · exact .callG rfl rfl (by (simp only [go_sem]) <;> rfl) rfl (by (simp only [go_sem]) <;> rfl) (by (simp only [go_sem]) <;> rfl) (by (simp only [go_sem]) <;> rfl) (by (simp only [go_sem]) <;> rfl) (by (simp only [go_sem]) <;> rfl) (by simpa [rowF, rowC, edgeC] using s1)
    apply Tr.done
    · (simp only [go_sem]) <;> rfl
    · simp
  refine EvC.ret ⟨.inl rfl, _, (by (simp only [go_sem]) <;> rfl), ?_, rfl⟩
  simp only [go_sem]
end Go.Avl
namespace Go.Avl
open Go Go.Proofs.Try
set_option maxRecDepth 10000
set_option linter.unusedSimpArgs false

/-- The plain data of a machine. -/
structure LM where
  st : Int
  ins : Int
  outs : Int
  part : Bool
  nl : Bool
  es : List Int
  cap : Cp
def u16C (x : Int) : List AV := [.sc (.int .u16 x)]
@[go_sem] theorem norefs_u16 (l : List Int) : (l.map u16C).all AV.norefs = true := by simp [List.all_eq_true, u16C, AV.norefs, AV.noref]
def LM.cells (x : LM) : List AV := [.sc (.int .u8 x.st), .sc (.int .u8 x.ins), .sc (.int .u8 x.outs), .sc (.bool x.part), .sl x.nl (x.es.map u16C) x.cap]
structure LM.Ok (x : LM) : Prop where
  st : 0 ≤ x.st
  ins : 0 ≤ x.ins
  outs : 0 ≤ x.outs
  es : ∀ e ∈ x.es, 0 ≤ e ∧ e < 65536
def LM.n (x : LM) : Nat := (1 + x.st % 6).toNat
def LM.i (x : LM) : Nat := (1 + x.ins % 3).toNat
def LM.o (x : LM) : Int := 1 + x.outs % 3
def LM.v (x : LM) (s i : Nat) : Int := (x.es[s * x.i + i]?).getD 0
def LM.edge (x : LM) (s i : Nat) : Int × Int :=
  if x.part = true ∧ x.v s i % 4 = 3 then (-1, -1) else (x.v s i / 4 % x.n, x.v s i / 4 / x.n % x.o)
def LM.row (x : LM) (s : Nat) : List (Int × Int) := (List.range x.i).map (x.edge s)
def LM.mach (x : LM) : Mach := ⟨x.i, x.o, false, (List.range x.n).map fun s => (false, x.row s)⟩

theorem LM.bounds {x : LM} (h : x.Ok) : 1 ≤ x.n ∧ x.n ≤ 6 ∧ 1 ≤ x.i ∧ x.i ≤ 3 ∧ 1 ≤ x.o ∧ x.o ≤ 3 ∧ (x.n : Int) = 1 + x.st % 6 ∧ (x.i : Int) = 1 + x.ins % 3 := by
  have h1 := h.st
  have h2 := h.ins
  have h3 := h.outs
  unfold LM.n LM.i LM.o
  omega
theorem LM.v_ok {x : LM} (h : x.Ok) (s i : Nat) : 0 ≤ x.v s i ∧ x.v s i < 65536 := by
  unfold LM.v
  cases he : x.es[s * x.i + i]? with
  | none => simp
  | some e => exact h.es e (List.mem_of_getElem? he)

theorem mOf_is {x : LM} (h : x.Ok) : PureIs prog 26 [.ag x.cells] (.ag x.mach.cells) := by
  refine PureIs.of (nv := 10) (hid := [28, 34, 47, 60]) func26 rfl (by kernel_rfl) (by simp [ntmps26]) fun _ => ?_
  rw [ntmps26, results26]
  obtain ⟨b1, b2, b3, b4, b5, b6, b7, b8⟩ := LM.bounds h
  have h1 := h.st
  have h2 := h.ins
  have h3 := h.outs
  have hI1 : inI64 (x.st % 6) = true := inI64_of (by omega) (by omega)
  have hI2 : inI64 (x.ins % 3) = true := inI64_of (by omega) (by omega)
  have hI3 : inI64 (x.outs % 3) = true := inI64_of (by omega) (by omega)
  have hI4 : inI64 (1 + x.st % 6) = true := inI64_of (by omega) (by omega)
  have hI5 : inI64 (1 + x.ins % 3) = true := inI64_of (by omega) (by omega)
  have hI6 : inI64 (1 + x.outs % 3) = true := inI64_of (by omega) (by omega)
  refine EvC.seq (EvC.rg (by (simp only [go_sem, LM.cells]) <;> rfl) (by simp) ?_)  -- R0
  refine EvC.frzB 0 (by (simp only [go_sem]) <;> rfl) ?_
  refine EvC.seq (EvC.rg (by (simp only [go_sem]) <;> rfl) (by simp [hI1, hI4, h1]) ?_)  -- R1
  refine EvC.seq (EvC.rg (by (simp only [go_sem]) <;> rfl) (by simp [hI2, hI3, hI5, hI6, h2, h3]) ?_)  -- R2
  refine EvC.seq ?_
  refine EvC.seq (EvC.rg (by (simp only [go_sem]) <;> rfl) (by simp) ?_)  -- R3
  refine EvC.block ?_  -- 0
  have hmem : ∀ {s : Nat}, (fun s => ((false, x.row s) : Row)) s = (false, x.row s) := fun {_} => rfl
  have hO : x.o = 1 + x.outs % 3 := rfl
  refine EvC.ownC 19 2 1 (by (simp only [go_sem]) <;> rfl) ?_
  refine EvC.loopS (σ := Nat) (fun s => ⟨[(1, .ia x.cells), (2, .rf 0 0), (3, .sc (.int .i64 x.n)), (4, .rf 1 0), (5, .sc (.int .i64 s))], [],
      [(0, .cells [.sc (.int .i64 0), .sc (.int .i64 0), .sl true [] .zer]), (1, .cells [.sc (.int .i64 x.i), .sc (.int .i64 x.o), .tl 2 s (s == 0)]), (2, .arr 1 (((List.range s).map x.row).map rowF) true)], 3⟩) (fun s => x.n - s)
    (fun s => s ≤ x.n) [1, 2, 3, 4, 5] 3 ?_ ?_
  · exact ⟨[(1, 0), (19, 1), (22, 2)], 0, rfl, (by (simp only [go_sem, LM.cells, ← b7, ← b8, ← hO, List.range_zero]) <;> rfl), Nat.zero_le _⟩
  intro s hs
  have hls : (((List.range s).map x.row).map rowF).length = s := by simp
  refine EvC.seq ?_
  refine EvC.seq (EvC.rg (by (simp only [go_sem]) <;> rfl) (by simp) ?_)  -- R4
  refine EvC.cond (by (simp only [go_sem]) <;> rfl) (fun hc => ?_) (fun hc => ?_)
  rotate_left
  · refine EvC.exit ?_  -- 0
    have hc : ¬ s < x.n := by simpa using hc
    obtain rfl : s = x.n := by omega
    refine EvC.frzD 2 (by (simp only [go_sem, hls]) <;> rfl) ?_
    refine EvC.seq (EvC.rg (by (simp only [go_sem]) <;> rfl) (by simp) ?_)  -- R18
    refine EvC.ret ⟨.inl rfl, _, (by (simp only [go_sem]) <;> rfl), ?_, rfl⟩
    simp only [go_sem]
    have hne : (x.n == 0) = false := by simp; omega
    simp only [Mach.cells, LM.mach, hne]
    rw [List.map_map, List.map_map]
    rfl
  have hc : s < x.n := by simpa using hc
  refine EvC.skip ?_
  refine EvC.seq ?_
  refine EvC.block ?_  -- 1
  refine EvC.seq (EvC.rg (by (simp only [go_sem]) <;> rfl) (by simp) ?_)  -- R6
  refine EvC.seq ?_
  refine EvC.seq (EvC.rg (by (simp only [go_sem]) <;> rfl) (by simp) ?_)  -- R7
  refine EvC.block ?_  -- 2
  refine EvC.loopS (σ := Nat) (fun i => ⟨[(1, .ia x.cells), (2, .rf 0 0), (3, .sc (.int .i64 x.n)), (4, .rf 1 0), (5, .sc (.int .i64 s)), (6, .tl 3 i (i == 0)), (7, .sc (.int .i64 i))], [],
      [(0, .cells [.sc (.int .i64 0), .sc (.int .i64 0), .sl true [] .zer]), (1, .cells [.sc (.int .i64 x.i), .sc (.int .i64 x.o), .tl 2 s (s == 0)]), (2, .arr 1 (((List.range s).map x.row).map rowF) true),
       (3, .arr 2 (((List.range i).map (x.edge s)).map edgeC) true)], 4⟩) (fun i => x.i - i)
    (fun i => i ≤ x.i) [1, 2, 3, 4, 5, 6, 7] 4 ?_ ?_
  · exact ⟨[(0, 0), (1, 1), (2, 2), (6, 3)], 0, rfl, (by (simp only [go_sem, List.range_zero]) <;> rfl), Nat.zero_le _⟩
  intro i hi
  have hli : (((List.range i).map (x.edge s)).map edgeC).length = i := by simp
  refine EvC.seq ?_
  refine EvC.seq (EvC.rg (by (simp only [go_sem]) <;> rfl) (by simp) ?_)  -- R8
  refine EvC.cond (by (simp only [go_sem]) <;> rfl) (fun hc => ?_) (fun hc => ?_)
  rotate_left
  · refine EvC.exit ?_  -- 2
    have hc : ¬ i < x.i := by simpa using hc
    obtain rfl : i = x.i := by omega
    have hne : (x.i == 0) = false := by simp; omega
    refine EvC.frz 3 (by (simp only [go_sem, hli, hne]) <;> rfl) ?_
    refine EvC.rg (by (simp only [go_sem]) <;> rfl) (by simp [room_eq, AV.norefs, AV.noref, hls]; omega) ?_  -- R17
    refine EvC.rg (by (simp only [go_sem]) <;> rfl) (inI64_of (by omega) (by omega)) ?_  -- R5
    refine ⟨[(0, 0), (1, 1), (2, 2)], s + 1, rfl, ?_, by omega, by omega⟩
    have hs0 : (s + 1 == 0) = false := rfl
    (simp only [go_sem, hs0, List.range_succ, rowF, rowC, LM.row, List.length_map, List.length_range]) <;> rfl
  have hc : i < x.i := by simpa using hc
  have hv := LM.v_ok h s i
  have hsi : (0 : Int) ≤ (s : Int) * x.i := Int.mul_nonneg (by omega) (by omega)
  have hsi2 : (s : Int) * x.i ≤ 18 := by
    have : s * x.i ≤ 6 * 3 := Nat.mul_le_mul (by omega) (by omega)
    have := Int.ofNat_le.2 this
    simpa using this
  have hk : ((s * x.i + i : Nat) : Int) = (s : Int) * x.i + i := by simp
  have hkn : ((s : Int) * x.i + i).toNat = s * x.i + i := by omega
  have hIm : inI64 ((s : Int) * x.i) = true := inI64_of (by omega) (by omega)
  have hIk : inI64 ((s : Int) * x.i + i) = true := inI64_of (by omega) (by omega)
  have hIi : inI64 ((i : Int) + 1) = true := inI64_of (by omega) (by omega)
  have hIv : inI64 (x.v s i) = true := inI64_of (by omega) (by omega)
  refine EvC.skip ?_
  refine EvC.seq ?_
  refine EvC.block ?_  -- 3
  refine EvC.seq (EvC.rg (by (simp only [go_sem]) <;> rfl) (by simp) ?_)  -- R10
  refine EvC.seq ?_
  refine EvC.seq (EvC.rg (by (simp only [go_sem]) <;> rfl) (by simp [hIm, hIk]) ?_)  -- R11
  refine EvC.seq (EvC.rg (by (simp only [go_sem, LM.cells]) <;> rfl) (by simp) ?_)  -- R12
  refine EvC.cond (by (simp only [go_sem]) <;> rfl) (fun hc => ?_) (fun hc => ?_)
  · have hkl : s * x.i + i < x.es.length := by
      have : (s : Int) * x.i + i < x.es.length := by simpa using hc
      omega
    have hev : x.es[s * x.i + i]? = some (x.v s i) := by
      unfold LM.v
      rw [List.getElem?_eq_getElem hkl]; rfl
    refine EvC.rg (by (simp only [go_sem, LM.cells, hkn, hev, u16C]) <;> rfl) (by simp [hIv]; omega) ?_  -- R13
    apply EvC.seq  -- R14
    apply EvC.trd
    · (simp only [go_sem, LM.cells]) <;> rfl
    · simp [hv.1]
    have hi0 : (i + 1 == 0) = false := rfl
    refine EvC.cond (by (simp only [go_sem]) <;> rfl) (fun hp => ?_) (fun hp => ?_)
    · have hp : x.part = true ∧ x.v s i % 4 = 3 := by
        by_cases h1 : x.part = true
        · simp [h1] at hp; exact ⟨h1, hp⟩
        · simp [h1] at hp
      have he : x.edge s i = (-1, -1) := if_pos hp
      refine EvC.rg (by (simp only [go_sem]) <;> rfl) (by simp [room_eq, AV.norefs, AV.noref]; omega) ?_  -- R15
      refine EvC.rg (by (simp only [go_sem]) <;> rfl) hIi ?_  -- R9
      refine ⟨[(0, 0), (1, 1), (2, 2), (3, 3)], i + 1, rfl, ?_, by omega, by omega⟩
      (simp only [go_sem, hi0, List.range_succ, he, edgeC, List.length_map, List.length_range]) <;> rfl
    · have hp : ¬ (x.part = true ∧ x.v s i % 4 = 3) := by
        rintro ⟨h1, h2⟩
        simp [h1, h2] at hp
      have he : x.edge s i = (x.v s i / 4 % x.n, x.v s i / 4 / x.n % x.o) := if_neg hp
      have hq1 : 0 ≤ x.v s i / 4 := Int.ediv_nonneg hv.1 (by omega)
      have hq2 : 0 ≤ x.v s i / 4 / x.n := Int.ediv_nonneg hq1 (by omega)
      have hq3 : x.v s i / 4 ≤ 65536 := by omega
      have hq4 : x.v s i / 4 / x.n ≤ x.v s i / 4 := Int.ediv_le_self _ hq1
      have hIq1 : inI64 (x.v s i / 4) = true := inI64_of (by omega) (by omega)
      have hIq2 : inI64 (x.v s i / 4 / x.n) = true := inI64_of (by omega) (by omega)
      apply EvC.drd mixed  -- R16
      · (simp only [go_sem]) <;> rfl
      · simp [room_eq, AV.norefs, AV.noref, hv.1, hq1, hq2, hIq1, hIq2]; omega
      · kernel_rfl
      refine EvC.rg (by (simp only [go_sem]) <;> rfl) hIi ?_  -- R9
      refine ⟨[(0, 0), (1, 1), (2, 2), (3, 3)], i + 1, rfl, ?_, by omega, by omega⟩
      (simp only [go_sem, hi0, List.range_succ, he, edgeC, List.length_map, List.length_range]) <;> rfl
  · have hkl : ¬ s * x.i + i < x.es.length := by
      have : ¬ (s : Int) * x.i + i < x.es.length := by simpa using hc
      omega
    have hev : x.v s i = 0 := by
      unfold LM.v
      rw [List.getElem?_eq_none (by omega)]; rfl
    refine EvC.skip ?_
    rw [← hev]
    apply EvC.seq  -- R14
    apply EvC.trd
    · (simp only [go_sem, LM.cells]) <;> rfl
    · simp [hv.1]
    have hi0 : (i + 1 == 0) = false := rfl
    refine EvC.cond (by (simp only [go_sem]) <;> rfl) (fun hp => ?_) (fun hp => ?_)
    · have hp : x.part = true ∧ x.v s i % 4 = 3 := by
        by_cases h1 : x.part = true
        · simp [h1] at hp; exact ⟨h1, hp⟩
        · simp [h1] at hp
      have he : x.edge s i = (-1, -1) := if_pos hp
      refine EvC.rg (by (simp only [go_sem]) <;> rfl) (by simp [room_eq, AV.norefs, AV.noref]; omega) ?_  -- R15
      refine EvC.rg (by (simp only [go_sem]) <;> rfl) hIi ?_  -- R9
      refine ⟨[(0, 0), (1, 1), (2, 2), (3, 3)], i + 1, rfl, ?_, by omega, by omega⟩
      (simp only [go_sem, hi0, List.range_succ, he, edgeC, List.length_map, List.length_range]) <;> rfl
    · have hp : ¬ (x.part = true ∧ x.v s i % 4 = 3) := by
        rintro ⟨h1, h2⟩
        simp [h1, h2] at hp
      have he : x.edge s i = (x.v s i / 4 % x.n, x.v s i / 4 / x.n % x.o) := if_neg hp
      have hq1 : 0 ≤ x.v s i / 4 := Int.ediv_nonneg hv.1 (by omega)
      have hq2 : 0 ≤ x.v s i / 4 / x.n := Int.ediv_nonneg hq1 (by omega)
      have hq3 : x.v s i / 4 ≤ 65536 := by omega
      have hq4 : x.v s i / 4 / x.n ≤ x.v s i / 4 := Int.ediv_le_self _ hq1
      have hIq1 : inI64 (x.v s i / 4) = true := inI64_of (by omega) (by omega)
      have hIq2 : inI64 (x.v s i / 4 / x.n) = true := inI64_of (by omega) (by omega)
      apply EvC.drd mixed  -- R16
      · (simp only [go_sem]) <;> rfl
      · simp [room_eq, AV.norefs, AV.noref, hv.1, hq1, hq2, hIq1, hIq2]; omega
      · kernel_rfl
      refine EvC.rg (by (simp only [go_sem]) <;> rfl) hIi ?_  -- R9
      refine ⟨[(0, 0), (1, 1), (2, 2), (3, 3)], i + 1, rfl, ?_, by omega, by omega⟩
      (simp only [go_sem, hi0, List.range_succ, he, edgeC, List.length_map, List.length_range]) <;> rfl
end Go.Avl
namespace Go.Avl
open Go Go.Proofs.Try
set_option maxRecDepth 10000
set_option linter.unusedSimpArgs false

/-- The plain data of a machine with timers. -/
structure LT where
  m : LM
  nl : Bool
  ts : List (Int × Int × Int)
  cap : Cp
def u8C3 (t : Int × Int × Int) : List AV := [.sc (.int .u8 t.1), .sc (.int .u8 t.2.1), .sc (.int .u8 t.2.2)]
@[go_sem] theorem norefs_u8C3 (l : List (Int × Int × Int)) : (l.map u8C3).all AV.norefs = true := by simp [List.all_eq_true, u8C3, AV.norefs, AV.noref]
@[go_sem] theorem norefs_timC (l : List Tim) : (l.map timC).all AV.norefs = true := by simp [List.all_eq_true, timC, AV.norefs, AV.noref]
def LT.cells (x : LT) : List AV := [.sc (.int .u8 x.m.st), .sc (.int .u8 x.m.ins), .sc (.int .u8 x.m.outs), .sc (.bool x.m.part), .sl x.m.nl (x.m.es.map u16C) x.m.cap, .sl x.nl (x.ts.map u8C3) x.cap]
structure LT.Ok (x : LT) : Prop where
  m : x.m.Ok
  ts : ∀ t ∈ x.ts, 0 ≤ t.1 ∧ t.1 < 256 ∧ 0 ≤ t.2.1 ∧ t.2.1 < 256 ∧ 0 ≤ t.2.2 ∧ t.2.2 < 256
def LT.tim (x : LT) (s : Nat) : Tim := match x.ts[s]? with
  | some t => if 0 < t.1 % 8 then (t.1 % 8, t.2.1 % x.m.n, t.2.2 % x.m.o) else (0, 0, 0)
  | none => (0, 0, 0)
def LT.timed (x : LT) : Timed := ⟨x.m.mach, false, (List.range x.m.n).map x.tim⟩

theorem tOf_is {x : LT} (h : x.Ok) : PureIs prog 9 [.ag x.cells] (.ag x.timed.cells) := by
  refine PureIs.of (nv := 6) (hid := [15, 33]) func9 rfl (by kernel_rfl) (by simp [ntmps9]) fun _ => ?_
  rw [ntmps9, results9]
  obtain ⟨b1, b2, b3, b4, b5, b6, b7, b8⟩ := LM.bounds h.m
  obtain ⟨rows, hrows⟩ : ∃ rows, rows = x.m.mach.rows := ⟨_, rfl⟩
  have hrl : rows.length = x.m.n := by rw [hrows]; simp [LM.mach]
  have hm := mOf_is h.m
  have hmc : x.m.mach.cells = [.sc (.int .i64 x.m.i), .sc (.int .i64 x.m.o), .sl false (rows.map rowC) .unk] := by rw [hrows]; rfl
  rw [hmc] at hm
  refine EvC.seq (EvC.rg (by (simp only [go_sem, LT.cells]) <;> rfl) (by simp) ?_)  -- R0
  refine EvC.frzB 0 (by (simp only [go_sem]) <;> rfl) ?_
  apply EvC.seq  -- R1
  apply EvC.tr
  · apply Tr.run
    · (simp only [go_sem]) <;> rfl
    · simp
    apply Tr.cons
    · exact .call rfl rfl (by (simp only [go_sem]) <;> rfl) (by (simp only [go_sem]) <;> rfl) (by (simp only [go_sem]) <;> rfl) (by (simp only [go_sem]) <;> rfl) (by (simp only [go_sem]) <;> rfl) (by simpa [LM.cells] using hm)
    apply Tr.done
    · (simp only [go_sem]) <;> rfl
    · simp
  refine EvC.seq ?_
  refine EvC.seq (EvC.rg (by (simp only [go_sem]) <;> rfl) (by simp) ?_)  -- R2
  refine EvC.block ?_  -- 0
  refine EvC.ownC 6 3 3 (by (simp only [go_sem]) <;> rfl) ?_
  refine EvC.loopS (σ := Nat) (fun s => ⟨[(1, .ia x.cells), (2, .rf 0 0), (3, .rf 1 0), (4, .sc (.int .i64 s))], [],
      [(0, .cells [.sc (.int .i64 0), .sc (.int .i64 0), .sl true [] .zer, .sl true [] .zer]), (1, .cells [.sc (.int .i64 x.m.i), .sc (.int .i64 x.m.o), .sl false (rows.map rowC) .unk, .tl 2 s (s == 0)]), (2, .arr 3 (((List.range s).map x.tim).map timC) true)], 3⟩) (fun s => x.m.n - s)
    (fun s => s ≤ x.m.n) [1, 2, 3, 4] 3 ?_ ?_
  · exact ⟨[(1, 0), (6, 1), (9, 2)], 0, rfl, (by (simp only [go_sem, LT.cells, List.range_zero]) <;> rfl), Nat.zero_le _⟩
  intro s hs
  have hls : (((List.range s).map x.tim).map timC).length = s := by simp
  have hs0 : (s + 1 == 0) = false := rfl
  refine EvC.seq ?_
  refine EvC.seq (EvC.rg (by (simp only [go_sem, List.length_map]) <;> rfl) (by simp) ?_)  -- R3
  refine EvC.cond (by (simp only [go_sem]) <;> rfl) (fun hc => ?_) (fun hc => ?_)
  rotate_left
  · refine EvC.exit ?_  -- 0
    have hc : ¬ s < x.m.n := by rw [← hrl]; simpa using hc
    obtain rfl : s = x.m.n := by omega
    have hne : (x.m.n == 0) = false := by simp; omega
    refine EvC.frzD 2 (by (simp only [go_sem, hls]) <;> rfl) ?_
    refine EvC.seq (EvC.rg (by (simp only [go_sem]) <;> rfl) (by simp) ?_)  -- R9
    refine EvC.ret ⟨.inl rfl, _, (by (simp only [go_sem]) <;> rfl), ?_, rfl⟩
    simp only [go_sem]
    rw [hne, hrows]; rfl
  have hc : s < x.m.n := by rw [← hrl]; simpa using hc
  have hIs : inI64 ((s : Int) + 1) = true := inI64_of (by omega) (by omega)
  refine EvC.skip ?_
  refine EvC.seq ?_
  refine EvC.block ?_  -- 1
  refine EvC.seq (EvC.rg (by (simp only [go_sem]) <;> rfl) (by simp) ?_)  -- R5
  refine EvC.seq ?_
  by_cases hsl : s < x.ts.length
  · have ht : x.ts[s]? = some x.ts[s] := List.getElem?_eq_getElem hsl
    have htm := h.ts _ (List.getElem_mem hsl)
    generalize x.ts[s] = t at ht htm
    have hdl := decide_eq_true (show (s : Int) < (x.ts.length : Int) by omega)
    apply EvC.seq  -- R6
    apply EvC.trd
    · (simp only [go_sem, LT.cells, ht, u8C3, hdl]) <;> rfl
    · simp [htm.1]
    refine EvC.cond (by (simp only [go_sem]) <;> rfl) (fun hp => ?_) (fun hp => ?_)
    · have hp : 0 < t.1 % 8 := by simpa using hp
      have htt : x.tim s = (t.1 % 8, t.2.1 % x.m.n, t.2.2 % x.m.o) := by unfold LT.tim; rw [ht]; simp only; rw [if_pos hp]
      have hI1 : inI64 (t.1 % 8) = true := inI64_of (by omega) (by omega)
      have hI2 : inI64 t.2.1 = true := inI64_of (by omega) (by omega)
      have hI3 : inI64 t.2.2 = true := inI64_of (by omega) (by omega)
      apply EvC.drd mixed  -- R7
      · (simp only [go_sem, LT.cells, ht, u8C3, List.length_map, hrl]) <;> rfl
      · simp [htm.1, htm.2.2.1, htm.2.2.2.2.1, hI1, hI2, hI3]; omega
      · kernel_rfl
      refine EvC.rg (by (simp only [go_sem]) <;> rfl) (by simp [room_eq, AV.norefs, AV.noref]; omega) ?_  -- R8
      refine EvC.rg (by (simp only [go_sem]) <;> rfl) hIs ?_  -- R4
      refine ⟨[(0, 0), (1, 1), (2, 2)], s + 1, rfl, ?_, by omega, by omega⟩
      (simp only [go_sem, hs0, List.range_succ, htt, timC, List.length_map, List.length_range]) <;> rfl
    · have hp : ¬ 0 < t.1 % 8 := by simpa using hp
      have htt : x.tim s = (0, 0, 0) := by unfold LT.tim; rw [ht]; simp only; rw [if_neg hp]
      refine EvC.skip ?_
      refine EvC.rg (by (simp only [go_sem]) <;> rfl) (by simp [room_eq, AV.norefs, AV.noref]; omega) ?_  -- R8
      refine EvC.rg (by (simp only [go_sem]) <;> rfl) hIs ?_  -- R4
      refine ⟨[(0, 0), (1, 1), (2, 2)], s + 1, rfl, ?_, by omega, by omega⟩
      (simp only [go_sem, hs0, List.range_succ, htt, timC, List.length_map, List.length_range]) <;> rfl
  · have ht : x.ts[s]? = none := List.getElem?_eq_none (by omega)
    have htt : x.tim s = (0, 0, 0) := by unfold LT.tim; rw [ht]
    have hdl := decide_eq_false (show ¬ (s : Int) < (x.ts.length : Int) by omega)
    apply EvC.seq  -- R6
    apply EvC.tr
    · apply Tr.run
      · (simp only [go_sem, LT.cells, ht, hdl]) <;> rfl
      · simp
      apply Tr.cons
      · exact .skipv (.ia [.sc (.int .u8 0), .sc (.int .u8 0), .sc (.int .u8 0)]) rfl rfl (by (simp only [go_sem]) <;> rfl) (by (simp only [go_sem]) <;> rfl)
      apply Tr.done
      · (simp only [go_sem]) <;> rfl
      · simp
    refine EvC.cond_false (by (simp only [go_sem]) <;> rfl) ?_
    refine EvC.skip ?_
    refine EvC.rg (by (simp only [go_sem]) <;> rfl) (by simp [room_eq, AV.norefs, AV.noref]; omega) ?_  -- R8
    refine EvC.rg (by (simp only [go_sem]) <;> rfl) hIs ?_  -- R4
    refine ⟨[(0, 0), (1, 1), (2, 2)], s + 1, rfl, ?_, by omega, by omega⟩
    (simp only [go_sem, hs0, List.range_succ, htt, timC, List.length_map, List.length_range]) <;> rfl
end Go.Avl
namespace Go.Avl
open Go Go.Proofs.Try
set_option maxRecDepth 10000
set_option linter.unusedSimpArgs false

def u8C2 (t : Int × Int) : List AV := [.sc (.int .u8 t.1), .sc (.int .u8 t.2)]
@[go_sem] theorem norefs_u8C2 (l : List (Int × Int)) : (l.map u8C2).all AV.norefs = true := by simp [List.all_eq_true, u8C2, AV.norefs, AV.noref]
def evOf (ins : Int) (e : Int × Int) : Evt := (e.1 % 20, e.2 % ins)
def evsOf (ins : Int) (l : List (Int × Int)) : List Evt := (l.take 12).map (evOf ins)

theorem evsOf_is (nl : Bool) (l : List (Int × Int)) (c : Cp) (ins : Int) (hi : 1 ≤ ins) (h : ∀ e ∈ l, 0 ≤ e.1 ∧ e.1 < 256 ∧ 0 ≤ e.2 ∧ e.2 < 256) :
    PureIs prog 10 [.sl nl (l.map u8C2) c, .sc (.int .i64 ins)] (.sl (evsOf ins l).isEmpty ((evsOf ins l).map edgeC) .unk) := by
  refine PureIs.of (nv := 2) (hid := [4, 5, 6, 14]) func10 rfl (by kernel_rfl) (by simp [ntmps10]) fun _ => ?_
  rw [ntmps10, results10]
  refine EvC.seq (EvC.rg (by (simp only [go_sem]) <;> rfl) (by simp) ?_)  -- R0
  refine EvC.seq (EvC.rg (by (simp only [go_sem]) <;> rfl) (by simp) ?_)  -- R1
  refine EvC.seq ?_
  refine EvC.seq (EvC.rg (by (simp only [go_sem]) <;> rfl) (by simp) ?_)  -- R2
  refine EvC.block ?_  -- 0
  refine EvC.loopS (σ := Nat) (fun i => ⟨[(0, .sl nl (l.map u8C2) c), (1, .sc (.int .i64 ins)), (5, .tl 0 i (i == 0)), (6, .sc (.int .i64 i))], [], [(0, .arr 2 (((l.take i).map (evOf ins)).map edgeC) true)], 1⟩) (fun i => 12 - i)
    (fun i => i ≤ l.length ∧ i ≤ 12) [0, 1, 5, 6] 1 ?_ ?_
  · exact ⟨[(1, 0)], 0, rfl, (by (simp only [go_sem]) <;> rfl), Nat.zero_le _, Nat.zero_le _⟩
  rintro i ⟨hil, hi12⟩
  have hlen : (((l.take i).map (evOf ins)).map edgeC).length = i := by simp; omega
  have hi0 : (i + 1 == 0) = false := rfl
  refine EvC.seq ?_
  apply EvC.seq  -- R3
  apply EvC.trd
  · (simp only [go_sem]) <;> rfl
  · simp
  refine EvC.cond (by (simp only [go_sem]) <;> rfl) (fun hc => ?_) (fun hc => ?_)
  rotate_left
  · refine EvC.exit ?_  -- 0
    have hc : ¬ (i < l.length ∧ i < 12) := by
      rintro ⟨h1, h2⟩
      have h3 : (i : Int) < 12 := by omega
      simp [h1, h3] at hc
    have ht : l.take i = l.take 12 := by
      by_cases h : i = 12
      · rw [h]
      · rw [List.take_of_length_le (by omega), List.take_of_length_le (by omega)]
    refine EvC.frz 0 (by (simp only [go_sem, hlen]) <;> rfl) ?_
    refine EvC.seq (EvC.rg (by (simp only [go_sem]) <;> rfl) (by simp) ?_)  -- R6
    refine EvC.ret ⟨.inl rfl, _, (by (simp only [go_sem]) <;> rfl), ?_, rfl⟩
    simp only [go_sem]
    have he : (i == 0) = (evsOf ins l).isEmpty := by
      unfold evsOf
      rw [← ht]
      cases i with
      | zero => rfl
      | succ i =>
        cases l with
        | nil => simp at hil
        | cons a l => rfl
    rw [he, ht]; rfl
  have hc : i < l.length ∧ i < 12 := by
    by_cases h1 : i < l.length
    · simp [h1] at hc; exact ⟨h1, by omega⟩
    · simp [h1] at hc
  have he : l[i]? = some l[i] := List.getElem?_eq_getElem hc.1
  have hev := h _ (List.getElem_mem hc.1)
  generalize l[i] = e at he hev
  have htk : l.take (i + 1) = l.take i ++ [e] := by rw [List.take_add_one, he]; rfl
  have hI1 : inI64 (e.1 % 20) = true := inI64_of (by omega) (by omega)
  have hI2 : inI64 e.2 = true := inI64_of (by omega) (by omega)
  refine EvC.skip ?_
  refine EvC.seq ?_
  refine EvC.block ?_  -- 1
  apply EvC.drd mixed  -- R5
  · (simp only [go_sem, he, u8C2]) <;> rfl
  · simp [room_eq, AV.norefs, AV.noref, hev.1, hev.2.2.1, hI1, hI2]; omega
  · kernel_rfl
  refine EvC.rg (by (simp only [go_sem]) <;> rfl) (inI64_of (by omega) (by omega)) ?_  -- R4
  have hmin : min i l.length = i := by omega
  refine ⟨[(0, 0)], i + 1, rfl, ?_, ⟨by omega, by omega⟩, by omega⟩
  (simp only [go_sem, hi0, htk, evOf, edgeC, List.length_map, List.length_take, hmin]) <;> rfl

def sumR : List Row → Int
  | [] => 0
  | r :: rs => r.2.length + sumR rs
theorem sumR_app : ∀ (l : List Row) (r : Row), sumR (l ++ [r]) = sumR l + r.2.length
  | [], r => by simp [sumR]
  | a :: l, r => by simp only [List.cons_append, sumR, sumR_app l r]; omega
theorem sumR_le {N : Int} : ∀ (l : List Row), (∀ r ∈ l, (r.2.length : Int) ≤ N) → 0 ≤ sumR l ∧ sumR l ≤ N * l.length
  | [], _ => by simp [sumR]
  | a :: l, h => by
    have h1 := sumR_le l fun r hr => h r (List.mem_cons_of_mem _ hr)
    have h2 := h a List.mem_cons_self
    simp only [sumR, List.length_cons]
    have : N * ((l.length + 1 : Nat) : Int) = N * l.length + N := by rw [Int.natCast_add, Int.mul_add]; simp
    omega
def greatR (x : Timed) : Int := if 70 < x.m.rows.length ∨ 300 < sumR (x.m.rows.take 71) ∨ 70 < x.ts.length then 1 else 0

theorem great_is (x : Timed) (hr : ∀ r ∈ x.m.rows, (r.2.length : Int) ≤ 140737488355328) : PureIs prog 21 [.ag x.cells] (.sc (.int .i64 (greatR x))) := by
  refine PureIs.of (nv := 5) (hid := [14, 40]) func21 rfl (by kernel_rfl) (by simp [ntmps21]) fun _ => ?_
  rw [ntmps21, results21]
  refine EvC.seq (EvC.rg (by (simp only [go_sem, Timed.cells]) <;> rfl) (by simp) ?_)  -- R0
  refine EvC.frzB 0 (by (simp only [go_sem]) <;> rfl) ?_
  refine EvC.seq (EvC.rg (by (simp only [go_sem]) <;> rfl) (by simp) ?_)  -- R1
  refine EvC.seq ?_
  refine EvC.seq (EvC.rg (by (simp only [go_sem]) <;> rfl) (by simp) ?_)  -- R2
  refine EvC.block ?_  -- 0
  refine EvC.loopS (σ := Nat) (fun i => ⟨[(1, .ia x.cells), (3, .sc (.int .i64 (sumR (x.m.rows.take i)))), (4, .sc (.int .i64 i))], [], [], 0⟩) (fun i => 71 - i) (fun i => i ≤ x.m.rows.length ∧ i ≤ 71) [1, 3, 4] 0 ?_ ?_
  · exact ⟨[], 0, rfl, (by (simp only [go_sem, Timed.cells, sumR]) <;> rfl), Nat.zero_le _, Nat.zero_le _⟩
  rintro i ⟨h1, h2⟩
  have hsum := sumR_le (N := 140737488355328) (x.m.rows.take i) fun r hr' => hr r (List.mem_of_mem_take hr')
  have hlt : (x.m.rows.take i).length ≤ 71 := by simp; omega
  refine EvC.seq ?_
  apply EvC.seq  -- R3
  apply EvC.trd
  · (simp only [go_sem, Timed.cells]) <;> rfl
  · simp
  refine EvC.cond (by (simp only [go_sem]) <;> rfl) (fun hc => ?_) (fun hc => ?_)
  rotate_left
  · refine EvC.exit ?_  -- 0
    have hc : ¬ (i < x.m.rows.length ∧ i < 71) := by
      rintro ⟨k1, k2⟩
      have k3 : (i : Int) < 71 := by omega
      simp [k1, k3] at hc
    have ht : x.m.rows.take i = x.m.rows.take 71 := by
      by_cases h : i = 71
      · rw [h]
      · rw [List.take_of_length_le (by omega), List.take_of_length_le (by omega)]
    refine EvC.seq ?_
    apply EvC.seq  -- R6
    apply EvC.trd
    · (simp only [go_sem, Timed.cells, List.length_map]) <;> rfl
    · simp
    refine EvC.cond (by (simp only [go_sem]) <;> rfl) (fun hg => ?_) (fun hg => ?_)
    · refine EvC.seq (EvC.rg (by (simp only [go_sem]) <;> rfl) (by simp) ?_)  -- R7
      refine EvC.ret ⟨.inl rfl, _, (by (simp only [go_sem]) <;> rfl), ?_, rfl⟩
      simp only [go_sem]
      have : greatR x = 1 := by
        refine if_pos ?_
        rw [← ht]
        by_cases k1 : 70 < x.m.rows.length
        · exact .inl k1
        · by_cases k2 : 300 < sumR (x.m.rows.take i)
          · exact .inr (.inl k2)
          · have k1' : ¬ (70 : Int) < x.m.rows.length := by omega
            simp [k1', k2] at hg
            exact .inr (.inr (by omega))
      rw [this]
    · refine EvC.skip ?_
      refine EvC.seq (EvC.rg (by (simp only [go_sem]) <;> rfl) (by simp) ?_)  -- R8
      refine EvC.ret ⟨.inl rfl, _, (by (simp only [go_sem]) <;> rfl), ?_, rfl⟩
      simp only [go_sem]
      have : greatR x = 0 := by
        refine if_neg ?_
        rw [← ht]
        rintro (k | k | k)
        · have k1 : (70 : Int) < x.m.rows.length := by omega
          simp [k1] at hg
        · simp [k] at hg
        · have k1 : (70 : Int) < x.ts.length := by omega
          simp [k1] at hg
      rw [this]
  have hc : i < x.m.rows.length ∧ i < 71 := by
    by_cases k1 : i < x.m.rows.length
    · simp [k1] at hc; exact ⟨k1, by omega⟩
    · simp [k1] at hc
  have he : x.m.rows[i]? = some x.m.rows[i] := List.getElem?_eq_getElem hc.1
  have hrl := hr _ (List.getElem_mem hc.1)
  generalize x.m.rows[i] = r at he hrl
  have htk : x.m.rows.take (i + 1) = x.m.rows.take i ++ [r] := by rw [List.take_add_one, he]; rfl
  refine EvC.skip ?_
  refine EvC.seq ?_
  refine EvC.block ?_  -- 1
  refine EvC.rg (by (simp only [go_sem, Timed.cells, he, rowC, List.length_map]) <;> rfl) (by simp; exact inI64_of (by omega) (by omega)) ?_  -- R5
  refine EvC.rg (by (simp only [go_sem]) <;> rfl) (inI64_of (by omega) (by omega)) ?_  -- R4
  refine ⟨[], i + 1, rfl, ?_, ⟨by omega, by omega⟩, by omega⟩
  (simp only [go_sem, Timed.cells, htk, sumR_app]) <;> rfl
end Go.Avl
namespace Go.Avl
open Go Go.Proofs.Try
set_option maxRecDepth 10000
set_option linter.unusedSimpArgs false

theorem LM.row_len (x : LM) (s : Nat) : (x.row s).length = x.i := by simp [LM.row]
theorem LM.mach_ok {x : LM} (h : x.Ok) : checkM x.mach = 0 := by
  obtain ⟨b1, b2, b3, b4, b5, b6, b7, b8⟩ := LM.bounds h
  have hl : x.mach.rows.length = x.n := by simp [LM.mach]
  unfold checkM
  rw [if_neg, if_neg, if_pos]
  · rw [List.all_eq_true]
    intro r hr
    obtain ⟨s, hs, rfl⟩ := List.mem_map.1 hr
    simp only [rowOk, LM.row_len, hl, Bool.and_eq_true, decide_eq_true_eq, Bool.not_eq_true', List.any_eq_false]
    refine ⟨rfl, fun e he => ?_⟩
    obtain ⟨i, hi, rfl⟩ := List.mem_map.1 he
    have hv := LM.v_ok h s i
    have hm : x.mach.outs = x.o := rfl
    rw [hm]
    unfold LM.edge
    split
    · simp [fitsR]
    · have h1 : 0 ≤ x.v s i / 4 := Int.ediv_nonneg hv.1 (by omega)
      have h2 : 0 ≤ x.v s i / 4 / x.n := Int.ediv_nonneg h1 (by omega)
      have h3 := Int.emod_nonneg (x.v s i / 4) (show (x.n : Int) ≠ 0 by omega)
      have h4 := Int.emod_lt_of_pos (x.v s i / 4) (show 0 < (x.n : Int) by omega)
      have h5 := Int.emod_nonneg (x.v s i / 4 / x.n) (show x.o ≠ 0 by omega)
      have h6 := Int.emod_lt_of_pos (x.v s i / 4 / x.n) (show 0 < x.o by omega)
      simp [fitsR, h3, h4, h5, h6]
  · rw [hl]; have : x.mach.ins = x.i := rfl; have : x.mach.outs = x.o := rfl; omega
  · rw [hl]; have : x.mach.ins = x.i := rfl; have : x.mach.outs = x.o := rfl; omega
theorem LT.timed_ok {x : LT} (h : x.Ok) : checkT x.timed = 0 := by
  obtain ⟨b1, b2, b3, b4, b5, b6, b7, b8⟩ := LM.bounds h.m
  have hl : x.m.mach.rows.length = x.m.n := by simp [LM.mach]
  unfold checkT
  have h1 : checkM x.timed.m = 0 := LM.mach_ok h.m
  rw [if_neg (by rw [h1]; simp), if_neg, if_pos]
  · rw [List.all_eq_true]
    intro t ht
    obtain ⟨s, hs, rfl⟩ := List.mem_map.1 ht
    have hm : x.timed.m = x.m.mach := rfl
    rw [hm]
    unfold LT.tim timOk timZ timBad
    cases hx : x.ts[s]? with
    | none => simp
    | some t =>
      have ht := h.ts t (List.mem_of_getElem? hx)
      simp only
      split
      · have h3 := Int.emod_nonneg t.2.1 (show (x.m.n : Int) ≠ 0 by omega)
        have h4 := Int.emod_lt_of_pos t.2.1 (show 0 < (x.m.n : Int) by omega)
        have h5 := Int.emod_nonneg t.2.2 (show x.m.o ≠ 0 by omega)
        have h6 := Int.emod_lt_of_pos t.2.2 (show 0 < x.m.o by omega)
        have h7 : x.m.mach.outs = x.m.o := rfl
        rw [hl, h7]
        simp
        omega
      · simp
  · have e1 : x.timed.ts.length = x.m.n := by simp [LT.timed]
    have e2 : x.timed.m.rows.length = x.m.n := hl
    rw [e1, e2]; simp
theorem LT.small {x : LT} (h : x.Ok) : (∀ r ∈ x.timed.m.rows, r.2.length < 1000000) ∧ x.timed.ts.length < 1000000 := by
  obtain ⟨b1, b2, b3, b4, b5, b6, b7, b8⟩ := LM.bounds h.m
  refine ⟨fun r hr => ?_, by simp [LT.timed]; omega⟩
  have hr : r ∈ (List.range x.m.n).map fun s => (false, x.m.row s) := hr
  obtain ⟨s, _, rfl⟩ := List.mem_map.1 hr
  simp only [LM.row_len]; omega

theorem tick1_len1 (x : Timed) (c : Cfg) (now : Int) (out : List Rep) : (tick1 x c now out).2.length ≤ out.length + 1 := by
  unfold tick1; split; exact Nat.le_succ _; split <;> simp
theorem ticksP_le (x : Timed) : ∀ (k : Nat) (c : Cfg) (now : Int) (out : List Rep), (ticksP x k c now out).2.length ≤ out.length + k
  | 0, _, _, _ => Nat.le_refl _
  | k + 1, c, now, out => by
    have h1 := tick1_len1 x c now out
    have h2 := ticksP_le x k (tick1 x c now out).1 (now + 1) (tick1 x c now out).2
    simp only [ticksP]; omega
theorem runP_le (x : Timed) (N : Nat) : ∀ (es : List Evt) (c : Cfg) (now : Int) (out : List Rep), (∀ e ∈ es, e.1.toNat ≤ N) → (runP x es c now out).length ≤ out.length + (N + 1) * es.length
  | [], _, _, out, _ => Nat.le_add_right _ _
  | e :: es, c, now, out, h => by
    have h0 := h e List.mem_cons_self
    have h1 := ticksP_le x e.1.toNat c now out
    have e0 : (N + 1) * (e :: es).length = (N + 1) * es.length + (N + 1) := by simp [Nat.mul_add]
    simp only [runP]
    split
    · simp only [List.length_append, List.length_cons, List.length_nil] at e0 ⊢; omega
    · have h2 := runP_le x N es ((stepR x.m (ticksP x e.1.toNat c now out).1.1 e.2).1, 0) (now + e.1) ((ticksP x e.1.toNat c now out).2 ++ [(now + e.1, (stepR x.m (ticksP x e.1.toNat c now out).1.1 e.2).2)]) fun e he => h e (List.mem_cons_of_mem _ he)
      simp only [List.length_append, List.length_cons, List.length_nil] at h2 e0 ⊢; omega

def U8s (l : List (Int × Int)) : Prop := ∀ e ∈ l, 0 ≤ e.1 ∧ e.1 < 256 ∧ 0 ≤ e.2 ∧ e.2 < 256
theorem evsOf_len (ins : Int) (l : List (Int × Int)) : (evsOf ins l).length ≤ 12 := by simp [evsOf]; omega
theorem evsOf_ok {ins : Int} (hi : 1 ≤ ins) {l : List (Int × Int)} (h : U8s l) : ∀ e ∈ evsOf ins l, 0 ≤ e.1 ∧ e.1 < 20 ∧ 0 ≤ e.2 ∧ e.2 < ins := by
  intro e he
  obtain ⟨d, hd, rfl⟩ := List.mem_map.1 he
  have := h d (List.mem_of_mem_take hd)
  have h3 := Int.emod_nonneg d.2 (show ins ≠ 0 by omega)
  have h4 := Int.emod_lt_of_pos d.2 (show 0 < ins by omega)
  unfold evOf
  simp only
  omega
theorem evts_zero {n : Int} : ∀ {es : List Evt}, (∀ e ∈ es, 0 ≤ e.1 ∧ e.1 ≤ 1024 ∧ 0 ≤ e.2 ∧ e.2 < n) → evts n es = 0
  | [], _ => rfl
  | e :: es, h => by
    have := h e List.mem_cons_self
    have h0 : evtOk n e = 0 := by
      unfold evtOk; rw [if_neg (by omega), if_neg (by omega), if_neg (by omega)]
    rw [evts, if_neg (by simpa using h0)]
    exact evts_zero fun e he => h e (List.mem_cons_of_mem _ he)
/-- The run of plain data. -/
theorem run_plain {x : LT} (h : x.Ok) {l : List (Int × Int)} (hl : U8s l) : runA x.timed (evsOf x.m.i l) = .tu [.sl (runP x.timed (evsOf x.m.i l) (0, 0) 0 []).isEmpty ((runP x.timed (evsOf x.m.i l) (0, 0) 0 []).map edgeC) .full, .sc (.int .i64 0)] ∧
    runP x.timed (evsOf x.m.i l) (0, 0) 0 [] = runJ x.timed (evsOf x.m.i l) 0 0 0 [] ∧ (runP x.timed (evsOf x.m.i l) (0, 0) 0 []).length ≤ 240 := by
  obtain ⟨b1, b2, b3, b4, b5, b6, b7, b8⟩ := LM.bounds h.m
  have hc := LT.timed_ok h
  have hv : ValidT x.timed := .of hc
  have hin : x.timed.m.ins = x.m.i := rfl
  have he := evsOf_ok (ins := x.m.i) (by omega) hl
  have hlen := evsOf_len x.m.i l
  have hle := runP_le x.timed 19 (evsOf x.m.i l) (0, 0) 0 [] fun e h' => by have := he e h'; omega
  simp only [List.length_nil, Nat.zero_add] at hle
  have hle : (runP x.timed (evsOf x.m.i l) (0, 0) 0 []).length ≤ 240 := by omega
  refine ⟨runA_ok hc ?_ rfl (by omega), runP_runJ hv _ _ (.zero hv) ⟨rfl, fun h => ⟨by simp, by simpa using h⟩, Int.le_refl _⟩ fun e h' => by rw [hin]; have := he e h'; omega, hle⟩
  rw [checkEvts, if_neg (by omega), hin]
  exact evts_zero fun e h' => by have := he e h'; omega

theorem timersRun_is {x : LT} (h : x.Ok) {l : List (Int × Int)} (hl : U8s l) (nl : Bool) (c : Cp) : PureIs prog 3 [.ag x.cells, .sl nl (l.map u8C2) c] (.sc (.bool true)) := by
  refine PureIs.of (nv := 9) (hid := []) func3 rfl (by kernel_rfl) (by simp [ntmps3]) fun _ => ?_
  rw [ntmps3, results3]
  obtain ⟨b1, b2, b3, b4, b5, b6, b7, b8⟩ := LM.bounds h.m
  obtain ⟨q1, q2, q3⟩ := run_plain h hl
  have hv : ValidT x.timed := .of (LT.timed_ok h)
  have hin : x.timed.m.ins = x.m.i := rfl
  have he := evsOf_ok (ins := x.m.i) (by omega) hl
  have hlen := evsOf_len x.m.i l
  have k1 := tOf_is h
  have k2 := evsOf_is nl l c x.m.i (by omega) hl
  generalize evsOf x.m.i l = es at q1 q2 q3 he hlen k2
  have k3 := run_is x.timed (LT.small h).1 (LT.small h).2 es.isEmpty es .unk (by omega)
  have k4 := runJ_is hv es.isEmpty es .unk (by omega) (fun e h' => by rw [hin]; have := he e h'; omega)
  rw [q1] at k3
  rw [← q2] at k4
  generalize runP x.timed es (0, 0) 0 [] = T at k3 k4 q3
  have k5 := replies_is T.isEmpty T 0 T.isEmpty T .unk (by omega)
  have e1 : repliesR T 0 T = 1 := by simp [repliesR]
  rw [e1] at k5
  obtain ⟨ct, hct⟩ : ∃ ct, ct = x.timed.cells := ⟨_, rfl⟩
  refine EvC.seq (EvC.rg (by (simp only [go_sem, LT.cells]) <;> rfl) (by simp) ?_)  -- R0
  apply EvC.seq  -- R1
  apply EvC.tr
  · apply Tr.run
    · (simp only [go_sem]) <;> rfl
    · simp
    apply Tr.cons
    · exact .call rfl rfl (by (simp only [go_sem]) <;> rfl) (by (simp only [go_sem]) <;> rfl) (by (simp only [go_sem]) <;> rfl) (by (simp only [go_sem]) <;> rfl) (by (simp only [go_sem]) <;> rfl) (by simpa [LT.cells] using k1)
    apply Tr.done
    · (simp only [go_sem, Timed.cells]) <;> rfl
    · simp
  apply EvC.seq  -- R2
  apply EvC.tr
  · apply Tr.run
    · (simp only [go_sem]) <;> rfl
    · simp
    apply Tr.cons
    · exact .call rfl rfl (by (simp only [go_sem]) <;> rfl) (by (simp only [go_sem]) <;> rfl) (by (simp only [go_sem]) <;> rfl) (by (simp only [go_sem]) <;> rfl) (by (simp only [go_sem]) <;> rfl) (by simpa [hin] using k2)
    apply Tr.done
    · (simp only [go_sem]) <;> rfl
    · simp
  apply EvC.seq  -- R3
  apply EvC.tr
  · apply Tr.run
    · (simp only [go_sem]) <;> rfl
    · simp
    apply Tr.cons
    · exact .call rfl rfl (by (simp only [go_sem]) <;> rfl) (by (simp only [go_sem]) <;> rfl) (by (simp only [go_sem]) <;> rfl) (by (simp only [go_sem]) <;> rfl) (by (simp only [go_sem]) <;> rfl) (by simpa [Timed.cells] using k3)
    apply Tr.done
    · (simp only [go_sem]) <;> rfl
    · simp
  apply EvC.seq  -- R4
  apply EvC.tr
  · apply Tr.run
    · (simp only [go_sem]) <;> rfl
    · simp
    apply Tr.cons
    · exact .call rfl rfl (by (simp only [go_sem]) <;> rfl) (by (simp only [go_sem]) <;> rfl) (by (simp only [go_sem]) <;> rfl) (by (simp only [go_sem]) <;> rfl) (by (simp only [go_sem]) <;> rfl) (by simpa [Timed.cells] using k4)
    apply Tr.cons
    · exact .call rfl rfl (by (simp only [go_sem]) <;> rfl) (by (simp only [go_sem]) <;> rfl) (by (simp only [go_sem]) <;> rfl) (by (simp only [go_sem]) <;> rfl) (by (simp only [go_sem]) <;> rfl) (by simpa using k5)
    apply Tr.run
    · (simp only [go_sem]) <;> rfl
    · simp
    apply Tr.cons
    · exact .callG rfl rfl (by (simp only [go_sem]) <;> rfl) rfl (by (simp only [go_sem]) <;> rfl) (by (simp only [go_sem]) <;> rfl) (by (simp only [go_sem]) <;> rfl) (by (simp only [go_sem]) <;> rfl) (by (simp only [go_sem]) <;> rfl) lives_is
    apply Tr.done
    · (simp only [go_sem]) <;> rfl
    · simp
  refine EvC.ret ⟨.inl rfl, _, (by (simp only [go_sem]) <;> rfl), ?_, rfl⟩
  simp only [go_sem]
end Go.Avl
namespace Go.Avl
open Go Go.ChangeShapes Go.RowKit

/-- Every cell that is there. -/
def Live (w : World) : Nat → Nat → Prop := fun b _ => b < w.heap.size

section
variable {H : Type} {enc : TypeId × Value → H} {P : Program} {w : World} {α β : Type}

/-- What is read is of a size that memory can hold. -/
def Fits (P : Program) (t : TypeId) (d : DataW H) : Prop := ∀ n ∈ d.weights P t, n ≤ reachBytes
theorem fits_all {P : Program} {e : TypeId} : ∀ {l : List (DataW H)}, (∀ n ∈ DataW.weightsAll P e l, n ≤ reachBytes) → ∀ d ∈ l, Fits P e d
  | [], _, d, hd => by cases hd
  | a :: l, h, d, hd => by
    simp only [DataW.weightsAll, List.mem_append] at h
    rcases List.mem_cons.1 hd with rfl | hd
    · exact fun n hn => h n (.inl hn)
    · exact fits_all (fun n hn => h n (.inr hn)) d hd
theorem fits_each {P : Program} : ∀ {ts : List TypeId} {l : List (DataW H)}, (∀ n ∈ DataW.weightsEach P ts l, n ≤ reachBytes) → ∀ (i : Nat) t d, ts[i]? = some t → l[i]? = some d → Fits P t d
  | [], _, _, i, t, d, h1, _ => by simp at h1
  | _ :: _, [], _, i, t, d, _, h2 => by simp at h2
  | a :: ts, b :: l, h, i, t, d, h1, h2 => by
    simp only [DataW.weightsEach, List.mem_append] at h
    cases i with
    | zero =>
      simp only [List.getElem?_cons_zero, Option.some.injEq] at h1 h2
      subst h1; subst h2
      exact fun n hn => h n (.inl hn)
    | succ i => exact fits_each (fun n hn => h n (.inr hn)) i t d (by simpa using h1) (by simpa using h2)

/-- The cells of a reading, as abstract values. -/
def Reads (enc : TypeId × Value → H) (P : Program) (w : World) (t : TypeId) (f : α → List AV) (Ok : α → Prop) : Prop :=
  ∀ fuel cs x, Fits P t x.1 → DataW.trod enc P w 0 (fun _ => true) true fuel t cs = some x →
    ∃ a, Ok a ∧ Imms (Live w) w cs (f a) ∧ ∀ v ∈ cs, v.oneCell' = true

theorem Imms.one {F : Nat → Nat → Prop} {v : Value} {x : AV} (h : Imm F w v x) : Imms F w [v] [x] :=
  ⟨rfl, fun i h1 _ => by have : i = 0 := by simpa using h1
                         subst this; exact h⟩
theorem Imms.append {F : Nat → Nat → Prop} {vs vs' : List Value} {xs xs' : List AV} (h : Imms F w vs xs) (h' : Imms F w vs' xs') : Imms F w (vs ++ vs') (xs ++ xs') := by
  have e := h.1
  have e' := h'.1
  refine ⟨by simp [e, e'], fun i h1 h2 => ?_⟩
  by_cases hi : i < vs.length
  · rw [List.getElem_append_left hi, List.getElem_append_left (by omega)]; exact h.2 i _ _
  · rw [List.getElem_append_right (by omega), List.getElem_append_right (by omega)]
    have := h'.2 (i - vs.length) (by simp at h1; omega) (by simp at h2; omega)
    simpa only [e] using this

theorem Reads.mono {t : TypeId} {f : α → List AV} {Ok : α → Prop} {g : β → List AV} {Ok' : β → Prop} (h : Reads enc P w t f Ok) (hq : ∀ a, Ok a → ∃ b, Ok' b ∧ g b = f a) : Reads enc P w t g Ok' :=
  fun fuel cs x hs ht => let ⟨a, h1, h2, h3⟩ := h fuel cs x hs ht; let ⟨b, k1, k2⟩ := hq a h1; ⟨b, k1, by rw [k2]; exact h2, h3⟩
theorem Reads.int {t : TypeId} {k : IntKind} (ht : P.underlying t = some (.int k)) : Reads enc P w t (fun n : Int => [.sc (.int k n)]) (fun n => (Lit.int k n).wf = true) := fun fuel cs x _ h => by
  obtain ⟨n, rfl, rfl, hw⟩ := DataW.trod_int ht h
  exact ⟨n, hw, .one (.sc _), by simp [Value.oneCell']⟩
theorem Reads.bool {t : TypeId} (ht : P.underlying t = some .bool) : Reads enc P w t (fun b : Bool => [.sc (.bool b)]) (fun _ => True) := fun fuel cs x _ h => by
  obtain ⟨b, rfl, rfl⟩ := DataW.trod_bool ht h
  exact ⟨b, trivial, .one (.sc _), by simp [Value.oneCell']⟩

theorem pick {α : Type} {p : Nat → α → Prop} (n : Nat) (h : ∀ i, i < n → ∃ a, p i a) : ∃ l : List α, l.length = n ∧ ∀ i (hi : i < l.length), p i l[i] := by
  induction n with
  | zero => exact ⟨[], rfl, fun i hi => by simp at hi⟩
  | succ n ih =>
    obtain ⟨l, h1, h2⟩ := ih fun i hi => h i (by omega)
    obtain ⟨a, ha⟩ := h n (by omega)
    refine ⟨l ++ [a], by simp [h1], fun i hi => ?_⟩
    by_cases h3 : i < l.length
    · rw [List.getElem_append_left h3]; exact h2 i h3
    · have : i = l.length := by simp at hi; omega
      subst this
      rw [List.getElem_append_right (Nat.le_refl _)]
      simpa [h1] using ha

theorem Reads.slice {t e : TypeId} {f : α → List AV} {Ok : α → Prop} (ht : P.underlying t = some (.slice e)) (he : Reads enc P w e f Ok) (hz : ∀ a, (f a).length = P.cellsOf e) (hz0 : 0 < P.cellsOf e) :
    Reads enc P w t (fun x : Bool × List α => [.sl x.1 (x.2.map f) .unk]) (fun x => (∀ y ∈ x.2, Ok y) ∧ (x.1 = true → x.2 = []) ∧ x.2.length * P.bytesOf e ≤ reachBytes) := fun fuel cs x hs h => by
  rcases DataW.trod_slice ht h with ⟨rfl, rfl⟩ | ⟨a, len, cap, elems, rest, n, rfl, rfl, rfl, _, hlc, hcm, hlen, hel, hrest, _⟩
  · exact ⟨(true, []), ⟨by simp, fun _ => rfl, by simp⟩, .one (.nil _ (.inl rfl)), by simp [Value.oneCell']⟩
  unfold Fits at hs
  simp only [DataW.weights, ht, List.mem_cons, List.mem_append, List.length_map] at hs
  have hbytes : len * P.bytesOf e ≤ reachBytes := by
    have := hs _ (.inl rfl)
    rw [hlen, Nat.add_mul] at this; omega
  have hfit : ∀ i (hi : i < elems.length), Fits P e elems[i].1 := fun i hi =>
    fits_all (l := elems.map (·.1)) (fun n hn => hs n (.inr (.inl hn))) _ (List.mem_map.2 ⟨_, List.getElem_mem hi, rfl⟩)
  by_cases hc0 : cap = 0
  · have hl0 : len = 0 := by omega
    subst hc0; subst hl0
    exact ⟨(false, []), ⟨by simp, by simp, by simp⟩, .one (.sz a _ (.inl rfl)), by simp [Value.oneCell']⟩
  have hfirst : ∃ v, w.cell? a = some v := by
    have hcells : ∃ cs', w.cells? 0 a (P.cellsOf e) = some cs' := by
      by_cases hl0 : len = 0
      · subst hl0
        have h1 := (hrest rfl).2 0 (by omega)
        rw [List.getElem?_eq_getElem (by rw [(hrest rfl).1]; omega)] at h1
        obtain ⟨cs', h2, _⟩ := Option.bind_eq_some_iff.1 h1
        refine ⟨cs', ?_⟩
        simpa [Addr.add] using h2
      · have h1 := hel 0 (by omega)
        rw [List.getElem?_eq_getElem (by omega)] at h1
        obtain ⟨cs', h2, _⟩ := Option.bind_eq_some_iff.1 h1
        refine ⟨cs', ?_⟩
        simpa [Addr.add] using h2
    obtain ⟨cs', h2⟩ := hcells
    obtain ⟨_, q1, q2⟩ := World.cells?_some h2
    have := q2 0 hz0
    rw [List.getElem?_eq_getElem (by omega)] at this
    exact ⟨_, by simpa [Addr.add] using this⟩
  have hsp : a.spot = none := by
    obtain ⟨v, hv⟩ := hfirst
    unfold World.cell? at hv
    cases hsp : a.spot with
    | none => rfl
    | some k =>
      rw [hsp] at hv
      split at hv <;> simp at hv
  obtain ⟨b, off, spt⟩ := a
  cases hsp
  have key : ∀ i, i < len → ∃ y : α, Ok y ∧ ∃ cs', cs'.length = P.cellsOf e ∧ (∀ j (hj : j < cs'.length), w.cell? ⟨b, off + i * P.cellsOf e + j, none⟩ = some cs'[j]) ∧ Imms (Live w) w cs' (f y) ∧ ∀ v ∈ cs', v.oneCell' = true := fun i hi => by
    have h1 := hel i hi
    rw [List.getElem?_eq_getElem (by omega)] at h1
    obtain ⟨cs', h2, h3⟩ := Option.bind_eq_some_iff.1 h1
    obtain ⟨y, k1, k2, k3⟩ := he _ _ _ (hfit i (by omega)) h3
    obtain ⟨_, q1, q2⟩ := World.cells?_some h2
    refine ⟨y, k1, cs', q1, fun j hj => ?_, k2, k3⟩
    have := q2 j (by omega)
    rw [List.getElem?_eq_getElem hj] at this
    rw [← this]
    congr 1
    unfold Addr.add
    by_cases e1 : i * P.cellsOf e = 0
    · rw [if_pos e1]
      by_cases e2 : j = 0
      · subst e2; simp [e1]
      · rw [if_neg e2]; simp [e1]
    · rw [if_neg e1]
      by_cases e2 : j = 0
      · subst e2; simp
      · rw [if_neg e2]
  obtain ⟨l, hl, hp⟩ := pick len key
  refine ⟨(false, l), ⟨fun y hy => ?_, by simp, by rw [hl]; exact hbytes⟩, .one ?_, by simp [Value.oneCell']⟩
  · obtain ⟨i, hi, rfl⟩ := List.getElem_of_mem hy
    exact (hp i hi).1
  · -- the cells of the row
    have hcell : ∀ i j, i < len → j < P.cellsOf e → ∃ v, w.cell? ⟨b, off + i * P.cellsOf e + j, none⟩ = some v ∧ v.oneCell' = true ∧ ∀ (h : i < l.length) (h' : j < (f l[i]).length), Imm (Live w) w v (f l[i])[j] := fun i j hi hj => by
      obtain ⟨_, cs', q1, q2, q3, q4⟩ := hp i (by omega)
      exact ⟨cs'[j], q2 j (by omega), q4 _ (List.getElem_mem _), fun h h' => q3.2 j (by omega) h'⟩
    have hv := fun i j => show ∃ v, i < len → j < P.cellsOf e → w.cell? ⟨b, off + i * P.cellsOf e + j, none⟩ = some v ∧ v.oneCell' = true ∧ ∀ (h : i < l.length) (h' : j < (f l[i]).length), Imm (Live w) w v (f l[i])[j] from by
      by_cases h : i < len ∧ j < P.cellsOf e
      · obtain ⟨v, hv⟩ := hcell i j h.1 h.2; exact ⟨v, fun _ _ => hv⟩
      · exact ⟨undef, fun h1 h2 => absurd ⟨h1, h2⟩ h⟩
    have hvs : ∀ i j, ∃ v, v = Classical.choose (hv i j) := fun i j => ⟨_, rfl⟩
    have e0 : (l.map f).length = len := by simp [hl]
    have := Imm.sl (F := Live w) (w := w) b off cap (P.cellsOf e) (l.map f) .unk (fun i j => Classical.choose (hv i j)) (by rw [e0]; exact hlc) (.inl rfl) (fun i hi => by rw [List.getElem_map]; exact hz _)
      (fun i j hi hj => by
        obtain ⟨k1, k2, _⟩ := Classical.choose_spec (hv i j) (by rw [← e0]; exact hi) hj
        refine ⟨?_, k1, k2⟩
        unfold World.cell? at k1
        show b < w.heap.size
        cases hb : w.heap[b]? with
        | none => simp [hb] at k1
        | some o => exact (Array.getElem?_eq_some_iff.1 hb).1)
      (fun i j h h' => by
        have h'2 := h'
        rw [List.getElem_map, hz] at h'2
        have := (Classical.choose_spec (hv i j) (by rw [← e0]; exact h) h'2).2.2 (by simpa using h) (by rw [hz]; exact h'2)
        simpa only [List.getElem_map] using this)
    rw [e0] at this
    exact this

/-- The fields of a struct from cell k on. -/
def RdF (enc : TypeId × Value → H) (P : Program) (w : World) (L : List Field) (k tot : Nat) (f : α → List AV) (Ok : α → Prop) : Prop :=
  ∀ (n : Nat) (cs : List Value), cs.length = tot → (∀ fd ∈ L, ∃ y, DataW.trod enc P w 0 (fun _ => true) true n fd.type ((cs.drop fd.offset).take (P.cellsOf fd.type)) = some y ∧ Fits P fd.type y.1) →
    ∃ a, Ok a ∧ Imms (Live w) w (cs.drop k) (f a) ∧ ∀ v ∈ cs.drop k, v.oneCell' = true
theorem RdF.nil {tot : Nat} : RdF enc P w [] tot tot (fun _ : Unit => []) (fun _ => True) := fun n cs hl _ => by
  have : cs.drop tot = [] := by rw [List.drop_eq_nil_iff]; omega
  rw [this]
  exact ⟨(), trivial, ⟨rfl, fun i h => by simp at h⟩, by simp⟩
theorem RdF.cons {fd : Field} {fs : List Field} {k k' sz tot : Nat} {f : α → List AV} {Ok : α → Prop} {g : β → List AV} {Ok' : β → Prop} (ho : fd.offset = k) (hz : P.cellsOf fd.type = sz) (hk : k + sz = k')
    (h : Reads enc P w fd.type f Ok) (hs : RdF enc P w fs k' tot g Ok') : RdF enc P w (fd :: fs) k tot (fun x : α × β => f x.1 ++ g x.2) (fun x => Ok x.1 ∧ Ok' x.2) := fun n cs hl hf => by
  obtain ⟨y, hy, hyf⟩ := hf fd List.mem_cons_self
  obtain ⟨a, h1, h2, h3⟩ := h _ _ _ hyf hy
  obtain ⟨b, k1, k2, k3⟩ := hs n cs hl fun fd' h' => hf fd' (List.mem_cons_of_mem _ h')
  have e : cs.drop k = (cs.drop k).take sz ++ cs.drop k' := by
    rw [← hk, ← List.drop_drop, List.take_append_drop]
  rw [ho, hz] at h2 h3
  refine ⟨(a, b), ⟨h1, k1⟩, by rw [e]; exact h2.append k2, fun v hv => ?_⟩
  rw [e, List.mem_append] at hv
  rcases hv with hv | hv
  · exact h3 v hv
  · exact k3 v hv
theorem Reads.struct {t : TypeId} {fs : Array Field} {tot : Nat} {f : α → List AV} {Ok : α → Prop} (ht : P.underlying t = some (.struct fs)) (hz : P.cellsOf t = tot) (h : RdF enc P w fs.toList 0 tot f Ok) : Reads enc P w t f Ok := fun fuel cs x hs hx => by
  obtain ⟨xs, n, _, rfl, hl, hlen, hf⟩ := DataW.trod_struct ht hx
  unfold Fits at hs
  simp only [DataW.weights, ht] at hs
  obtain ⟨a, h1, h2, h3⟩ := h n cs (hl.trans hz) fun fd hfd => by
    obtain ⟨i, hi, rfl⟩ := List.getElem_of_mem hfd
    have := hf i fs.toList[i] (by simp)
    have hix : i < xs.length := by simp at hi; omega
    rw [List.getElem?_eq_getElem hix] at this
    exact ⟨_, this, fits_each hs i _ _ (by rw [List.getElem?_map, List.getElem?_eq_getElem hi]; rfl) (by rw [List.getElem?_map, List.getElem?_eq_getElem hix]; rfl)⟩
  exact ⟨a, h1, by simpa using h2, by simpa using h3⟩

theorem arr_go {sz : Nat} {f : α → List AV} {Ok : α → Prop} : ∀ (n : Nat) (cs : List Value), cs.length = n * sz →
    (∀ i, i < n → ∃ a, Ok a ∧ Imms (Live w) w ((cs.drop (i * sz)).take sz) (f a) ∧ ∀ v ∈ (cs.drop (i * sz)).take sz, v.oneCell' = true) →
    ∃ l : List α, l.length = n ∧ (∀ a ∈ l, Ok a) ∧ Imms (Live w) w cs (l.map f).flatten ∧ ∀ v ∈ cs, v.oneCell' = true
  | 0, cs, hl, _ => by
    have : cs = [] := by cases cs with
      | nil => rfl
      | cons a l => simp at hl
    subst this
    exact ⟨[], rfl, by simp, ⟨rfl, fun i h => by simp at h⟩, by simp⟩
  | n + 1, cs, hl, h => by
    obtain ⟨a, h1, h2, h3⟩ := h 0 (by omega)
    obtain ⟨l, k1, k2, k3, k4⟩ := arr_go (sz := sz) n (cs.drop sz) (by rw [List.length_drop, hl, Nat.add_mul]; omega) fun i hi => by
      have := h (i + 1) (by omega)
      rwa [List.drop_drop, show sz + i * sz = (i + 1) * sz by rw [Nat.add_mul]; omega]
    simp only [Nat.zero_mul, List.drop_zero] at h2 h3
    have e := List.take_append_drop sz cs
    refine ⟨a :: l, by simp [k1], fun b hb => ?_, ?_, fun v hv => ?_⟩
    · rcases List.mem_cons.1 hb with rfl | hb
      · exact h1
      · exact k2 b hb
    · rw [← e]; simpa using h2.append k3
    · rw [← e, List.mem_append] at hv
      rcases hv with hv | hv
      · exact h3 v hv
      · exact k4 v hv
theorem Reads.array {t e : TypeId} {n sz : Nat} {f : α → List AV} {Ok : α → Prop} (ht : P.underlying t = some (.array n e)) (hz : P.cellsOf e = sz) (ha : P.cellsOf t = n * sz) (h : Reads enc P w e f Ok) :
    Reads enc P w t (fun l : List α => (l.map f).flatten) (fun l => l.length = n ∧ ∀ a ∈ l, Ok a) := fun fuel cs x hs hx => by
  obtain ⟨xs, m, _, rfl, hl, hlen, hf⟩ := DataW.trod_array ht hx
  rw [ha] at hl
  rw [hz] at hf
  unfold Fits at hs
  simp only [DataW.weights, ht] at hs
  obtain ⟨l, h1, h2, h3, h4⟩ := arr_go n cs hl fun i hi => by
    have := hf i hi
    rw [List.getElem?_eq_getElem (by omega)] at this
    exact h _ _ _ (fits_all hs _ (List.mem_map.2 ⟨_, List.getElem_mem _, rfl⟩)) this
  exact ⟨l, ⟨h1, h2⟩, h3, h4⟩

theorem Reads.imm_struct {t : TypeId} {fs : Array Field} {f : α → List AV} {Ok : α → Prop} {r : Reach} {b0 : Nat} {v : Value} {d : DataW H} {ps : List MemPlace} (ht : P.underlying t = some (.struct fs)) (h : Reads enc P w t f Ok)
    (hv : Value.okWide P w r b0 t v) (hw : Fits P t d) (hd : DataW.Trod enc P w 0 (fun _ => true) true t v d ps) : ∃ a, Ok a ∧ Imm (Live w) w v (.ag (f a)) := by
  obtain ⟨cs, rfl, _⟩ := WideShapes.okWide_struct ht hv
  obtain ⟨fuel, hd⟩ := hd
  obtain ⟨a, h1, h2, _⟩ := h _ _ _ hw hd
  refine ⟨a, h1, ?_⟩
  have : (Value.agg cs) = .agg cs.toList.toArray := by simp
  rw [this]
  exact .ag _ _ h2.1 h2.2
theorem Reads.imm_array {t e : TypeId} {n : Nat} {f : α → List AV} {Ok : α → Prop} {r : Reach} {b0 : Nat} {v : Value} {d : DataW H} {ps : List MemPlace} (ht : P.underlying t = some (.array n e)) (h : Reads enc P w t f Ok)
    (hv : Value.okWide P w r b0 t v) (hw : Fits P t d) (hd : DataW.Trod enc P w 0 (fun _ => true) true t v d ps) : ∃ a, Ok a ∧ Imm (Live w) w v (.ag (f a)) := by
  simp only [Value.okWide, ht] at hv
  obtain ⟨cs, rfl, _⟩ := hv
  obtain ⟨fuel, hd⟩ := hd
  obtain ⟨a, h1, h2, _⟩ := h _ _ _ hw hd
  refine ⟨a, h1, ?_⟩
  have : (Value.agg cs) = .agg cs.toList.toArray := by simp
  rw [this]
  exact .ag _ _ h2.1 h2.2
theorem Reads.imm_slice {t e : TypeId} {f : α → AV} {Ok : α → Prop} {r : Reach} {b0 : Nat} {v : Value} {d : DataW H} {ps : List MemPlace} (ht : P.underlying t = some (.slice e)) (h : Reads enc P w t (fun a => [f a]) Ok)
    (hv : Value.okWide P w r b0 t v) (hw : Fits P t d) (hd : DataW.Trod enc P w 0 (fun _ => true) true t v d ps) : ∃ a, Ok a ∧ Imm (Live w) w v (f a) := by
  have hc : v.cells = #[v] := by
    simp only [Value.okWide, ht, Cell.okWide] at hv
    cases v <;> simp_all [Cell.ok, Value.cells]
  obtain ⟨fuel, hd⟩ := hd
  obtain ⟨a, h1, h2, _⟩ := h _ _ _ hw hd
  rw [hc] at h2
  exact ⟨a, h1, h2.2 0 (by simp) (by simp)⟩

theorem Grown.below {F F' : Nat → Nat → Prop} {w' : World} (g : Avl.Grown F w F' w') : Below w.heap.size w w' := ⟨g.kept.os, g.kept.tape, g.kept.output, g.size, g.old⟩

theorem trodAll_stays (hl : laidOutB P = true) {w' : World} (hb : Below w.heap.size w w') {spf : Nat → Bool} : ∀ {ts : List TypeId} {vs : List Value} {ds : List (DataW H)} {ps : List MemPlace}, (∀ t ∈ ts, P.readableRec t = true ∧ t < P.types.size) →
    DataW.TrodAll enc P w 0 (fun _ => true) true ts vs ds ps → (∀ p ∈ ps, p.block < w.heap.size) → (∀ p ∈ ps, spf p.block = true) → DataW.TrodAll enc P w' 0 spf true ts vs ds ps
  | [], [], [], _, _, h, _, _ => h
  | t :: ts, v :: vs, d :: ds, _, hr, ⟨p, q, h1, h2, e⟩, hlt, hsp => by
    subst e
    refine ⟨p, q, ?_, trodAll_stays hl hb (fun t ht => hr t (List.mem_cons_of_mem _ ht)) h2 (fun x hx => hlt x (List.mem_append_right _ hx)) fun x hx => hsp x (List.mem_append_right _ hx), rfl⟩
    have := hr t List.mem_cons_self
    exact WideElems.Trod_stays hl this.1 this.2 h1 (fun x hx => hb.same (hlt x (List.mem_append_left _ hx))) fun x hx => hsp x (List.mem_append_left _ hx)
  | [], _ :: _, _, _, _, h, _, _ => h.elim
  | [], [], _ :: _, _, _, h, _, _ => h.elim
  | _ :: _, [], _, _, _, h, _, _ => h.elim
  | _ :: _, _ :: _, [], _, _, h, _, _ => h.elim

/-- A law from its contract: true comes back, and the arguments read as they did. -/
theorem law_calls {f : FuncId} {fn : Func} {s : ChangeSpec} {apart fresh handsOn again : Bool} {args : Array Value} {avs : List AV} {ds : List (DataW H)} {before : List MemPlace} {tb : TypeId}
    (hl : laidOutB P = true) (hrd : (fn.params.toList.all fun t => P.readableRec t && decide (t < P.types.size)) = true) (hrt : fn.resultTypes = #[tb]) (htb : P.underlying tb = some .bool) (hvars : s.vars = [])
    (hs : s.fn H (ds ++ []) = { results := [.lit (.bool true)], args := ds })
    (h : PureIs P f avs (.sc (.bool true))) (hi : Imms (Live w) w args.toList avs) (hW : DataW.Whole enc P fn.params.toList s.vars apart w args.toList ds [] before) :
    Calls P f args w fun e W' => ∃ v, e = .returned v ∧ s.post enc P fn apart fresh handsOn again w args v W' := by
  have hW' := hW
  obtain ⟨p, q, hA, hV, rfl, hfz, hnd⟩ := hW
  rw [hvars] at hV
  obtain ⟨_, rfl⟩ := trodVars_none hV
  have hc := callsIn_wide.1 (h.2 (Live w) w args.toList (fun _ _ h => h) hi)
  rw [Array.toArray_toList] at hc
  refine hc.mono fun e W' ⟨v, F', he, hr, g⟩ => ?_
  have hv : v = .bool true := by cases hr; rfl
  subst hv
  have hb := Grown.below g
  refine ⟨_, he, post_of_same (pa := p) (pv := []) (by simpa using hW') (fun _ _ _ => ?_) (fun sp hsp => ?_) (fun _ _ => ?_) (by simp) (hb.frame _) g.kept.froz ?_⟩
  · rw [hs, hrt]; exact trodAll_mk1 (shut_bool htb true)
  · rw [hs]
    refine trodAll_stays hl hb (fun t ht => ?_) hA (fun x hx => hW'.lt x (by simpa using hx)) fun x hx => hsp x (by simpa using hx)
    have := List.all_eq_true.1 hrd t ht
    simpa using this
  · rw [hvars, hs]; exact rfl
  · exact ok_one hrt rfl (okWide_bool_mk htb true)

end
end Go.Avl
namespace Go.Proofs.Ytnnmghgifhidgaa
open Go Go.Avl Go.Proofs Go.ChangeShapes Go.RowKit

theorem Try.own : ownKnob Try.prog.godebug = none := by kernel_rfl
theorem Try.laidOut : laidOutB Try.prog = true := by kernel_rfl

section
variable {H : Type} {enc : TypeId × Value → H} {w : World}

theorem u8wf {n : Int} (h : (Lit.int .u8 n).wf = true) : 0 ≤ n ∧ n < 256 := by
  simp [Lit.wf, IntKind.min, IntKind.max, IntKind.signed, IntKind.bits] at h
  omega
theorem u16wf {n : Int} (h : (Lit.int .u16 n).wf = true) : 0 ≤ n ∧ n < 65536 := by
  simp [Lit.wf, IntKind.min, IntKind.max, IntKind.signed, IntKind.bits] at h
  omega
theorem rd_u8 : Reads enc Try.prog w 5 (fun n : Int => [.sc (.int .u8 n)]) (fun n => 0 ≤ n ∧ n < 256) := (Reads.int (by kernel_rfl)).mono fun a h => ⟨a, u8wf h, rfl⟩
theorem rd_u16 : Reads enc Try.prog w 98 u16C (fun n => 0 ≤ n ∧ n < 65536) := (Reads.int (by kernel_rfl)).mono fun a h => ⟨a, u16wf h, rfl⟩
theorem rd_u8x2 : Reads enc Try.prog w 73 u8C2 (fun e => 0 ≤ e.1 ∧ e.1 < 256 ∧ 0 ≤ e.2 ∧ e.2 < 256) := (Reads.array (n := 2) (sz := 1) (by kernel_rfl) (by kernel_rfl) (by kernel_rfl) rd_u8).mono fun l h => by
  match l, h with
  | [a, b], ⟨_, h⟩ =>
    simp only [List.mem_cons, forall_eq_or_imp, List.not_mem_nil, false_implies, implies_true, and_true] at h
    exact ⟨(a, b), ⟨h.1.1, h.1.2, h.2⟩, rfl⟩
theorem rd_u8x3 : Reads enc Try.prog w 72 u8C3 (fun t => 0 ≤ t.1 ∧ t.1 < 256 ∧ 0 ≤ t.2.1 ∧ t.2.1 < 256 ∧ 0 ≤ t.2.2 ∧ t.2.2 < 256) := (Reads.array (n := 3) (sz := 1) (by kernel_rfl) (by kernel_rfl) (by kernel_rfl) rd_u8).mono fun l h => by
  match l, h with
  | [a, b, c], ⟨_, h⟩ =>
    simp only [List.mem_cons, forall_eq_or_imp, List.not_mem_nil, false_implies, implies_true, and_true] at h
    exact ⟨(a, b, c), ⟨h.1.1, h.1.2, h.2.1.1, h.2.1.2, h.2.2⟩, rfl⟩
theorem rd_LM : Reads enc Try.prog w 24 LM.cells LM.Ok := by
  have := (Reads.struct (enc := enc) (w := w) (tot := 5) Try.underlying24 (by kernel_rfl) (.cons (sz := 1) rfl (by kernel_rfl) rfl rd_u8 (.cons (sz := 1) rfl (by kernel_rfl) rfl rd_u8 (.cons (sz := 1) rfl (by kernel_rfl) rfl rd_u8 (.cons (sz := 1) rfl (by kernel_rfl) rfl (Reads.bool Try.underlying4)
    (.cons (sz := 1) rfl (by kernel_rfl) rfl (Reads.slice Try.underlying22 rd_u16 (fun a => by rw [show Program.cellsOf Try.prog 98 = 1 by kernel_rfl]; rfl) (by rw [show Program.cellsOf Try.prog 98 = 1 by kernel_rfl]; exact Nat.succ_pos _)) .nil))))))
  exact this.mono fun a h => ⟨⟨a.1, a.2.1, a.2.2.1, a.2.2.2.1, a.2.2.2.2.1.1, a.2.2.2.2.1.2, .unk⟩, ⟨h.1.1, h.2.1.1, h.2.2.1.1, h.2.2.2.2.1.1⟩, rfl⟩
theorem rd_LT : Reads enc Try.prog w 27 LT.cells LT.Ok := by
  have := (Reads.struct (enc := enc) (w := w) (tot := 6) Try.underlying27 (by kernel_rfl) (.cons (sz := 5) rfl (by kernel_rfl) rfl rd_LM (.cons (sz := 1) rfl (by kernel_rfl) rfl (Reads.slice Try.underlying25 rd_u8x3 (fun a => by rw [show Program.cellsOf Try.prog 72 = 3 by kernel_rfl]; rfl) (by rw [show Program.cellsOf Try.prog 72 = 3 by kernel_rfl]; exact Nat.succ_pos _)) .nil)))
  exact this.mono fun a h => ⟨⟨a.1, a.2.1.1, a.2.1.2, .unk⟩, ⟨h.1, h.2.1.1⟩, rfl⟩
theorem rd_U8s : Reads enc Try.prog w 28 (fun x : Bool × List (Int × Int) => [.sl x.1 (x.2.map u8C2) .unk]) (fun x => U8s x.2) :=
  (Reads.slice Try.underlying28 rd_u8x2 (fun a => by rw [show Program.cellsOf Try.prog 73 = 2 by kernel_rfl]; rfl) (by rw [show Program.cellsOf Try.prog 73 = 2 by kernel_rfl]; exact Nat.succ_pos _)).mono fun a h => ⟨a, h.1, rfl⟩
theorem rd_i64 : Reads enc Try.prog w 3 (fun n : Int => [.sc (.int .i64 n)]) (fun _ => True) := (Reads.int Try.underlying3).mono fun a _ => ⟨a, trivial, rfl⟩
theorem rd_edge : Reads enc Try.prog w 67 edgeC (fun _ => True) := by
  have := (Reads.struct (enc := enc) (w := w) (tot := 2) Try.underlying67 (by kernel_rfl) (.cons (sz := 1) rfl (by kernel_rfl) rfl rd_i64 (.cons (sz := 1) rfl (by kernel_rfl) rfl rd_i64 .nil)))
  exact this.mono fun a _ => ⟨(a.1, a.2.1), trivial, rfl⟩
theorem rd_evt : Reads enc Try.prog w 52 edgeC (fun _ => True) := by
  have := (Reads.struct (enc := enc) (w := w) (tot := 2) Try.underlying52 (by kernel_rfl) (.cons (sz := 1) rfl (by kernel_rfl) rfl rd_i64 (.cons (sz := 1) rfl (by kernel_rfl) rfl rd_i64 .nil)))
  exact this.mono fun a _ => ⟨(a.1, a.2.1), trivial, rfl⟩
theorem rd_tim : Reads enc Try.prog w 70 timC (fun _ => True) := by
  have := (Reads.struct (enc := enc) (w := w) (tot := 3) Try.underlying70 (by kernel_rfl) (.cons (sz := 1) rfl (by kernel_rfl) rfl rd_i64 (.cons (sz := 2) rfl (by kernel_rfl) rfl rd_edge .nil)))
  exact this.mono fun a _ => ⟨(a.1, a.2.1.1, a.2.1.2), trivial, rfl⟩
/-- Rows that memory can hold. -/
def RowOk (r : Row) : Prop := (r.2.length : Int) ≤ 140737488355328
theorem len_of {n b : Nat} (hb : 1 ≤ b) (h : n * b ≤ reachBytes) : (n : Int) ≤ 140737488355328 := by
  have h1 : n * 1 ≤ n * b := Nat.mul_le_mul_left n hb
  have h2 : reachBytes ≤ 140737488355328 := by decide
  omega
theorem rd_row : Reads enc Try.prog w 68 rowC RowOk :=
  (Reads.slice (by kernel_rfl) rd_edge (fun a => by rw [show Program.cellsOf Try.prog 67 = 2 by kernel_rfl]; rfl) (by rw [show Program.cellsOf Try.prog 67 = 2 by kernel_rfl]; exact Nat.succ_pos _)).mono fun a h => ⟨a, len_of (b := Program.bytesOf Try.prog 67) (by decide +kernel) h.2.2, rfl⟩
theorem rd_rows : Reads enc Try.prog w 29 (fun x : Bool × List Row => [.sl x.1 (x.2.map rowC) .unk]) (fun x => ∀ r ∈ x.2, RowOk r) :=
  (Reads.slice Try.underlying29 rd_row (fun a => by rw [show Program.cellsOf Try.prog 68 = 1 by kernel_rfl]; rfl) (by rw [show Program.cellsOf Try.prog 68 = 1 by kernel_rfl]; exact Nat.succ_pos _)).mono fun a h => ⟨a, h.1, rfl⟩
theorem rd_mach : Reads enc Try.prog w 31 Mach.cells (fun m => ∀ r ∈ m.rows, RowOk r) := by
  have := (Reads.struct (enc := enc) (w := w) (tot := 3) Try.underlying31 (by kernel_rfl) (.cons (sz := 1) rfl (by kernel_rfl) rfl rd_i64 (.cons (sz := 1) rfl (by kernel_rfl) rfl rd_i64 (.cons (sz := 1) rfl (by kernel_rfl) rfl rd_rows .nil))))
  exact this.mono fun a h => ⟨⟨a.1, a.2.1, a.2.2.1.1, a.2.2.1.2⟩, h.2.2.1, rfl⟩
theorem rd_timed : Reads enc Try.prog w 34 Timed.cells (fun x => ∀ r ∈ x.m.rows, RowOk r) := by
  have := (Reads.struct (enc := enc) (w := w) (tot := 4) Try.underlying34 (by kernel_rfl) (.cons (sz := 3) rfl (by kernel_rfl) rfl rd_mach (.cons (sz := 1) rfl (by kernel_rfl) rfl (Reads.slice Try.underlying32 rd_tim (fun a => by rw [show Program.cellsOf Try.prog 70 = 3 by kernel_rfl]; rfl) (by rw [show Program.cellsOf Try.prog 70 = 3 by kernel_rfl]; exact Nat.succ_pos _)) .nil)))
  exact this.mono fun a h => ⟨⟨a.1, a.2.1.1, a.2.1.2⟩, h.1, rfl⟩
theorem rd_evs : Reads enc Try.prog w 36 (fun x : Bool × List Evt => [.sl x.1 (x.2.map edgeC) .unk]) (fun x => (x.2.length : Int) ≤ 140737488355328) :=
  (Reads.slice Try.underlying36 rd_evt (fun a => by rw [show Program.cellsOf Try.prog 52 = 2 by kernel_rfl]; rfl) (by rw [show Program.cellsOf Try.prog 52 = 2 by kernel_rfl]; exact Nat.succ_pos _)).mono fun a h => ⟨a, len_of (b := Program.bytesOf Try.prog 52) (by decide +kernel) h.2.2, rfl⟩
end

end Go.Proofs.Ytnnmghgifhidgaa
