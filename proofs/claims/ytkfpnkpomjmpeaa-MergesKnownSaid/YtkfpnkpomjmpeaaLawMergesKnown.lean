/-
  Lemmas.
  MergesKnown returns true at every input, and each argument reads behind the call as it read before.
-/
import Derived.Test.YtkfpnkpomjmpeaaPart10
set_option linter.unusedSimpArgs false
set_option linter.unusedVariables false
set_option linter.unnecessarySimpa false
set_option linter.deprecated false
namespace Go.Avl
open Go Go.Proofs.Try
set_option maxRecDepth 10000
set_option linter.unusedSimpArgs false
theorem apart64_is : PureIs prog 35 [.sc (.int .i64 64)] (.ag (apM 64).cells) := by
 have := apart35_is (n := 64) (by omega) (apart_ok (by omega)) (apart_cons 64)
 exact this
theorem apart65_is : PureIs prog 35 [.sc (.int .i64 65)] (.ag (apM 65).cells) := by
 have := apart35_is (n := 65) (by omega) (apart_ok (by omega)) (apart_cons 65)
 exact this
theorem apM_len (n : Nat) : ∀ r ∈ (apM n).rows, r.2.length < 1000000 := fun r hr => by
 obtain ⟨x, _, rfl⟩ := List.mem_map.1 hr
 simp [treeRow]
theorem apM_rowsF (n : Nat) : RowsF (apM n) := fun r hr _ => by
 obtain ⟨x, _, rfl⟩ := List.mem_map.1 hr
 rfl
theorem apM_nodes {n : Nat} (hn : n ≤ 65) : nodesE (apM n) [] = 0 := by
 unfold nodesE
 rw [apM_ok hn]; rfl
theorem known_64 : ∃ rows : List (List (Int × Int)), rows.length = 64 ∧ PureIs prog 20 [.ag (apM 64).cells] (.tu [.ag [.sc (.int .i64 3), .sc (.int .i64 16), .sl false (rows.map rowFu) .full], .sc (.int .i64 0)]) := by
 obtain ⟨rows, h1, h2⟩ := apM_64
 have := merge20_is (apM 64) (apM_len 64) (apM_rowsF 64)
 unfold mergeRes at this
 rw [apM_nodes (by omega), if_neg (by simp), h1] at this
 exact ⟨rows, h2, this⟩
theorem known_65 : PureIs prog 20 [.ag (apM 65).cells] (.tu [zeroM, .sc (.int .i64 3)]) := by
 have := merge20_is (apM 65) (apM_len 65) (apM_rowsF 65)
 unfold mergeRes at this
 rw [apM_nodes (by omega), if_neg (by simp), apM_65] at this
 exact this
theorem known_spent_all : ((List.range 9).all fun i => match leastL exT 64 1 i with | .spent => true | _ => false) = true := by kernel_rfl
theorem known_done_all : ((List.range' 9 3).all fun i => match leastL exT 64 1 i with | .done c k f => c == [0, 1, 0, 1, 0] && k == 2 && f == i - 9 | _ => false) = true := by kernel_rfl
theorem known_spent {i : Nat} (h : i < 9) : PureIs prog 31 [.ag exT.cells, .sc (.int .i64 i)] (.tu [zeroM, .sc (.int .i64 0), .sc (.int .i64 17)]) := by
 have := least31_is exT exT_rows i (by omega)
 unfold leastRes at this
 rw [exT_nodes [] rfl, if_neg (by simp)] at this
 have ha := List.all_eq_true.1 known_spent_all i (List.mem_range.2 h)
 by_cases h0 : (i : Int) < 1
 ·rw [if_pos h0] at this; exact this
 ·rw [if_neg h0, Int.toNat_natCast] at this
  cases hl : leastL exT 64 1 i with
  | spent => rw [hl] at this; exact this
  | done c k f => rw [hl] at ha; cases ha
  | limit => rw [hl] at ha; cases ha
theorem known_done {i : Nat} (h1 : 9 ≤ i) (h2 : i < 12) : PureIs prog 31 [.ag exT.cells, .sc (.int .i64 i)] (.tu [twoU, .sc (.int .i64 ((i - 9 : Nat) : Int)), .sc (.int .i64 0)]) := by
 have := least31_is exT exT_rows i (by omega)
 unfold leastRes at this
 rw [exT_nodes [] rfl, if_neg (by simp), if_neg (by omega), Int.toNat_natCast] at this
 have ha := List.all_eq_true.1 known_done_all i (by rw [List.mem_range'_1]; omega)
 cases hl : leastL exT 64 1 i with
 | spent => rw [hl] at ha; cases ha
 | limit => rw [hl] at ha; cases ha
 | done c k f =>
   rw [hl] at ha this
   simp only [Bool.and_eq_true, beq_iff_eq] at ha
   obtain ⟨⟨rfl, rfl⟩, rfl⟩ := ha
   simp only at this
   rw [ex_col] at this
   exact this
def noT : Mach := ⟨2, 1, false, [(false, [(-1, -1), (-1, -1)])]⟩
theorem noT_eq : treeM 2 1 (okLog []) = noT := by kernel_rfl
theorem noT_is : PureIs prog 11 [.ag [.sc (.int .i64 2), .sc (.int .i64 1), .sl true [] .zer]] (.ag noT.cells) := by
 have := tree11_is 2 1 true [] .zer (fun t h => by cases h) (by simp) (by omega)
 rw [noT_eq] at this
 exact this
theorem noT_rows : ∀ r ∈ noT.rows, r.2.length < 1000000 := by decide
theorem noT_nodes : nodesE noT [] = 0 := by kernel_rfl
theorem noT_least : leastL noT 64 1 1 = .done [0] 1 0 := by kernel_rfl
def oneU : AV := .ag [.sc (.int .i64 2), .sc (.int .i64 1), .sl false [[.sl false [[.sc (.int .i64 (-1)), .sc (.int .i64 (-1))], [.sc (.int .i64 (-1)), .sc (.int .i64 (-1))]] .unk]] .full]
theorem noT_col : colRes noT [0] 1 = oneU := by kernel_rfl
theorem noT_least_is : PureIs prog 31 [.ag noT.cells, .sc (.int .i64 1)] (.tu [oneU, .sc (.int .i64 0), .sc (.int .i64 0)]) := by
 have := least31_is noT noT_rows 1 (by omega)
 unfold leastRes at this
 rw [noT_nodes, if_neg (by simp), if_neg (by omega), show (1 : Int).toNat = 1 from rfl, noT_least] at this
 simp only at this
 rw [noT_col] at this
 exact this
set_option maxHeartbeats 8000000 in
theorem mergesKnown_is : PureIs prog 10 [] (.sc (.bool true)) := by
 have h64 := apart64_is
 have h65 := apart65_is
 obtain ⟨rows, hrl, hm64⟩ := known_64
 have hm65 := known_65
 have hch := ex_chain
 have hno := noT_is
 have hnl := noT_least_is
 have hlv := lives15_is
 have hk1 := fun (i : Nat) (h : i < 9) => known_spent h
 have hk2 := fun (i : Nat) (h : 9 ≤ i) (h2 : i < 12) => known_done h h2
 rw [Mach.cells] at h64 h65 hm64 hm65 hch hno hnl
 simp only [Mach.cells] at hk1 hk2
 unfold zeroM at hm65 hk1
 unfold twoU at hk2
 unfold oneU at hnl
 have hrl2 : (rows.map rowFu).length = 64 := by rw [List.length_map, hrl]
 generalize hz : rows.map rowFu = Z at hm64 hrl2
 refine PureIs.of (nv := 13) (hid := [34, 38, 69]) func10 rfl (by kernel_rfl) (by simp [ntmps10]) fun _ => ?_
 rw [ntmps10, results10]
 refine EvC.seq (EvC.rg (by simp only [go_sem] <;> rfl) (by simp) ?_)
 apply EvC.seq
 apply EvC.tr
 ·apply Tr.run
  ·simp only [go_sem] <;> rfl
  ·simp
  apply Tr.cons
  ·exact .call rfl rfl (by simp only [go_sem] <;> rfl) (by simp only [go_sem] <;> rfl) (by simp only [go_sem] <;> rfl) (by simp only [go_sem] <;> rfl) (by simp only [go_sem] <;> rfl) (h64)
  apply Tr.run
  ·simp only [go_sem] <;> rfl
  ·simp
  apply Tr.cons
  ·exact .call rfl rfl (by simp only [go_sem] <;> rfl) (by simp only [go_sem] <;> rfl) (by simp only [go_sem] <;> rfl) (by simp only [go_sem] <;> rfl) (by simp only [go_sem] <;> rfl) (hm64)
  apply Tr.done
  ·simp only [go_sem] <;> rfl
  ·simp
 apply EvC.seq
 apply EvC.tr
 ·apply Tr.run
  ·simp only [go_sem] <;> rfl
  ·simp
  apply Tr.cons
  ·exact .call rfl rfl (by simp only [go_sem] <;> rfl) (by simp only [go_sem] <;> rfl) (by simp only [go_sem] <;> rfl) (by simp only [go_sem] <;> rfl) (by simp only [go_sem] <;> rfl) (h65)
  apply Tr.run
  ·simp only [go_sem] <;> rfl
  ·simp
  apply Tr.cons
  ·exact .call rfl rfl (by simp only [go_sem] <;> rfl) (by simp only [go_sem] <;> rfl) (by simp only [go_sem] <;> rfl) (by simp only [go_sem] <;> rfl) (by simp only [go_sem] <;> rfl) (hm65)
  apply Tr.done
  ·simp only [go_sem] <;> rfl
  ·simp
 refine EvC.seq ?_
 apply EvC.seq
 apply EvC.trd
 ·simp only [go_sem, hrl2] <;> rfl
 ·simp
 refine EvC.cond_false (by simp only [go_sem] <;> rfl) ?_
 refine EvC.skip ?_
 apply EvC.seq
 apply EvC.tr
 ·apply Tr.run
  ·simp only [go_sem] <;> rfl
  ·simp
  apply Tr.cons
  ·exact .call rfl rfl (by simp only [go_sem] <;> rfl) (by simp only [go_sem] <;> rfl) (by simp only [go_sem] <;> rfl) (by simp only [go_sem] <;> rfl) (by simp only [go_sem] <;> rfl) (hch)
  apply Tr.done
  ·simp only [go_sem] <;> rfl
  ·simp
 refine EvC.frzB 31 (by simp only [go_sem] <;> rfl) ?_
 refine EvC.seq ?_
 refine EvC.seq (EvC.rg (by simp only [go_sem] <;> rfl) (by simp) ?_)
 refine EvC.block ?_
 refine EvC.loopS (σ := Nat) (fun i => ⟨[(0, .sc (.bool false)), (5, .ia exT.cells), (6, .sc (.int .i64 i))], [], [], 0⟩) (fun i => 12 - i) (fun i => i ≤ 12) [0, 5, 6] 0 ?_ ?_
 ·exact ⟨[], 0, rfl, (by simp only [go_sem, Int.natCast_zero, Mach.cells] <;> rfl), by omega⟩
 intro i hi
 unfold Mach.cells
 refine EvC.seq ?_
 refine EvC.seq (EvC.rg (by simp only [go_sem] <;> rfl) (by simp) ?_)
 refine EvC.cond (by simp only [go_sem] <;> rfl) (fun hc => ?_) (fun hc => ?_)
 rotate_left
 ·
  refine EvC.exit ?_
  apply EvC.seq
  apply EvC.tr
  ·apply Tr.run
   ·simp only [go_sem] <;> rfl
   ·simp
   apply Tr.cons
   ·exact .call rfl rfl (by simp only [go_sem] <;> rfl) (by simp only [go_sem] <;> rfl) (by simp only [go_sem] <;> rfl) (by simp only [go_sem] <;> rfl) (by simp only [go_sem] <;> rfl) (hno)
   apply Tr.run
   ·simp only [go_sem] <;> rfl
   ·simp
   apply Tr.cons
   ·exact .call rfl rfl (by simp only [go_sem] <;> rfl) (by simp only [go_sem] <;> rfl) (by simp only [go_sem] <;> rfl) (by simp only [go_sem] <;> rfl) (by simp only [go_sem] <;> rfl) (hnl)
   apply Tr.done
   ·simp only [go_sem] <;> rfl
   ·simp
  apply EvC.seq
  apply EvC.tr
  ·apply Tr.run
   ·simp only [go_sem] <;> rfl
   ·simp
   apply Tr.cons
   ·exact .callG rfl rfl (by simp only [go_sem] <;> rfl) rfl (by simp only [go_sem] <;> rfl) (by simp only [go_sem] <;> rfl) (by simp only [go_sem] <;> rfl) (by simp only [go_sem] <;> rfl) (by simp only [go_sem] <;> rfl) (hlv)
   apply Tr.done
   ·simp only [go_sem] <;> rfl
   ·simp
  refine EvC.ret ⟨.inl rfl, _, (by simp only [go_sem] <;> rfl), ?_, rfl⟩
  simp [mkRes]
 have hi12 : i < 12 := by have : (i : Int) < 12 := by simpa using hc
                          omega
 clear hc
 refine EvC.skip ?_
 refine EvC.seq ?_
 refine EvC.block ?_
 rcases Nat.lt_or_ge i 9 with h9 | h9
 ·have hk := hk1 i h9
  apply EvC.seq
  apply EvC.tr
  ·apply Tr.run
   ·simp only [go_sem] <;> rfl
   ·simp
   apply Tr.cons
   ·exact .call rfl rfl (by simp only [go_sem] <;> rfl) (by simp only [go_sem] <;> rfl) (by simp only [go_sem] <;> rfl) (by simp only [go_sem] <;> rfl) (by simp only [go_sem] <;> rfl) (hk)
   apply Tr.done
   ·simp only [go_sem] <;> rfl
   ·simp
  have d2 : decide ((i : Int) < 9) = true := decide_eq_true (by omega)
  have d3 : decide ((8 : Int) < (i : Int)) = false := decide_eq_false (by omega)
  apply EvC.seq
  apply EvC.trd
  ·simp only [go_sem, d2, d3] <;> rfl
  ·simp [d2, d3]; try omega
  refine EvC.cond_false (by simp only [go_sem] <;> rfl) ?_
  refine EvC.skip ?_
  refine EvC.rg (by simp only [go_sem] <;> rfl) (by exact inI64_of (by omega) (by omega)) ?_
  exact ⟨[], i + 1, rfl, (by simp only [go_sem, Mach.cells, Int.natCast_add, Int.natCast_one] <;> rfl), hi12, by omega⟩
 ·have hk := hk2 i h9 hi12
  apply EvC.seq
  apply EvC.tr
  ·apply Tr.run
   ·simp only [go_sem] <;> rfl
   ·simp
   apply Tr.cons
   ·exact .call rfl rfl (by simp only [go_sem] <;> rfl) (by simp only [go_sem] <;> rfl) (by simp only [go_sem] <;> rfl) (by simp only [go_sem] <;> rfl) (by simp only [go_sem] <;> rfl) (hk)
   apply Tr.done
   ·simp only [go_sem] <;> rfl
   ·simp
  have d2 : decide ((i : Int) < 9) = false := decide_eq_false (by omega)
  have d3 : decide ((8 : Int) < (i : Int)) = true := decide_eq_true (by omega)
  have d4 : decide (((i - 9 : Nat) : Int) = (i : Int) - 9) = true := decide_eq_true (by omega)
  apply EvC.seq
  apply EvC.trd
  ·simp only [go_sem, d2, d3, d4] <;> rfl
  ·simp [d2, d3]; exact inI64_of (by omega) (by omega)
  refine EvC.cond_false (by simp only [go_sem] <;> rfl) ?_
  refine EvC.skip ?_
  refine EvC.rg (by simp only [go_sem] <;> rfl) (by exact inI64_of (by omega) (by omega)) ?_
  exact ⟨[], i + 1, rfl, (by simp only [go_sem, Mach.cells, Int.natCast_add, Int.natCast_one] <;> rfl), hi12, by omega⟩
end Go.Avl
namespace Go.Proofs.Ytkfpnkpomjmpeaa
open Go Go.Avl Go.Proofs Go.ChangeShapes Go.RowKit
set_option maxRecDepth 100000 in
theorem mergesKnown_lifted (os : Os) (started : os.Started) (H : Type) (enc : TypeId × Value → H) :
  ReturnsInHanded {} Try.checked os 10 .any (Rows.mergesKnownSpec.pre6 enc Try.prog Try.f10 Rows.mergesKnownRow.domain false) (Rows.mergesKnownSpec.post enc Try.prog Try.f10 false true false false) := by
 refine returnsInHanded_of_change_sized (C := Try.checked) Try.own started (by kernel_rfl) Try.func10
  (ChangeSpec.witness6 (enc := enc) (C := Try.checked) false ⟨#[], #[], []⟩ 8 (by kernel_rfl) (by kernel_rfl) (by kernel_rfl) (by kernel_rfl)) ?_
 intro W base args ds gs before hval hW _ hz _
 have hW' := hW
 obtain ⟨p, q, hA, hV, rfl, _, _⟩ := hW'
 obtain ⟨rfl, rfl⟩ := trodVars_none hV
 have hA' : DataW.TrodAll enc Try.prog W 0 (fun _ => true) true [] args.toList ds p := by rw [← show Try.f10.params.toList = [] from rfl]; exact hA
 obtain ⟨rfl, rfl, rfl⟩ := trodAll_none hA'
 have hz' : (DataW.weightsEach Try.prog [] []).all (· ≤ reachBytes) = true := hz
 have hf := fits_each (P := Try.prog) (ts := []) (l := []) fun n hn => by simpa using List.all_eq_true.1 hz' n hn
 exact law_calls Try.laidOut (by kernel_rfl) rfl (by kernel_rfl) rfl rfl mergesKnown_is ⟨rfl, fun _ h => absurd h (Nat.not_lt_zero _)⟩ hW
theorem mergesKnown_holds : Rows.MergesKnownSaid :=
 OpenClaim.holds_of_wide 10 Try.f10 rfl rfl rfl rfl rfl rfl rfl ⟨rfl, rfl, rfl, rfl, rfl⟩ rfl rfl rfl rfl rfl (by kernel_rfl) Try.func10 (by kernel_rfl)
  (of_decide_eq_true (by kernel_rfl)) (by unfold Func.isWrapper; first | (rw [if_pos (by decide +kernel)]; kernel_rfl) | (rw [if_neg (by decide +kernel)]; exact ⟨rfl, rfl⟩))
  (fun os started H enc _ => mergesKnown_lifted os started H enc)
#print axioms mergesKnown_holds
end Go.Proofs.Ytkfpnkpomjmpeaa
