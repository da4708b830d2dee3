/-
  CulpritsErrors returns true at every input, and each argument reads behind the call as it read before; the table of the kinds of faults is tied to the program's text.
-/
import Derived.Test.YtgdcjkcohmjbeaaDoorPart10
set_option linter.unusedSimpArgs false
set_option linter.unusedVariables false
set_option linter.unnecessarySimpa false
set_option linter.deprecated false
namespace Go.Proofs.YtgdcjkcohmjbeaaDoor
open Go Go.Avl Go.Proofs Go.ChangeShapes Go.RowKit
set_option maxRecDepth 100000 in
theorem culpritsErrors_lifted (os : Os) (started : os.Started) (H : Type) (enc : TypeId × Value → H) :
  ReturnsInHanded {} Tryd.checked os 8 .any (fun w args => (Rows.culpritsErrorsSpec.pre enc Tryd.prog Tryd.f8 Rows.culpritsErrorsRow.domain false w args ∧ laidMetH Tryd.prog laidT w) ∧ sizedMet enc Tryd.prog Tryd.f8 (OpenSpec.ofChange Rows.culpritsErrorsSpec) false w args)
   (Rows.culpritsErrorsSpec.post enc Tryd.prog Tryd.f8 false true false false) := by
 refine returnsInHanded_of_change_and (C := Tryd.checked) (X := fun w _ => laidMetH Tryd.prog laidT w) (fun _ _ _ hh h => h.of_heap hh) Tryd.own started (by kernel_rfl) Tryd.func8
  (ChangeSpec.witness_shaped (enc := enc) (C := Tryd.checked) (os := os) (X := fun w _ => laidMetH Tryd.prog laidT w) false (World.doorLaid Tryd.prog 400 os) #[.agg #[.int .i64 0, .int .i64 0, .slice none 0 0], .agg #[.int .i64 0, .int .i64 0, .slice none 0 0], .agg #[.slice none 0 0, .slice none 0 0, .int .i64 0]] 8 rfl (World.shaped_of_RefB (by kernel_rfl) (by kernel_rfl)) (by kernel_rfl) (by kernel_rfl) (by kernel_rfl) (door_met os _)) ?_
 intro W base args ds gs before hval hW _ hz hL _
 have hgl := globs_of hL
 have hW' := hW
 obtain ⟨p, q, hA, hV, rfl, _, _⟩ := hW'
 obtain ⟨rfl, rfl⟩ := trodVars_none hV
 have hA' : DataW.TrodAll enc Tryd.prog W 0 (fun _ => true) true [33, 37, 84] args.toList ds p := by rw [← show Tryd.f8.params.toList = [33, 37, 84] from rfl]; exact hA
 obtain ⟨v0, v1, v2, d0, d1, d2, p0, p1, p2, rfl, rfl, rfl, h0, h1, h2⟩ := trodAll_three hA'
 have hz' : (DataW.weightsEach Tryd.prog [33, 37, 84] [d0, d1, d2]).all (· ≤ reachBytes) = true := hz
 have hf := fits_each (P := Tryd.prog) (ts := [33, 37, 84]) (l := [d0, d1, d2]) fun n hn => by simpa using List.all_eq_true.1 hz' n hn
 obtain ⟨x, hx, i0⟩ := rd_mach.imm_struct Tryd.underlying33 (hval 0 33 v0 rfl rfl) (hf 0 33 d0 rfl rfl) h0
 obtain ⟨l, hl, i1⟩ := rd_log.imm_struct Tryd.underlying37 (hval 1 37 v1 rfl rfl) (hf 1 37 d1 rfl rfl) h1
 obtain ⟨e, he, i2⟩ := rd_E.imm_struct Tryd.underlying84 (hval 2 84 v2 rfl rfl) (hf 2 84 d2 rfl rfl) h2
 exact law_calls Tryd.laidOut (by kernel_rfl) rfl (by kernel_rfl) rfl rfl (culpritsErrors_is x hx l.i l.o l.ln l.L e.k.1 e.k.2 e.f.1 e.f.2 e.a) (Imms.append (.one i0) (Imms.append (.one i1) (.one i2))) hW hgl
theorem culpritsErrors_said : Rows.CulpritsErrorsSaid :=
 OpenClaim.holds_of_wide 8 Tryd.f8 rfl rfl rfl rfl rfl rfl rfl ⟨rfl, rfl, rfl, rfl, rfl⟩ rfl rfl rfl rfl rfl (by kernel_rfl) Tryd.func8 (by kernel_rfl)
  (of_decide_eq_true (by kernel_rfl)) (by unfold Func.isWrapper; first | (rw [if_pos (by decide +kernel)]; kernel_rfl) | (rw [if_neg (by decide +kernel)]; exact ⟨rfl, rfl⟩))
  (fun os started H enc _ => culpritsErrors_lifted os started H enc)
theorem culpritsErrors_holds : Rows.CulpritsErrorsCardSaid :=
 Claim7.holds_tied_plain_at .later [] [.widerDeep] true (true, "51f813250da31b42dc1a3d3ec51c85cb333c07c9a890cc3a7b9fbfd303598b75") false
  culpritsErrors_said (fun _ h => by cases h) (by kernel_rfl) (fun _ h => by cases h) culpritsErrors_row_tie rfl ⟨rfl, rfl⟩ (by kernel_rfl) rfl
  (fun f fn hf hfn => by
   obtain rfl : f = 8 := (Option.some.inj ((show Tryd.prog.funcNamed "gauntlet/gauntletlaw41.CulpritsErrors" = some 8 by kernel_rfl).symm.trans hf)).symm
   obtain rfl : fn = Tryd.f8 := (Option.some.inj (Tryd.func8.symm.trans hfn)).symm
   refine ⟨by kernel_rfl, fun j t ht => ?_⟩
   have key : (Tryd.f8.params.toList.all fun t => Tryd.prog.wantsStandIn t == false) = true := by kernel_rfl
   have hm : t ∈ Tryd.f8.params.toList := by
    rw [← Array.getElem?_toList] at ht
    exact List.mem_of_getElem? ht
   exact eq_of_beq (List.all_eq_true.1 key t hm))
  (by kernel_rfl)
#print axioms culpritsErrors_holds
end Go.Proofs.YtgdcjkcohmjbeaaDoor
