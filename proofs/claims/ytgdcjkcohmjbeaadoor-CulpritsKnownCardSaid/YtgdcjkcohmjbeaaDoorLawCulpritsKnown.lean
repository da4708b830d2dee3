/-
  CulpritsKnown returns true at every input, and each argument reads behind the call as it read before; the table of the kinds of faults is tied to the program's text.
-/
import Derived.Test.YtgdcjkcohmjbeaaDoorPart10
set_option linter.unusedSimpArgs false
set_option linter.unusedVariables false
set_option linter.unnecessarySimpa false
set_option linter.deprecated false
namespace Go.Proofs.YtgdcjkcohmjbeaaDoor
open Go Go.Avl Go.Proofs Go.ChangeShapes Go.RowKit
set_option maxRecDepth 100000 in
theorem culpritsKnown_lifted (os : Os) (started : os.Started) (H : Type) (enc : TypeId × Value → H) :
  ReturnsInHanded {} Tryd.checked os 9 .any (fun w args => (Rows.culpritsKnownSpec.pre enc Tryd.prog Tryd.f9 Rows.culpritsKnownRow.domain false w args ∧ laidMetH Tryd.prog laidT w) ∧ sizedMet enc Tryd.prog Tryd.f9 (OpenSpec.ofChange Rows.culpritsKnownSpec) false w args)
   (Rows.culpritsKnownSpec.post enc Tryd.prog Tryd.f9 false true false false) := by
 refine returnsInHanded_of_change_and (C := Tryd.checked) (X := fun w _ => laidMetH Tryd.prog laidT w) (fun _ _ _ hh h => h.of_heap hh) Tryd.own started (by kernel_rfl) Tryd.func9
  (ChangeSpec.witness_shaped (enc := enc) (C := Tryd.checked) (os := os) (X := fun w _ => laidMetH Tryd.prog laidT w) false (World.doorLaid Tryd.prog 400 os) #[] 8 rfl (World.shaped_of_RefB (by kernel_rfl) (by kernel_rfl)) (by kernel_rfl) (by kernel_rfl) (by kernel_rfl) (door_met os _)) ?_
 intro W base args ds gs before hval hW _ hz hL _
 have hgl := globs_of hL
 have hW' := hW
 obtain ⟨p, q, hA, hV, rfl, _, _⟩ := hW'
 obtain ⟨rfl, rfl⟩ := trodVars_none hV
 have hA' : DataW.TrodAll enc Tryd.prog W 0 (fun _ => true) true [] args.toList ds p := by rw [← show Tryd.f9.params.toList = [] from rfl]; exact hA
 obtain ⟨rfl, rfl, rfl⟩ := trodAll_none hA'
 have hz' : (DataW.weightsEach Tryd.prog [] []).all (· ≤ reachBytes) = true := hz
 have hf := fits_each (P := Tryd.prog) (ts := []) (l := []) fun n hn => by simpa using List.all_eq_true.1 hz' n hn
 exact law_calls Tryd.laidOut (by kernel_rfl) rfl (by kernel_rfl) rfl rfl culpritsKnown_is ⟨rfl, fun _ h => absurd h (Nat.not_lt_zero _)⟩ hW hgl
theorem culpritsKnown_said : Rows.CulpritsKnownSaid :=
 OpenClaim.holds_of_wide 9 Tryd.f9 rfl rfl rfl rfl rfl rfl rfl ⟨rfl, rfl, rfl, rfl, rfl⟩ rfl rfl rfl rfl rfl (by kernel_rfl) Tryd.func9 (by kernel_rfl)
  (of_decide_eq_true (by kernel_rfl)) (by unfold Func.isWrapper; first | (rw [if_pos (by decide +kernel)]; kernel_rfl) | (rw [if_neg (by decide +kernel)]; exact ⟨rfl, rfl⟩))
  (fun os started H enc _ => culpritsKnown_lifted os started H enc)
theorem culpritsKnown_holds : Rows.CulpritsKnownCardSaid :=
 Claim7.holds_tied_plain_at .later [] [.widerDeep] true (true, "51f813250da31b42dc1a3d3ec51c85cb333c07c9a890cc3a7b9fbfd303598b75") false
  culpritsKnown_said (fun _ h => by cases h) (by kernel_rfl) (fun _ h => by cases h) culpritsKnown_row_tie rfl ⟨rfl, rfl⟩ (by kernel_rfl) rfl
  (fun f fn hf hfn => by
   obtain rfl : f = 9 := (Option.some.inj ((show Tryd.prog.funcNamed "gauntlet/gauntletlaw41.CulpritsKnown" = some 9 by kernel_rfl).symm.trans hf)).symm
   obtain rfl : fn = Tryd.f9 := (Option.some.inj (Tryd.func9.symm.trans hfn)).symm
   refine ⟨by kernel_rfl, fun j t ht => ?_⟩
   have key : (Tryd.f9.params.toList.all fun t => Tryd.prog.wantsStandIn t == false) = true := by kernel_rfl
   have hm : t ∈ Tryd.f9.params.toList := by
    rw [← Array.getElem?_toList] at ht
    exact List.mem_of_getElem? ht
   exact eq_of_beq (List.all_eq_true.1 key t hm))
  (by kernel_rfl)
#print axioms culpritsKnown_holds
end Go.Proofs.YtgdcjkcohmjbeaaDoor
