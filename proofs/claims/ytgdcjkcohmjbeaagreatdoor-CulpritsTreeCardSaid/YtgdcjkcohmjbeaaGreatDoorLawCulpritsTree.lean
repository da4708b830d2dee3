/-
  CulpritsTree returns true at every input, and each argument reads behind the call as it read before; the table of the kinds of faults is tied to the program's text.
-/
import Derived.Test.YtgdcjkcohmjbeaaGreatDoorPart10
set_option linter.unusedSimpArgs false
set_option linter.unusedVariables false
set_option linter.unnecessarySimpa false
set_option linter.deprecated false
namespace Go.Proofs.YtgdcjkcohmjbeaaGreatDoor
open Go Go.Avl Go.Proofs Go.ChangeShapes Go.RowKit
set_option maxRecDepth 100000 in
theorem culpritsTree_lifted (os : Os) (started : os.Started) (H : Type) (enc : TypeId × Value → H) :
  ReturnsInHanded {} Tryz.checked os 3 .any (fun w args => (Rows.culpritsTreeSpec.pre enc Tryz.prog Tryz.f3 Rows.culpritsTreeRow.domain false w args ∧ laidMetH Tryz.prog laidT w) ∧ sizedMet enc Tryz.prog Tryz.f3 (OpenSpec.ofChange Rows.culpritsTreeSpec) false w args)
   (Rows.culpritsTreeSpec.post enc Tryz.prog Tryz.f3 false true false false) := by
 refine returnsInHanded_of_change_and (C := Tryz.checked) (X := fun w _ => laidMetH Tryz.prog laidT w) (fun _ _ _ hh h => h.of_heap hh) Tryz.own started (by kernel_rfl) Tryz.func3
  (ChangeSpec.witness_shaped (enc := enc) (C := Tryz.checked) (os := os) (X := fun w _ => laidMetH Tryz.prog laidT w) false (World.doorLaid Tryz.prog 400 os) #[.agg #[.int .u8 0, .int .u8 0, .int .u8 0, .bool false, .slice none 0 0, .slice none 0 0]] 8 rfl (World.shaped_of_RefB (by kernel_rfl) (by kernel_rfl)) (by kernel_rfl) (by kernel_rfl) (by kernel_rfl) (door_met os _)) ?_
 intro W base args ds gs before hval hW _ hz hL _;have hgl := globs_of hL;have hW' := hW;obtain ⟨p, q, hA, hV, rfl, _, _⟩ := hW';obtain ⟨rfl, rfl⟩ := trodVars_none hV;have hA' : DataW.TrodAll enc Tryz.prog W 0 (fun _ => true) true [26] args.toList ds p := by rw [← show Tryz.f3.params.toList = [26] from rfl]; exact hA
 obtain ⟨v0, d0, rfl, rfl, h0⟩ := trodAll_one hA';have hz' : (DataW.weightsEach Tryz.prog [26] [d0]).all (· ≤ reachBytes) = true := hz;have hf := fits_each (P := Tryz.prog) (ts := [26]) (l := [d0]) fun n hn => by simpa using List.all_eq_true.1 hz' n hn
 obtain ⟨x, hx, i0⟩ := rd_S.imm_struct Tryz.underlying26 (hval 0 26 v0 rfl rfl) (hf 0 26 d0 rfl rfl) h0;exact law_calls Tryz.laidOut (by kernel_rfl) rfl (by kernel_rfl) rfl rfl (culpritsTree_is hx.1 x.2.1 x.2.2 .unk hx.2) (.one i0) hW hgl
theorem culpritsTree_said : Rows.CulpritsTreeSaid :=
 OpenClaim.holds_of_wide 3 Tryz.f3 rfl rfl rfl rfl rfl rfl rfl ⟨rfl, rfl, rfl, rfl, rfl⟩ rfl rfl rfl rfl rfl (by kernel_rfl) Tryz.func3 (by kernel_rfl)
  (of_decide_eq_true (by kernel_rfl)) (by unfold Func.isWrapper; first | (rw [if_pos (by decide +kernel)]; kernel_rfl) | (rw [if_neg (by decide +kernel)]; exact ⟨rfl, rfl⟩))
  (fun os started H enc _ => culpritsTree_lifted os started H enc)
theorem culpritsTree_holds : Rows.CulpritsTreeCardSaid :=
 Claim7.holds_tied_plain_at .later [] [.widerDeep] true (true, "2623cfec39a36d341945cfca3521fe549cd096bcf5f21e1d0eeb208ab7d22040") false
  culpritsTree_said (fun _ h => by cases h) (by kernel_rfl) (fun _ h => by cases h) culpritsTree_row_tie rfl ⟨rfl, rfl⟩ (by kernel_rfl) rfl
  (fun f fn hf hfn => by
   obtain rfl : f = 3 := (Option.some.inj ((show Tryz.prog.funcNamed "gauntlet/gauntletlaw41.CulpritsTree" = some 3 by kernel_rfl).symm.trans hf)).symm;obtain rfl : fn = Tryz.f3 := (Option.some.inj (Tryz.func3.symm.trans hfn)).symm;refine ⟨by kernel_rfl, fun j t ht => ?_⟩;have key : (Tryz.f3.params.toList.all fun t => Tryz.prog.wantsStandIn t == false) = true := by kernel_rfl
   have hm : t ∈ Tryz.f3.params.toList := by
    rw [← Array.getElem?_toList] at ht;exact List.mem_of_getElem? ht
   exact eq_of_beq (List.all_eq_true.1 key t hm))
  (by kernel_rfl)
#print axioms culpritsTree_holds
end Go.Proofs.YtgdcjkcohmjbeaaGreatDoor
