/-
  TopSeries returns true at every input, and each argument reads behind the call as it read before; the variables that the row lists are tied to the program's text.
  Conditions: those of the given row and card alone (no others).
-/
import Derived.Test.YtnolphljopdomaaGreatDoorPart18
set_option linter.unusedSimpArgs false
set_option linter.unusedVariables false
set_option linter.unnecessarySimpa false
set_option linter.deprecated false
namespace Go.Proofs.YtnolphljopdomaaGreatDoor
open Go Go.Avl Go.Proofs Go.ChangeShapes Go.RowKit
set_option maxRecDepth 100000 in
theorem topSeries_lifted (os : Os) (started : os.Started) (H : Type) (enc : TypeId × Value → H) :
  ReturnsInHanded {} Tryz.checked os 4 .any (fun w args => (Rows.topSeriesSpec.pre enc Tryz.prog Tryz.f4 Rows.topSeriesRow.domain false w args ∧ laidMetH Tryz.prog laidT w) ∧ sizedMet enc Tryz.prog Tryz.f4 (OpenSpec.ofChange Rows.topSeriesSpec) false w args)
   (Rows.topSeriesSpec.post enc Tryz.prog Tryz.f4 false true false false) := by
 refine returnsInHanded_of_change_and (C := Tryz.checked) (X := fun w _ => laidMetH Tryz.prog laidT w) (fun _ _ _ hh h => h.of_heap hh) Tryz.own started (by kernel_rfl) Tryz.func4
  (ChangeSpec.witness_shaped (enc := enc) (C := Tryz.checked) (os := os) (X := fun w _ => laidMetH Tryz.prog laidT w) false (World.laidAll Tryz.prog os laidT) #[.agg #[.int .u8 0, .int .u8 0, .int .u8 0, .bool false, .slice none 0 0], .agg #[.int .u8 0, .int .u8 0, .int .u8 0, .bool false, .slice none 0 0]] 8 (World.laidAll_os _ _ _) (World.shaped_of_ZipB (by kernel_rfl) (by kernel_rfl)) (by kernel_rfl) (by kernel_rfl) (by kernel_rfl) (door_met os _)) ?_
 intro W base args ds gs before hval hW _ hz hL _
 have hgl := globs_of hL
 have hW' := hW
 obtain ⟨p, q, hA, hV, rfl, _, _⟩ := hW'
 obtain ⟨rfl, rfl⟩ := trodVars_none hV
 have hA' : DataW.TrodAll enc Tryz.prog W 0 (fun _ => true) true [24, 24] args.toList ds p := by rw [← show Tryz.f4.params.toList = [24, 24] from rfl]; exact hA
 obtain ⟨v0, v1, d0, d1, p0, p1, rfl, rfl, rfl, h0, h1⟩ := trodAll_two hA'
 have hz' : (DataW.weightsEach Tryz.prog [24, 24] [d0, d1]).all (· ≤ reachBytes) = true := hz
 have hf := fits_each (P := Tryz.prog) (ts := [24, 24]) (l := [d0, d1]) fun n hn => by simpa using List.all_eq_true.1 hz' n hn
 obtain ⟨x, hx, i0⟩ := rd_LM.imm_struct Tryz.underlying24 (hval 0 24 v0 rfl rfl) (hf 0 24 d0 rfl rfl) h0
 obtain ⟨y, hy, i1⟩ := rd_LM.imm_struct Tryz.underlying24 (hval 1 24 v1 rfl rfl) (hf 1 24 d1 rfl rfl) h1
 exact law_calls Tryz.laidOut (by kernel_rfl) rfl (by kernel_rfl) rfl rfl (topSeries_is hx hy) (Imms.append (.one i0) (.one i1)) hW hgl
theorem topSeries_said : Rows.TopSeriesSaid :=
 OpenClaim.holds_of_wide 4 Tryz.f4 rfl rfl rfl rfl rfl rfl rfl ⟨rfl, rfl, rfl, rfl, rfl⟩ rfl rfl rfl rfl rfl (by kernel_rfl) Tryz.func4 (by kernel_rfl)
  (of_decide_eq_true (by kernel_rfl)) (by unfold Func.isWrapper; first | (rw [if_pos (by decide +kernel)]; kernel_rfl) | (rw [if_neg (by decide +kernel)]; exact ⟨rfl, rfl⟩))
  (fun os started H enc _ => topSeries_lifted os started H enc)
theorem topSeries_holds : Rows.TopSeriesCardSaid :=
 Claim7.holds_tied_plain_at .later [] [.data, .data, .data, .data, .data, .pinned] true (true, "3a8568ae2447b8e3a6fc357e14d4f8b3c72af6eb502955d74fcab49e24b353c9") true
  topSeries_said (fun _ h => by cases h) (by kernel_rfl) (fun _ h => by cases h) topSeries_row_tie rfl ⟨rfl, rfl⟩ (by kernel_rfl) rfl
  (fun f fn hf hfn => by
   obtain rfl : f = 4 := (Option.some.inj ((show Tryz.prog.funcNamed "gauntlet/gauntlettop.TopSeries" = some 4 by kernel_rfl).symm.trans hf)).symm
   obtain rfl : fn = Tryz.f4 := (Option.some.inj (Tryz.func4.symm.trans hfn)).symm
   refine ⟨by kernel_rfl, fun j t ht => ?_⟩
   have key : (Tryz.f4.params.toList.all fun t => Tryz.prog.wantsStandIn t == false) = true := by kernel_rfl
   have hm : t ∈ Tryz.f4.params.toList := by
    rw [← Array.getElem?_toList] at ht
    exact List.mem_of_getElem? ht
   exact eq_of_beq (List.all_eq_true.1 key t hm))
  (by kernel_rfl)
#print axioms topSeries_holds
end Go.Proofs.YtnolphljopdomaaGreatDoor
