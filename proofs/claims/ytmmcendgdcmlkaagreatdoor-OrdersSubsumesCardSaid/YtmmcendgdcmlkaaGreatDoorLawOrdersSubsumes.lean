/-
  OrdersSubsumes returns true at every input, and each argument reads behind the call as it read before; the table of the kinds of faults is tied to the program's text.
-/
import Derived.Test.YtmmcendgdcmlkaaGreatDoorPart10
set_option linter.unusedSimpArgs false
set_option linter.unusedVariables false
set_option linter.unnecessarySimpa false
set_option linter.deprecated false
namespace Go.Proofs.YtmmcendgdcmlkaaGreatDoor
open Go Go.Avl Go.Proofs Go.ChangeShapes Go.RowKit
set_option maxRecDepth 100000 in
theorem ordersSubsumes_lifted (os : Os) (started : os.Started) (H : Type) (enc : TypeId × Value → H) :
  ReturnsInHanded {} Tryz.checked os 3 .any (fun w args => (Rows.ordersSubsumesSpec.pre enc Tryz.prog Tryz.f3 Rows.ordersSubsumesRow.domain false w args ∧ laidMetH Tryz.prog laidT w) ∧ sizedMet enc Tryz.prog Tryz.f3 (OpenSpec.ofChange Rows.ordersSubsumesSpec) false w args)
   (Rows.ordersSubsumesSpec.post enc Tryz.prog Tryz.f3 false true false false) := by
 refine returnsInHanded_of_change_and (C := Tryz.checked) (X := fun w _ => laidMetH Tryz.prog laidT w) (fun _ _ _ hh h => h.of_heap hh) Tryz.own started (by kernel_rfl) Tryz.func3
  (ChangeSpec.witness_shaped (enc := enc) (C := Tryz.checked) (os := os) (X := fun w _ => laidMetH Tryz.prog laidT w) false (World.doorLaid Tryz.prog 400 os) #[.agg #[.int .u8 0, .int .u8 0, .int .u8 0, .bool false, .slice none 0 0], .agg #[.int .u8 0, .slice none 0 0], .slice none 0 0] 8 rfl (World.shaped_of_RefB (by kernel_rfl) (by kernel_rfl)) (by kernel_rfl) (by kernel_rfl) (by kernel_rfl) (door_met os _)) ?_
 intro W base args ds gs before hval hW _ hz hL _
 have hgl := globs_of hL
 have hW' := hW
 obtain ⟨p, q, hA, hV, rfl, _, _⟩ := hW'
 obtain ⟨rfl, rfl⟩ := trodVars_none hV
 have hA' : DataW.TrodAll enc Tryz.prog W 0 (fun _ => true) true [24, 27, 22] args.toList ds p := by rw [← show Tryz.f3.params.toList = [24, 27, 22] from rfl]; exact hA
 obtain ⟨v0, v1, v2, d0, d1, d2, p0, p1, p2, rfl, rfl, rfl, h0, h1, h2⟩ := trodAll_three hA'
 have hz' : (DataW.weightsEach Tryz.prog [24, 27, 22] [d0, d1, d2]).all (· ≤ reachBytes) = true := hz
 have hf := fits_each (P := Tryz.prog) (ts := [24, 27, 22]) (l := [d0, d1, d2]) fun n hn => by simpa using List.all_eq_true.1 hz' n hn
 obtain ⟨x, hx, i0⟩ := rd_LM.imm_struct Tryz.underlying24 (hval 0 24 v0 rfl rfl) (hf 0 24 d0 rfl rfl) h0
 obtain ⟨y, hy, i1⟩ := rd_LW.imm_struct Tryz.underlying27 (hval 1 27 v1 rfl rfl) (hf 1 27 d1 rfl rfl) h1
 obtain ⟨n, hn, i2⟩ := rd_u16s.imm_slice Tryz.underlying22 (hval 2 22 v2 rfl rfl) (hf 2 22 d2 rfl rfl) h2
 exact law_calls Tryz.laidOut (by kernel_rfl) rfl (by kernel_rfl) rfl rfl (ordersSubsumes_is hx hy.1 hy.2.1 hy.2.2 n.1 n.2 .unk hn.1 hn.2) (Imms.append (.one i0) (Imms.append (.one i1) (.one i2))) hW hgl
theorem ordersSubsumes_said : Rows.OrdersSubsumesSaid :=
 OpenClaim.holds_of_wide 3 Tryz.f3 rfl rfl rfl rfl rfl rfl rfl ⟨rfl, rfl, rfl, rfl, rfl⟩ rfl rfl rfl rfl rfl (by kernel_rfl) Tryz.func3 (by kernel_rfl)
  (of_decide_eq_true (by kernel_rfl)) (by unfold Func.isWrapper; first | (rw [if_pos (by decide +kernel)]; kernel_rfl) | (rw [if_neg (by decide +kernel)]; exact ⟨rfl, rfl⟩))
  (fun os started H enc _ => ordersSubsumes_lifted os started H enc)
theorem ordersSubsumes_holds : Rows.OrdersSubsumesCardSaid :=
 Claim7.holds_tied_plain_at .later [] [.widerDeep] true (true, "e6ff016c4f2ccf0278521ac34d8ed2747e1313938378c3cc012f36ea8a6123ff") false
  ordersSubsumes_said (fun _ h => by cases h) (by kernel_rfl) (fun _ h => by cases h) ordersSubsumes_row_tie rfl ⟨rfl, rfl⟩ (by kernel_rfl) rfl
  (fun f fn hf hfn => by
   obtain rfl : f = 3 := (Option.some.inj ((show Tryz.prog.funcNamed "gauntlet/gauntletlaw20.OrdersSubsumes" = some 3 by kernel_rfl).symm.trans hf)).symm
   obtain rfl : fn = Tryz.f3 := (Option.some.inj (Tryz.func3.symm.trans hfn)).symm
   refine ⟨by kernel_rfl, fun j t ht => ?_⟩
   have key : (Tryz.f3.params.toList.all fun t => Tryz.prog.wantsStandIn t == false) = true := by kernel_rfl
   have hm : t ∈ Tryz.f3.params.toList := by
    rw [← Array.getElem?_toList] at ht
    exact List.mem_of_getElem? ht
   exact eq_of_beq (List.all_eq_true.1 key t hm))
  (by kernel_rfl)
#print axioms ordersSubsumes_holds
end Go.Proofs.YtmmcendgdcmlkaaGreatDoor
