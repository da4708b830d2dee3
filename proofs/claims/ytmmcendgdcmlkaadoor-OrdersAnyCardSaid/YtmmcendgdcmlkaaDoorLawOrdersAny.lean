/-
  OrdersAny returns true at every input, and each argument reads behind the call as it read before; the table of the kinds of faults is tied to the program's text.
-/
import Derived.Test.YtmmcendgdcmlkaaDoorPart9
set_option linter.unusedSimpArgs false
set_option linter.unusedVariables false
set_option linter.unnecessarySimpa false
set_option linter.deprecated false
namespace Go.Proofs.YtmmcendgdcmlkaaDoor
open Go Go.Avl Go.Proofs Go.ChangeShapes Go.RowKit
set_option maxRecDepth 100000 in
theorem ordersAny_lifted (os : Os) (started : os.Started) (H : Type) (enc : TypeId × Value → H) :
  ReturnsInHanded {} Tryd.checked os 6 .any (fun w args => (Rows.ordersAnySpec.pre enc Tryd.prog Tryd.f6 Rows.ordersAnyRow.domain false w args ∧ laidMetH Tryd.prog laidT w) ∧ sizedMet enc Tryd.prog Tryd.f6 (OpenSpec.ofChange Rows.ordersAnySpec) false w args)
   (Rows.ordersAnySpec.post enc Tryd.prog Tryd.f6 false true false false) := by
 refine returnsInHanded_of_change_and (C := Tryd.checked) (X := fun w _ => laidMetH Tryd.prog laidT w) (fun _ _ _ hh h => h.of_heap hh) Tryd.own started (by kernel_rfl) Tryd.func6
  (ChangeSpec.witness_shaped (enc := enc) (C := Tryd.checked) (os := os) (X := fun w _ => laidMetH Tryd.prog laidT w) false (World.doorLaid Tryd.prog 400 os) #[.agg #[.int .i64 0, .int .i64 0, .slice none 0 0], .agg #[.slice none 0 0, .slice none 0 0, .slice none 0 0, .int .i64 0]] 8 rfl (World.shaped_of_RefB (by kernel_rfl) (by kernel_rfl)) (by kernel_rfl) (by kernel_rfl) (by kernel_rfl) (door_met os _)) ?_
 intro W base args ds gs before hval hW _ hz hL _
 have hgl := globs_of hL
 have hW' := hW
 obtain ⟨p, q, hA, hV, rfl, _, _⟩ := hW'
 obtain ⟨rfl, rfl⟩ := trodVars_none hV
 have hA' : DataW.TrodAll enc Tryd.prog W 0 (fun _ => true) true [29, 72] args.toList ds p := by rw [← show Tryd.f6.params.toList = [29, 72] from rfl]; exact hA
 obtain ⟨v0, v1, d0, d1, p0, p1, rfl, rfl, rfl, h0, h1⟩ := trodAll_two hA'
 have hz' : (DataW.weightsEach Tryd.prog [29, 72] [d0, d1]).all (· ≤ reachBytes) = true := hz
 have hf := fits_each (P := Tryd.prog) (ts := [29, 72]) (l := [d0, d1]) fun n hn => by simpa using List.all_eq_true.1 hz' n hn
 obtain ⟨m, hm, i0⟩ := rd_mach.imm_struct Tryd.underlying29 (hval 0 29 v0 rfl rfl) (hf 0 29 d0 rfl rfl) h0
 obtain ⟨a, ha, i1⟩ := rd_A.imm_struct Tryd.underlying72 (hval 1 72 v1 rfl rfl) (hf 1 72 d1 rfl rfl) h1
 exact law_calls Tryd.laidOut (by kernel_rfl) rfl (by kernel_rfl) rfl rfl (ordersAny_is m hm a.W.1 a.L.1 a.k.1 a.W.2 a.L.2 a.k.2 a.a ha.W ha.w ha.L ha.k) (Imms.append (.one i0) (.one i1)) hW hgl
theorem ordersAny_said : Rows.OrdersAnySaid :=
 OpenClaim.holds_of_wide 6 Tryd.f6 rfl rfl rfl rfl rfl rfl rfl ⟨rfl, rfl, rfl, rfl, rfl⟩ rfl rfl rfl rfl rfl (by kernel_rfl) Tryd.func6 (by kernel_rfl)
  (of_decide_eq_true (by kernel_rfl)) (by unfold Func.isWrapper; first | (rw [if_pos (by decide +kernel)]; kernel_rfl) | (rw [if_neg (by decide +kernel)]; exact ⟨rfl, rfl⟩))
  (fun os started H enc _ => ordersAny_lifted os started H enc)
theorem ordersAny_holds : Rows.OrdersAnyCardSaid :=
 Claim7.holds_tied_plain_at .later [] [.widerDeep] true (true, "2f390ce771829cbd27759193fb57834b50ce5af7ed1f6d99774bb62237233fc4") false
  ordersAny_said (fun _ h => by cases h) (by kernel_rfl) (fun _ h => by cases h) ordersAny_row_tie rfl ⟨rfl, rfl⟩ (by kernel_rfl) rfl
  (fun f fn hf hfn => by
   obtain rfl : f = 6 := (Option.some.inj ((show Tryd.prog.funcNamed "gauntlet/gauntletlaw20.OrdersAny" = some 6 by kernel_rfl).symm.trans hf)).symm
   obtain rfl : fn = Tryd.f6 := (Option.some.inj (Tryd.func6.symm.trans hfn)).symm
   refine ⟨by kernel_rfl, fun j t ht => ?_⟩
   have key : (Tryd.f6.params.toList.all fun t => Tryd.prog.wantsStandIn t == false) = true := by kernel_rfl
   have hm : t ∈ Tryd.f6.params.toList := by
    rw [← Array.getElem?_toList] at ht
    exact List.mem_of_getElem? ht
   exact eq_of_beq (List.all_eq_true.1 key t hm))
  (by kernel_rfl)
#print axioms ordersAny_holds
end Go.Proofs.YtmmcendgdcmlkaaDoor
