/-
  A slot that holds a whole object, as a view of it from its front.
  Facts of the types, printed by a program of this claim's own.
  Lemmas.
  Lemmas.
  Lemmas.
  Lemmas.
  Lemmas.
  Lemmas.
  Lemmas.
  Lemmas.
  Lemmas.
  Lemmas.
  Lemmas.
  Lemmas.
  Lemmas.
  Lemmas.
  Lemmas.
-/
import Derived.Test.YtkfpnkpomjmpeaaProg
import Derived.KernelRfl
import Derived.Test.YtkfpnkpomjmpeaaPart5
set_option linter.unusedSimpArgs false
set_option linter.unusedVariables false
set_option linter.unnecessarySimpa false
set_option linter.deprecated false
namespace Go.Avl
open Go

def St.slotTv (fr : Fr) (k : Nat) (st : St) : Option St :=
  match st.get fr k with
  | .tl i n _ => match mlook st.mem i with
    | some (.arr _ es _) => match decide (n = es.length) && !(n == 0) with
      | true => some (st.put fr (some k) (.tv i n 0 n .rest))
      | false => none
    | _ => none
  | _ => none
attribute [go_sem] St.slotTv
section
variable {P : Program} {fr : Fr} {ro : Option Nat} {ds : DS} {st st' : St} {Q : Exit → St → Prop} {G : Nat → Option Value} {F : Nat → Nat → Prop} {a : Act} {w : World} {c : Code}
theorem SimA.slotTv {k : Nat} (s : SimA P fr ds G F st a w) (h : st.slotTv fr k = some st') : SimA P fr ds G F st' a w ∧ st'.mem = st.mem := by
  unfold St.slotTv at h
  split at h
  · rename_i i n b hg
    split at h
    · rename_i esz es fz ho
      split at h
      · rename_i hc
        cases h
        simp only [Bool.and_eq_true, decide_eq_true_eq, Bool.not_eq_true', beq_eq_false_iff_ne] at hc
        refine ⟨⟨⟨by rw [St.put_mem, St.put_nx]; exact s.sim.mem, fun j => ?_, s.sim.size⟩, fun j hj => s.fresh j (by rw [St.put_nx] at hj; exact hj), s.defers⟩, St.put_mem ..⟩
        rw [St.put_mem, St.get_put]
        split
        · rename_i hj; subst hj
          have := s.sim.slots j
          rw [hg] at this
          exact this.tl_tv s.sim.mem ho hc.1 hc.2
        · exact s.sim.slots j
      · cases h
    · cases h
  · cases h
theorem EvC.slotTv (k : Nat) (h : st.slotTv fr k = some st') (hc : EvC P fr ro ds c st' Q) : EvC P fr ro ds c st Q :=
  EvC.conv (fun G F _ _ s => ⟨G, F, (s.slotTv h).1, by rw [(s.slotTv h).2]; exact .refl⟩) hc
theorem XR.frzD {ops : Array Oper} {l : List Oper} (i : Nat) (h : st.frzD i = some st') (hc : XR P fr ro ds ops l st' Q) : XR P fr ro ds ops l st Q :=
  fun _ _ _ _ _ _ _ _ S s => let ⟨_, s', S'⟩ := s.frzD h; hc _ _ _ _ _ _ _ _ (S.trans S') s'
theorem XR.snapA {ops : Array Oper} {l : List Oper} (i : Nat) (h : st.snapA i = some st') (hc : XR P fr ro ds ops l st' Q) : XR P fr ro ds ops l st Q :=
  fun _ _ _ _ _ _ _ _ S s => let ⟨s', S'⟩ := s.snapA h; hc _ _ _ _ _ _ _ _ (S.trans S') s'
end
end Go.Avl
namespace Go.Avl
open Go Go.Proofs.Try
@[go_sem] theorem ty_cellsOf_104 : Program.cellsOf prog 104 = 1 := by kernel_rfl
@[go_sem] theorem ty_cellsOf_109 : Program.cellsOf prog 109 = 1 := by kernel_rfl
@[go_sem] theorem ty_cellsOf_114 : Program.cellsOf prog 114 = 1 := by kernel_rfl
@[go_sem] theorem ty_cellsOf_22 : Program.cellsOf prog 22 = 1 := by kernel_rfl
@[go_sem] theorem ty_cellsOf_24 : Program.cellsOf prog 24 = 5 := by kernel_rfl
@[go_sem] theorem ty_cellsOf_25 : Program.cellsOf prog 25 = 1 := by kernel_rfl
@[go_sem] theorem ty_cellsOf_28 : Program.cellsOf prog 28 = 1 := by kernel_rfl
@[go_sem] theorem ty_cellsOf_3 : Program.cellsOf prog 3 = 1 := by kernel_rfl
@[go_sem] theorem ty_cellsOf_30 : Program.cellsOf prog 30 = 3 := by kernel_rfl
@[go_sem] theorem ty_cellsOf_32 : Program.cellsOf prog 32 = 1 := by kernel_rfl
@[go_sem] theorem ty_cellsOf_4 : Program.cellsOf prog 4 = 1 := by kernel_rfl
@[go_sem] theorem ty_cellsOf_42 : Program.cellsOf prog 42 = 1 := by kernel_rfl
@[go_sem] theorem ty_cellsOf_5 : Program.cellsOf prog 5 = 1 := by kernel_rfl
@[go_sem] theorem ty_cellsOf_74 : Program.cellsOf prog 74 = 2 := by kernel_rfl
@[go_sem] theorem ty_cellsOf_75 : Program.cellsOf prog 75 = 1 := by kernel_rfl
@[go_sem] theorem ty_cellsOf_82 : Program.cellsOf prog 82 = 2 := by kernel_rfl
@[go_sem] theorem ty_cellsOf_84 : Program.cellsOf prog 84 = 2 := by kernel_rfl
@[go_sem] theorem ty_cellsOf_86 : Program.cellsOf prog 86 = 1 := by kernel_rfl
@[go_sem] theorem ty_eqKinds_3 : eqKinds prog 3 = none := by kernel_rfl
@[go_sem] theorem ty_eqKinds_36 : eqKinds prog 36 = none := by kernel_rfl
@[go_sem] theorem ty_eqKinds_4 : eqKinds prog 4 = none := by kernel_rfl
@[go_sem] theorem ty_eqKinds_42 : eqKinds prog 42 = none := by kernel_rfl
@[go_sem] theorem ty_eqKinds_5 : eqKinds prog 5 = none := by kernel_rfl
@[go_sem] theorem ty_eqKinds_75 : eqKinds prog 75 = none := by kernel_rfl
@[go_sem] theorem ty_eqKinds_82 : eqKinds prog 82 = some [Kd.int IntKind.i64, Kd.int IntKind.i64] := by kernel_rfl
@[go_sem] theorem ty_kindsOf_3 : kindsOf prog 8 3 = some [Kd.int IntKind.i64] := by kernel_rfl
@[go_sem] theorem ty_nilTy_3 : nilTy prog 3 = 0 := by kernel_rfl
@[go_sem] theorem ty_nilTy_36 : nilTy prog 36 = 0 := by kernel_rfl
@[go_sem] theorem ty_nilTy_4 : nilTy prog 4 = 0 := by kernel_rfl
@[go_sem] theorem ty_nilTy_42 : nilTy prog 42 = 1 := by kernel_rfl
@[go_sem] theorem ty_nilTy_5 : nilTy prog 5 = 0 := by kernel_rfl
@[go_sem] theorem ty_nilTy_75 : nilTy prog 75 = 1 := by kernel_rfl
@[go_sem] theorem ty_nilTy_82 : nilTy prog 82 = 0 := by kernel_rfl
@[go_sem] theorem ty_placeOf_117_0 : placeOf prog 117 0 = some (0, 3) := by kernel_rfl
@[go_sem] theorem ty_placeOf_117_1 : placeOf prog 117 1 = some (3, 1) := by kernel_rfl
@[go_sem] theorem ty_placeOf_117_3 : placeOf prog 117 3 = some (5, 1) := by kernel_rfl
@[go_sem] theorem ty_placeOf_124_0 : placeOf prog 124 0 = some (0, 1) := by kernel_rfl
@[go_sem] theorem ty_placeOf_124_1 : placeOf prog 124 1 = some (1, 1) := by kernel_rfl
@[go_sem] theorem ty_placeOf_30_0 : placeOf prog 30 0 = some (0, 1) := by kernel_rfl
@[go_sem] theorem ty_placeOf_30_1 : placeOf prog 30 1 = some (1, 1) := by kernel_rfl
@[go_sem] theorem ty_placeOf_30_2 : placeOf prog 30 2 = some (2, 1) := by kernel_rfl
@[go_sem] theorem ty_placeOf_34_0 : placeOf prog 34 0 = some (0, 1) := by kernel_rfl
@[go_sem] theorem ty_placeOf_34_1 : placeOf prog 34 1 = some (1, 1) := by kernel_rfl
@[go_sem] theorem ty_placeOf_34_2 : placeOf prog 34 2 = some (2, 1) := by kernel_rfl
@[go_sem] theorem ty_placeOf_49_0 : placeOf prog 49 0 = some (0, 1) := by kernel_rfl
@[go_sem] theorem ty_placeOf_49_1 : placeOf prog 49 1 = some (1, 1) := by kernel_rfl
@[go_sem] theorem ty_placeOf_49_2 : placeOf prog 49 2 = some (2, 1) := by kernel_rfl
@[go_sem] theorem ty_placeOf_59_0 : placeOf prog 59 0 = some (0, 1) := by kernel_rfl
@[go_sem] theorem ty_placeOf_59_1 : placeOf prog 59 1 = some (1, 1) := by kernel_rfl
@[go_sem] theorem ty_placeOf_59_2 : placeOf prog 59 2 = some (2, 1) := by kernel_rfl
@[go_sem] theorem ty_placeOf_64_0 : placeOf prog 64 0 = some (0, 1) := by kernel_rfl
@[go_sem] theorem ty_placeOf_64_1 : placeOf prog 64 1 = some (1, 1) := by kernel_rfl
@[go_sem] theorem ty_placeOf_74_0 : placeOf prog 74 0 = some (0, 1) := by kernel_rfl
@[go_sem] theorem ty_placeOf_74_1 : placeOf prog 74 1 = some (1, 1) := by kernel_rfl
@[go_sem] theorem ty_placeOf_82_0 : placeOf prog 82 0 = some (0, 1) := by kernel_rfl
@[go_sem] theorem ty_placeOf_82_1 : placeOf prog 82 1 = some (1, 1) := by kernel_rfl
@[go_sem] theorem ty_placeOf_84_0 : placeOf prog 84 0 = some (0, 1) := by kernel_rfl
@[go_sem] theorem ty_placeOf_84_1 : placeOf prog 84 1 = some (1, 1) := by kernel_rfl
@[go_sem] theorem ty_tarr_104 : tarr prog 104 = none := by kernel_rfl
@[go_sem] theorem ty_tarr_109 : tarr prog 109 = none := by kernel_rfl
@[go_sem] theorem ty_tarr_130 : tarr prog 130 = none := by kernel_rfl
@[go_sem] theorem ty_tarr_22 : tarr prog 22 = none := by kernel_rfl
@[go_sem] theorem ty_tarr_25 : tarr prog 25 = none := by kernel_rfl
@[go_sem] theorem ty_tarr_28 : tarr prog 28 = none := by kernel_rfl
@[go_sem] theorem ty_tarr_32 : tarr prog 32 = none := by kernel_rfl
@[go_sem] theorem ty_tarr_42 : tarr prog 42 = none := by kernel_rfl
@[go_sem] theorem ty_tarr_74 : tarr prog 74 = some (2, 3) := by kernel_rfl
@[go_sem] theorem ty_tarr_75 : tarr prog 75 = none := by kernel_rfl
@[go_sem] theorem ty_tarr_86 : tarr prog 86 = none := by kernel_rfl
@[go_sem] theorem ty_tbool_3 : tbool prog 3 = false := by kernel_rfl
@[go_sem] theorem ty_tbool_36 : tbool prog 36 = false := by kernel_rfl
@[go_sem] theorem ty_tbool_4 : tbool prog 4 = true := by kernel_rfl
@[go_sem] theorem ty_tbool_42 : tbool prog 42 = false := by kernel_rfl
@[go_sem] theorem ty_tbool_5 : tbool prog 5 = false := by kernel_rfl
@[go_sem] theorem ty_tbool_75 : tbool prog 75 = false := by kernel_rfl
@[go_sem] theorem ty_tbool_82 : tbool prog 82 = false := by kernel_rfl
@[go_sem] theorem ty_tbuild_117 : tbuild prog 117 = true := by kernel_rfl
@[go_sem] theorem ty_tbuild_124 : tbuild prog 124 = true := by kernel_rfl
@[go_sem] theorem ty_tbuild_30 : tbuild prog 30 = true := by kernel_rfl
@[go_sem] theorem ty_tbuild_34 : tbuild prog 34 = true := by kernel_rfl
@[go_sem] theorem ty_tbuild_49 : tbuild prog 49 = true := by kernel_rfl
@[go_sem] theorem ty_tbuild_59 : tbuild prog 59 = true := by kernel_rfl
@[go_sem] theorem ty_tbuild_64 : tbuild prog 64 = true := by kernel_rfl
@[go_sem] theorem ty_tbuild_74 : tbuild prog 74 = true := by kernel_rfl
@[go_sem] theorem ty_tbuild_82 : tbuild prog 82 = true := by kernel_rfl
@[go_sem] theorem ty_tbuild_84 : tbuild prog 84 = true := by kernel_rfl
@[go_sem] theorem ty_telem_103 : telem prog 103 = none := by kernel_rfl
@[go_sem] theorem ty_telem_104 : telem prog 104 = some 42 := by kernel_rfl
@[go_sem] theorem ty_telem_109 : telem prog 109 = some 5 := by kernel_rfl
@[go_sem] theorem ty_telem_115 : telem prog 115 = none := by kernel_rfl
@[go_sem] theorem ty_telem_130 : telem prog 130 = some 4 := by kernel_rfl
@[go_sem] theorem ty_telem_133 : telem prog 133 = none := by kernel_rfl
@[go_sem] theorem ty_telem_22 : telem prog 22 = some 114 := by kernel_rfl
@[go_sem] theorem ty_telem_24 : telem prog 24 = none := by kernel_rfl
@[go_sem] theorem ty_telem_25 : telem prog 25 = some 109 := by kernel_rfl
@[go_sem] theorem ty_telem_27 : telem prog 27 = none := by kernel_rfl
@[go_sem] theorem ty_telem_28 : telem prog 28 = some 75 := by kernel_rfl
@[go_sem] theorem ty_telem_3 : telem prog 3 = none := by kernel_rfl
@[go_sem] theorem ty_telem_30 : telem prog 30 = none := by kernel_rfl
@[go_sem] theorem ty_telem_32 : telem prog 32 = some 84 := by kernel_rfl
@[go_sem] theorem ty_telem_34 : telem prog 34 = none := by kernel_rfl
@[go_sem] theorem ty_telem_36 : telem prog 36 = none := by kernel_rfl
@[go_sem] theorem ty_telem_4 : telem prog 4 = none := by kernel_rfl
@[go_sem] theorem ty_telem_42 : telem prog 42 = some 3 := by kernel_rfl
@[go_sem] theorem ty_telem_49 : telem prog 49 = none := by kernel_rfl
@[go_sem] theorem ty_telem_74 : telem prog 74 = none := by kernel_rfl
@[go_sem] theorem ty_telem_75 : telem prog 75 = some 82 := by kernel_rfl
@[go_sem] theorem ty_telem_82 : telem prog 82 = none := by kernel_rfl
@[go_sem] theorem ty_telem_84 : telem prog 84 = none := by kernel_rfl
@[go_sem] theorem ty_telem_86 : telem prog 86 = some 74 := by kernel_rfl
@[go_sem] theorem ty_telem_88 : telem prog 88 = none := by kernel_rfl
@[go_sem] theorem ty_telem_95 : telem prog 95 = none := by kernel_rfl
@[go_sem] theorem ty_tfield_117_0 : tfield prog 117 0 = some (0, 30) := by kernel_rfl
@[go_sem] theorem ty_tfield_117_1 : tfield prog 117 1 = some (3, 86) := by kernel_rfl
@[go_sem] theorem ty_tfield_117_2 : tfield prog 117 2 = some (4, 42) := by kernel_rfl
@[go_sem] theorem ty_tfield_117_3 : tfield prog 117 3 = some (5, 3) := by kernel_rfl
@[go_sem] theorem ty_tfield_117_4 : tfield prog 117 4 = some (6, 4) := by kernel_rfl
@[go_sem] theorem ty_tfield_124_0 : tfield prog 124 0 = some (0, 42) := by kernel_rfl
@[go_sem] theorem ty_tfield_124_1 : tfield prog 124 1 = some (1, 28) := by kernel_rfl
@[go_sem] theorem ty_tfield_24_0 : tfield prog 24 0 = some (0, 5) := by kernel_rfl
@[go_sem] theorem ty_tfield_24_1 : tfield prog 24 1 = some (1, 5) := by kernel_rfl
@[go_sem] theorem ty_tfield_24_2 : tfield prog 24 2 = some (2, 5) := by kernel_rfl
@[go_sem] theorem ty_tfield_24_3 : tfield prog 24 3 = some (3, 4) := by kernel_rfl
@[go_sem] theorem ty_tfield_24_4 : tfield prog 24 4 = some (4, 22) := by kernel_rfl
@[go_sem] theorem ty_tfield_27_0 : tfield prog 27 0 = some (0, 24) := by kernel_rfl
@[go_sem] theorem ty_tfield_27_1 : tfield prog 27 1 = some (5, 25) := by kernel_rfl
@[go_sem] theorem ty_tfield_27_2 : tfield prog 27 2 = some (6, 5) := by kernel_rfl
@[go_sem] theorem ty_tfield_27_3 : tfield prog 27 3 = some (7, 5) := by kernel_rfl
@[go_sem] theorem ty_tfield_27_4 : tfield prog 27 4 = some (8, 5) := by kernel_rfl
@[go_sem] theorem ty_tfield_30_0 : tfield prog 30 0 = some (0, 3) := by kernel_rfl
@[go_sem] theorem ty_tfield_30_1 : tfield prog 30 1 = some (1, 3) := by kernel_rfl
@[go_sem] theorem ty_tfield_30_2 : tfield prog 30 2 = some (2, 28) := by kernel_rfl
@[go_sem] theorem ty_tfield_34_0 : tfield prog 34 0 = some (0, 3) := by kernel_rfl
@[go_sem] theorem ty_tfield_34_1 : tfield prog 34 1 = some (1, 3) := by kernel_rfl
@[go_sem] theorem ty_tfield_34_2 : tfield prog 34 2 = some (2, 32) := by kernel_rfl
@[go_sem] theorem ty_tfield_49_0 : tfield prog 49 0 = some (0, 3) := by kernel_rfl
@[go_sem] theorem ty_tfield_49_1 : tfield prog 49 1 = some (1, 3) := by kernel_rfl
@[go_sem] theorem ty_tfield_49_2 : tfield prog 49 2 = some (2, 28) := by kernel_rfl
@[go_sem] theorem ty_tfield_82_0 : tfield prog 82 0 = some (0, 3) := by kernel_rfl
@[go_sem] theorem ty_tfield_82_1 : tfield prog 82 1 = some (1, 3) := by kernel_rfl
@[go_sem] theorem ty_tfield_84_0 : tfield prog 84 0 = some (0, 42) := by kernel_rfl
@[go_sem] theorem ty_tfield_84_1 : tfield prog 84 1 = some (1, 42) := by kernel_rfl
@[go_sem] theorem ty_tinf_109 : tinf prog 109 = true := by kernel_rfl
@[go_sem] theorem ty_tinf_114 : tinf prog 114 = true := by kernel_rfl
@[go_sem] theorem ty_tinf_3 : tinf prog 3 = true := by kernel_rfl
@[go_sem] theorem ty_tinf_4 : tinf prog 4 = true := by kernel_rfl
@[go_sem] theorem ty_tinf_42 : tinf prog 42 = true := by kernel_rfl
@[go_sem] theorem ty_tinf_5 : tinf prog 5 = true := by kernel_rfl
@[go_sem] theorem ty_tinf_74 : tinf prog 74 = true := by kernel_rfl
@[go_sem] theorem ty_tinf_75 : tinf prog 75 = true := by kernel_rfl
@[go_sem] theorem ty_tinf_82 : tinf prog 82 = true := by kernel_rfl
@[go_sem] theorem ty_tinf_84 : tinf prog 84 = true := by kernel_rfl
@[go_sem] theorem ty_tinfo_109 : tinfo prog 109 = some { size := 1, agg := false, zero := [Value.slice none 0 0], bytes := 24 } := by kernel_rfl
@[go_sem] theorem ty_tinfo_114 : tinfo prog 114 = some { size := 1, agg := false, zero := [Value.int IntKind.u16 0], bytes := 2 } := by kernel_rfl
@[go_sem] theorem ty_tinfo_117 : tinfo prog 117 = some { size := 7, agg := true, zero := [Value.int IntKind.i64 0, Value.int IntKind.i64 0, Value.slice none 0 0, Value.slice none 0 0, Value.slice none 0 0, Value.int IntKind.i64 0, Value.bool false], bytes := 104 } := by kernel_rfl
@[go_sem] theorem ty_tinfo_124 : tinfo prog 124 = some { size := 2, agg := true, zero := [Value.slice none 0 0, Value.slice none 0 0], bytes := 48 } := by kernel_rfl
@[go_sem] theorem ty_tinfo_22 : tinfo prog 22 = some { size := 1, agg := false, zero := [Value.slice none 0 0], bytes := 24 } := by kernel_rfl
@[go_sem] theorem ty_tinfo_24 : tinfo prog 24 = some { size := 5, agg := true, zero := [Value.int IntKind.u8 0, Value.int IntKind.u8 0, Value.int IntKind.u8 0, Value.bool false, Value.slice none 0 0], bytes := 32 } := by kernel_rfl
@[go_sem] theorem ty_tinfo_25 : tinfo prog 25 = some { size := 1, agg := false, zero := [Value.slice none 0 0], bytes := 24 } := by kernel_rfl
@[go_sem] theorem ty_tinfo_27 : tinfo prog 27 = some { size := 9, agg := true, zero := [Value.int IntKind.u8 0, Value.int IntKind.u8 0, Value.int IntKind.u8 0, Value.bool false, Value.slice none 0 0, Value.slice none 0 0, Value.int IntKind.u8 0, Value.int IntKind.u8 0, Value.int IntKind.u8 0], bytes := 64 } := by kernel_rfl
@[go_sem] theorem ty_tinfo_28 : tinfo prog 28 = some { size := 1, agg := false, zero := [Value.slice none 0 0], bytes := 24 } := by kernel_rfl
@[go_sem] theorem ty_tinfo_3 : tinfo prog 3 = some { size := 1, agg := false, zero := [Value.int IntKind.i64 0], bytes := 8 } := by kernel_rfl
@[go_sem] theorem ty_tinfo_30 : tinfo prog 30 = some { size := 3, agg := true, zero := [Value.int IntKind.i64 0, Value.int IntKind.i64 0, Value.slice none 0 0], bytes := 40 } := by kernel_rfl
@[go_sem] theorem ty_tinfo_32 : tinfo prog 32 = some { size := 1, agg := false, zero := [Value.slice none 0 0], bytes := 24 } := by kernel_rfl
@[go_sem] theorem ty_tinfo_34 : tinfo prog 34 = some { size := 3, agg := true, zero := [Value.int IntKind.i64 0, Value.int IntKind.i64 0, Value.slice none 0 0], bytes := 40 } := by kernel_rfl
@[go_sem] theorem ty_tinfo_4 : tinfo prog 4 = some { size := 1, agg := false, zero := [Value.bool false], bytes := 1 } := by kernel_rfl
@[go_sem] theorem ty_tinfo_42 : tinfo prog 42 = some { size := 1, agg := false, zero := [Value.slice none 0 0], bytes := 24 } := by kernel_rfl
@[go_sem] theorem ty_tinfo_49 : tinfo prog 49 = some { size := 3, agg := true, zero := [Value.int IntKind.i64 0, Value.int IntKind.i64 0, Value.slice none 0 0], bytes := 40 } := by kernel_rfl
@[go_sem] theorem ty_tinfo_5 : tinfo prog 5 = some { size := 1, agg := false, zero := [Value.int IntKind.u8 0], bytes := 1 } := by kernel_rfl
@[go_sem] theorem ty_tinfo_59 : tinfo prog 59 = some { size := 3, agg := true, zero := [Value.int IntKind.i64 0, Value.int IntKind.i64 0, Value.int IntKind.i64 0], bytes := 24 } := by kernel_rfl
@[go_sem] theorem ty_tinfo_64 : tinfo prog 64 = some { size := 2, agg := true, zero := [Value.int IntKind.i64 0, Value.int IntKind.i64 0], bytes := 16 } := by kernel_rfl
@[go_sem] theorem ty_tinfo_74 : tinfo prog 74 = some { size := 2, agg := true, zero := [Value.int IntKind.i64 0, Value.int IntKind.i64 0], bytes := 16 } := by kernel_rfl
@[go_sem] theorem ty_tinfo_75 : tinfo prog 75 = some { size := 1, agg := false, zero := [Value.slice none 0 0], bytes := 24 } := by kernel_rfl
@[go_sem] theorem ty_tinfo_82 : tinfo prog 82 = some { size := 2, agg := true, zero := [Value.int IntKind.i64 0, Value.int IntKind.i64 0], bytes := 16 } := by kernel_rfl
@[go_sem] theorem ty_tinfo_84 : tinfo prog 84 = some { size := 2, agg := true, zero := [Value.slice none 0 0, Value.slice none 0 0], bytes := 48 } := by kernel_rfl
@[go_sem] theorem ty_tinfo_86 : tinfo prog 86 = some { size := 1, agg := false, zero := [Value.slice none 0 0], bytes := 24 } := by kernel_rfl
@[go_sem] theorem ty_tinfo_88 : tinfo prog 88 = some { size := 1, agg := false, zero := [Value.pointer none], bytes := 8 } := by kernel_rfl
@[go_sem] theorem ty_tint_3 : tint prog 3 = some IntKind.i64 := by kernel_rfl
@[go_sem] theorem ty_tknown_114 : tknown prog 114 = true := by kernel_rfl
@[go_sem] theorem ty_tknown_5 : tknown prog 5 = true := by kernel_rfl
@[go_sem] theorem ty_tmap_103 : tmap prog 103 = none := by kernel_rfl
@[go_sem] theorem ty_tmap_104 : tmap prog 104 = none := by kernel_rfl
@[go_sem] theorem ty_tmap_109 : tmap prog 109 = none := by kernel_rfl
@[go_sem] theorem ty_tmap_115 : tmap prog 115 = none := by kernel_rfl
@[go_sem] theorem ty_tmap_133 : tmap prog 133 = none := by kernel_rfl
@[go_sem] theorem ty_tmap_22 : tmap prog 22 = none := by kernel_rfl
@[go_sem] theorem ty_tmap_24 : tmap prog 24 = none := by kernel_rfl
@[go_sem] theorem ty_tmap_25 : tmap prog 25 = none := by kernel_rfl
@[go_sem] theorem ty_tmap_27 : tmap prog 27 = none := by kernel_rfl
@[go_sem] theorem ty_tmap_28 : tmap prog 28 = none := by kernel_rfl
@[go_sem] theorem ty_tmap_3 : tmap prog 3 = none := by kernel_rfl
@[go_sem] theorem ty_tmap_30 : tmap prog 30 = none := by kernel_rfl
@[go_sem] theorem ty_tmap_32 : tmap prog 32 = none := by kernel_rfl
@[go_sem] theorem ty_tmap_34 : tmap prog 34 = none := by kernel_rfl
@[go_sem] theorem ty_tmap_36 : tmap prog 36 = none := by kernel_rfl
@[go_sem] theorem ty_tmap_4 : tmap prog 4 = none := by kernel_rfl
@[go_sem] theorem ty_tmap_42 : tmap prog 42 = none := by kernel_rfl
@[go_sem] theorem ty_tmap_49 : tmap prog 49 = none := by kernel_rfl
@[go_sem] theorem ty_tmap_75 : tmap prog 75 = none := by kernel_rfl
@[go_sem] theorem ty_tmap_82 : tmap prog 82 = none := by kernel_rfl
@[go_sem] theorem ty_tmap_84 : tmap prog 84 = none := by kernel_rfl
@[go_sem] theorem ty_tmap_86 : tmap prog 86 = none := by kernel_rfl
@[go_sem] theorem ty_tmap_88 : tmap prog 88 = none := by kernel_rfl
@[go_sem] theorem ty_tmap_95 : tmap prog 95 = some (3, 3) := by kernel_rfl
@[go_sem] theorem ty_tstr_103 : tstr prog 103 = false := by kernel_rfl
@[go_sem] theorem ty_tstr_104 : tstr prog 104 = false := by kernel_rfl
@[go_sem] theorem ty_tstr_109 : tstr prog 109 = false := by kernel_rfl
@[go_sem] theorem ty_tstr_115 : tstr prog 115 = false := by kernel_rfl
@[go_sem] theorem ty_tstr_133 : tstr prog 133 = false := by kernel_rfl
@[go_sem] theorem ty_tstr_22 : tstr prog 22 = false := by kernel_rfl
@[go_sem] theorem ty_tstr_24 : tstr prog 24 = false := by kernel_rfl
@[go_sem] theorem ty_tstr_25 : tstr prog 25 = false := by kernel_rfl
@[go_sem] theorem ty_tstr_27 : tstr prog 27 = false := by kernel_rfl
@[go_sem] theorem ty_tstr_28 : tstr prog 28 = false := by kernel_rfl
@[go_sem] theorem ty_tstr_3 : tstr prog 3 = false := by kernel_rfl
@[go_sem] theorem ty_tstr_30 : tstr prog 30 = false := by kernel_rfl
@[go_sem] theorem ty_tstr_32 : tstr prog 32 = false := by kernel_rfl
@[go_sem] theorem ty_tstr_34 : tstr prog 34 = false := by kernel_rfl
@[go_sem] theorem ty_tstr_36 : tstr prog 36 = false := by kernel_rfl
@[go_sem] theorem ty_tstr_4 : tstr prog 4 = false := by kernel_rfl
@[go_sem] theorem ty_tstr_42 : tstr prog 42 = false := by kernel_rfl
@[go_sem] theorem ty_tstr_49 : tstr prog 49 = false := by kernel_rfl
@[go_sem] theorem ty_tstr_75 : tstr prog 75 = false := by kernel_rfl
@[go_sem] theorem ty_tstr_82 : tstr prog 82 = false := by kernel_rfl
@[go_sem] theorem ty_tstr_84 : tstr prog 84 = false := by kernel_rfl
@[go_sem] theorem ty_tstr_86 : tstr prog 86 = false := by kernel_rfl
@[go_sem] theorem ty_tstr_88 : tstr prog 88 = false := by kernel_rfl
@[go_sem] theorem ty_tstr_95 : tstr prog 95 = false := by kernel_rfl
end Go.Avl
namespace Go.Avl
open Go Go.Proofs.Try
set_option maxRecDepth 10000
set_option linter.unusedSimpArgs false
attribute [go_sem] Nat.reduceLT Nat.reduceLeDiff Nat.reduceEqDiff Nat.reduceAdd Nat.reduceSub Nat.reduceMul Nat.reduceBEq Int.reduceToNat Int.reduceEq Int.reduceLT Int.reduceLE Int.reduceAdd reduceCtorEq
attribute [go_sem ↓] reduceIte
theorem mixed : prog.follows .mixedOrders = true := by kernel_rfl
theorem none_is : PureIs prog 86 [] (.ag [.sc (.int .i64 (-1)), .sc (.int .i64 (-1))]) := by
  refine PureIs.of (nv := 1) (hid := []) func86 rfl (by kernel_rfl) (by simp) fun _ => ?_
  rw [ntmps86, results86]
  refine EvC.seq (EvC.rg (by simp only [go_sem]; rfl) rfl ?_)
  refine EvC.seq (EvC.rg (by simp only [go_sem]; rfl) rfl ?_)
  refine EvC.ret ⟨.inl rfl, _, (by simp only [go_sem]; rfl), rfl, rfl⟩
def I (n : Int) : AV := .sc (.int .i64 n)
def B (b : Bool) : AV := .sc (.bool b)
def intC (x : Int) : List AV := [.sc (.int .i64 x)]
@[go_sem] theorem norefs_ints (l : List Int) : (l.map intC).all AV.norefs = true := by simp [List.all_eq_true, intC, AV.norefs, AV.noref]
theorem intC_len (l : List Int) : ((l.map intC).all fun y => decide (y.length = 1)) = true := by simp [List.all_eq_true, intC]
end Go.Avl
namespace Go.Avl
open Go Go.Proofs.Try
set_option maxRecDepth 10000
set_option linter.unusedSimpArgs false
def fitsR (n o to out : Int) : Bool := decide (to = -1) && decide (out = -1) || (decide (0 ≤ to) && decide (to < n) && decide (0 ≤ out) && decide (out < o))
theorem fits_is (i o : Int) (nl : Bool) (rows : List (List AV)) (c : Cp) (to out : Int) :
    PureIs prog 74 [.ag [.sc (.int .i64 i), .sc (.int .i64 o), .sl nl rows c], .ag [.sc (.int .i64 to), .sc (.int .i64 out)]] (.sc (.bool (fitsR rows.length o to out))) := by
  refine PureIs.of (nv := 5) (hid := []) func74 rfl (by kernel_rfl) (by simp [ntmps74]) fun _ => ?_
  rw [ntmps74, results74]
  refine EvC.seq (EvC.rg (by simp only [go_sem]; rfl) rfl ?_)
  apply EvC.seq
  apply EvC.drw mixed
  case ht =>
    apply Tr.run
    · (simp only [go_sem]) <;> rfl
    · rfl
    apply Tr.cons
    · exact .call rfl rfl (by (simp only [go_sem]) <;> rfl) (by (simp only [go_sem]) <;> rfl) (by (simp only [go_sem]) <;> rfl) (by (simp only [go_sem]) <;> rfl) (by (simp only [go_sem]) <;> rfl) none_is
    apply Tr.done
    · (simp only [go_sem]) <;> rfl
    · simp
  case hc => kernel_rfl
  case hq =>
    refine EvC.ret ⟨.inl rfl, _, (by (simp only [go_sem]) <;> rfl), ?_, rfl⟩
    simp only [go_sem]
    congr 2
    unfold fitsR
    by_cases h1 : to = -1 <;> by_cases h2 : out = -1 <;> by_cases h3 : 0 ≤ to <;> by_cases h4 : to < rows.length <;> by_cases h5 : 0 ≤ out <;> simp [h1, h2, h3, h4, h5]
end Go.Avl
namespace Go.Avl
open Go Go.Proofs.Try
set_option maxRecDepth 10000
set_option linter.unusedSimpArgs false
def edgeC (e : Int × Int) : List AV := [.sc (.int .i64 e.1), .sc (.int .i64 e.2)]
@[go_sem] theorem norefs_edges (l : List (Int × Int)) : (l.map edgeC).all AV.norefs = true := by simp [List.all_eq_true, edgeC, AV.norefs, AV.noref]

theorem check1_is (i o : Int) (nl : Bool) (rows : List (List AV)) (c : Cp) (to out : Int) :
    PureIs prog 73 [.ag [.sc (.int .i64 to), .sc (.int .i64 out)], .ia [.sc (.int .i64 i), .sc (.int .i64 o), .sl nl rows c]] (.sc (.bool (!fitsR rows.length o to out))) := by
  refine PureIs.of (nv := 4) (hid := []) func73 rfl (by kernel_rfl) (by simp [ntmps73]) fun _ => ?_
  rw [ntmps73, results73]
  refine EvC.seq (EvC.rg (by (simp only [go_sem]) <;> rfl) rfl ?_)
  apply EvC.seq
  apply EvC.tr
  · apply Tr.run
    · (simp only [go_sem]) <;> rfl
    · rfl
    apply Tr.cons
    · exact .call rfl rfl (by (simp only [go_sem]) <;> rfl) (by (simp only [go_sem]) <;> rfl) (by (simp only [go_sem]) <;> rfl) (by (simp only [go_sem]) <;> rfl) (by (simp only [go_sem]) <;> rfl) (fits_is _ _ _ _ _ _ _)
    apply Tr.done
    · (simp only [go_sem]) <;> rfl
    · rfl
  refine EvC.ret ⟨.inl rfl, _, (by (simp only [go_sem]) <;> rfl), ?_, rfl⟩
  simp only [go_sem]

def findIdxR (p : Int × Int → Bool) : List (Int × Int) → Int → Int
  | [], _ => -1
  | e :: es, i => if p e = true then i else findIdxR p es (i + 1)

theorem indexFunc_is (nl : Bool) (xs : List (Int × Int)) (c : Cp) (f : FuncId) (cs : List AV) (hcs : AV.norefs cs = true) (p : Int × Int → Bool) (hp : ∀ e ∈ xs, PureIs prog f (.ag (edgeC e) :: cs) (.sc (.bool (p e)))) (hl : xs.length < 1000000) :
    PureIs prog 85 [.sl nl (xs.map edgeC) c, .fn f cs] (.sc (.int .i64 (findIdxR p xs 0))) := by
  refine PureIs.of (nv := 6) (hid := [6, 7, 8, 9, 16]) func85 rfl (by kernel_rfl) (by simp [ntmps85]) fun _ => ?_
  rw [ntmps85, results85]
  refine EvC.seq (EvC.rg (by (simp only [go_sem]) <;> rfl) rfl ?_)
  refine EvC.seq ?_
  refine EvC.seq (EvC.rg (by (simp only [go_sem]) <;> rfl) rfl ?_)
  refine EvC.block (EvC.loopS (σ := Nat) (fun i => ⟨[(0, .sl nl (xs.map edgeC) c), (1, .fn f cs), (7, .sc (.int .i64 xs.length)), (8, .sc (.int .i64 i))], [], [], 0⟩) (fun i => xs.length - i) (fun i => i ≤ xs.length ∧ findIdxR p xs 0 = findIdxR p (xs.drop i) i) [0, 1, 7, 8] 0 ?_ ?_)
  · refine ⟨[], 0, rfl, (by (simp only [go_sem, hcs]) <;> rfl), Nat.zero_le _, by simp⟩
  · rintro i ⟨h1, h2⟩
    refine EvC.seq (EvC.rg (by (simp only [go_sem]) <;> rfl) rfl ?_)
    refine EvC.seq (EvC.cond (by (simp only [go_sem]) <;> rfl) (fun hc => ?_) (fun hc => ?_))
    · refine EvC.skip ?_
      have hi : i < xs.length := by simpa using hc
      have he : xs[i]? = some xs[i] := List.getElem?_eq_getElem hi
      generalize xs[i] = e at he
      have hm : e ∈ xs := List.mem_of_getElem? he
      have hd : xs.drop i = e :: xs.drop (i + 1) := by
        rw [List.drop_eq_getElem_cons hi]; congr 1; rw [List.getElem?_eq_getElem hi] at he; simpa using he
      refine EvC.seq ?_
      refine EvC.block (EvC.seq (EvC.rg (by (simp only [go_sem]) <;> rfl) rfl ?_))
      apply EvC.seq
      apply EvC.tr
      · apply Tr.run
        · (simp only [go_sem, he, edgeC]) <;> rfl
        · simp
        apply Tr.cons
        · exact .call rfl rfl (by (simp only [go_sem]) <;> rfl) (by (simp only [go_sem]) <;> rfl) (by (simp only [go_sem]) <;> rfl) (by (simp only [go_sem, hcs]) <;> rfl) (by (simp only [go_sem]) <;> rfl) (hp e hm)
        apply Tr.done
        · (simp only [go_sem]) <;> rfl
        · rfl
      refine EvC.cond (by (simp only [go_sem]) <;> rfl) (fun hc => ?_) (fun hc => ?_)
      · refine EvC.seq (EvC.rg (by (simp only [go_sem]) <;> rfl) rfl ?_)
        refine EvC.ret ⟨.inl rfl, _, (by (simp only [go_sem]) <;> rfl), ?_, rfl⟩
        simp only [go_sem]
        rw [h2, hd, findIdxR, if_pos hc]
      · refine EvC.skip ?_
        refine EvC.rg (by (simp only [go_sem]) <;> rfl) ?_ ?_
        · exact inI64_of (by omega) (by omega)
        refine ⟨[], i + 1, rfl, ?_, ⟨by omega, ?_⟩, by omega⟩
        · (simp only [go_sem, hcs]) <;> rfl
        · rw [h2, hd, findIdxR, if_neg (by simp [hc])]; rfl
    · refine EvC.exit ?_
      have hi : ¬ i < xs.length := by simpa using hc
      refine EvC.seq (EvC.rg (by (simp only [go_sem]) <;> rfl) rfl ?_)
      refine EvC.ret ⟨.inl rfl, _, (by (simp only [go_sem]) <;> rfl), ?_, rfl⟩
      simp only [go_sem]
      rw [h2, List.drop_of_length_le (by omega)]; rfl
end Go.Avl
namespace Go.Avl
open Go Go.Proofs.Try
set_option maxRecDepth 10000
set_option linter.unusedSimpArgs false

theorem findIdxR_any (p : Int × Int → Bool) : ∀ (es : List (Int × Int)) (i : Int), 0 ≤ i → decide (0 ≤ findIdxR p es i) = es.any p
  | [], i, _ => by simp [findIdxR]
  | e :: es, i, h => by
    unfold findIdxR
    split
    · rename_i hp; simp [hp, h]
    · rename_i hp
      rw [findIdxR_any p es (i + 1) (by omega)]
      simp [hp]

theorem containsFunc_is (nl : Bool) (xs : List (Int × Int)) (c : Cp) (f : FuncId) (cs : List AV) (hcs : AV.norefs cs = true) (p : Int × Int → Bool) (hp : ∀ e ∈ xs, PureIs prog f (.ag (edgeC e) :: cs) (.sc (.bool (p e)))) (hl : xs.length < 1000000) :
    PureIs prog 72 [.sl nl (xs.map edgeC) c, .fn f cs] (.sc (.bool (xs.any p))) := by
  refine PureIs.of (nv := 5) (hid := []) func72 rfl (by kernel_rfl) (by simp [ntmps72]) fun _ => ?_
  rw [ntmps72, results72]
  refine EvC.seq (EvC.rg (by (simp only [go_sem]) <;> rfl) rfl ?_)
  apply EvC.seq
  apply EvC.tr
  · apply Tr.run
    · (simp only [go_sem]) <;> rfl
    · rfl
    apply Tr.cons
    · exact .call rfl rfl (by (simp only [go_sem]) <;> rfl) (by (simp only [go_sem]) <;> rfl) (by (simp only [go_sem]) <;> rfl) (by (simp only [go_sem, hcs]) <;> rfl) (by (simp only [go_sem]) <;> rfl) (indexFunc_is _ _ _ _ _ hcs _ hp hl)
    apply Tr.done
    · (simp only [go_sem]) <;> rfl
    · rfl
  refine EvC.ret ⟨.inl rfl, _, (by (simp only [go_sem]) <;> rfl), ?_, rfl⟩
  simp only [go_sem]
  rw [findIdxR_any _ _ _ (Int.le_refl 0)]

abbrev Row := Bool × List (Int × Int)
def rowC (r : Row) : List AV := [.sl r.1 (r.2.map edgeC) .unk]
structure Mach where
  ins : Int
  outs : Int
  nl : Bool
  rows : List Row
def Mach.cells (m : Mach) : List AV := [.sc (.int .i64 m.ins), .sc (.int .i64 m.outs), .sl m.nl (m.rows.map rowC) .unk]
def rowOk (m : Mach) (r : Row) : Bool := decide ((r.2.length : Int) = m.ins) && !(r.2.any fun e => !fitsR m.rows.length m.outs e.1 e.2)
def checkM (m : Mach) : Int :=
  if 16 < m.ins ∨ 16 < m.outs ∨ 64 < (m.rows.length : Int) then 3
  else if m.ins < 1 ∨ m.outs < 1 ∨ (m.rows.length : Int) < 1 then 1
  else if m.rows.all (rowOk m) = true then 0 else 1

theorem check_is (m : Mach) (hr : ∀ r ∈ m.rows, r.2.length < 1000000) : PureIs prog 53 [.ag m.cells] (.sc (.int .i64 (checkM m))) := by
  refine PureIs.of (nv := 5) (hid := [18, 32, 34, 35, 36, 37, 49]) func53 rfl (by kernel_rfl) (by simp [ntmps53]) fun _ => ?_
  rw [ntmps53, results53]
  refine EvC.seq (EvC.rg (by (simp only [go_sem, Mach.cells]) <;> rfl) rfl ?_)
  refine EvC.frzB 0 (by (simp only [go_sem]) <;> rfl) ?_
  refine EvC.seq ?_
  apply EvC.seq
  apply EvC.trd
  · (simp only [go_sem]) <;> rfl
  · simp
  refine EvC.cond (by (simp only [go_sem]) <;> rfl) (fun hc => ?_) (fun hc => ?_)
  · refine EvC.seq (EvC.rg (by (simp only [go_sem]) <;> rfl) rfl ?_)
    refine EvC.ret ⟨.inl rfl, _, (by (simp only [go_sem]) <;> rfl), ?_, rfl⟩
    simp only [go_sem]
    have h : 16 < m.ins ∨ 16 < m.outs ∨ 64 < (m.rows.length : Int) := by
      by_cases h1 : 16 < m.ins <;> by_cases h2 : 16 < m.outs <;> simp_all
    rw [checkM, if_pos h]
  have hn : ¬ (16 < m.ins ∨ 16 < m.outs ∨ 64 < (m.rows.length : Int)) := by
    by_cases h1 : 16 < m.ins <;> by_cases h2 : 16 < m.outs <;> simp_all
  refine EvC.skip ?_
  refine EvC.seq ?_
  apply EvC.seq
  apply EvC.trd
  · (simp only [go_sem]) <;> rfl
  · simp
  refine EvC.cond (by (simp only [go_sem]) <;> rfl) (fun hc => ?_) (fun hc => ?_)
  · refine EvC.seq (EvC.rg (by (simp only [go_sem]) <;> rfl) rfl ?_)
    refine EvC.ret ⟨.inl rfl, _, (by (simp only [go_sem]) <;> rfl), ?_, rfl⟩
    simp only [go_sem]
    have h : m.ins < 1 ∨ m.outs < 1 ∨ (m.rows.length : Int) < 1 := by
      by_cases h1 : m.ins < 1 <;> by_cases h2 : m.outs < 1 <;> simp_all
    rw [checkM, if_neg hn, if_pos h]
  have hn2 : ¬ (m.ins < 1 ∨ m.outs < 1 ∨ (m.rows.length : Int) < 1) := by
    by_cases h1 : m.ins < 1 <;> by_cases h2 : m.outs < 1 <;> simp_all
  refine EvC.skip ?_
  have hlen : (m.rows.length : Int) ≤ 64 := by omega
  refine EvC.seq ?_
  refine EvC.seq (EvC.rg (by (simp only [go_sem]) <;> rfl) (by simp) ?_)
  refine EvC.block (EvC.loopS (σ := Nat) (fun i => ⟨[(1, .ia m.cells), (34, .sl m.nl (m.rows.map rowC) .unk), (35, .sc (.int .i64 m.rows.length)), (36, .sc (.int .i64 i))], [], [], 0⟩) (fun i => m.rows.length - i) (fun i => i ≤ m.rows.length ∧ m.rows.all (rowOk m) = (m.rows.drop i).all (rowOk m)) [1, 34, 35, 36] 0 ?_ ?_)
  · refine ⟨[], 0, rfl, (by (simp only [go_sem, Mach.cells]) <;> rfl), Nat.zero_le _, by simp⟩
  rintro i ⟨h1, h2⟩
  refine EvC.seq (EvC.rg (by (simp only [go_sem]) <;> rfl) rfl ?_)
  refine EvC.seq (EvC.cond (by (simp only [go_sem]) <;> rfl) (fun hc => ?_) (fun hc => ?_))
  · refine EvC.skip ?_
    have hi : i < m.rows.length := by simpa using hc
    have he : m.rows[i]? = some m.rows[i] := List.getElem?_eq_getElem hi
    generalize m.rows[i] = r at he
    have hm : r ∈ m.rows := List.mem_of_getElem? he
    have hd : m.rows.drop i = r :: m.rows.drop (i + 1) := by
      rw [List.drop_eq_getElem_cons hi]; congr 1; rw [List.getElem?_eq_getElem hi] at he; simpa using he
    refine EvC.seq ?_
    refine EvC.block (EvC.seq (EvC.rg (by (simp only [go_sem, he, rowC]) <;> rfl) (by simp) ?_))
    by_cases hl : (r.2.length : Int) = m.ins
    · apply EvC.seq
      apply EvC.tr
      · apply Tr.run
        · (simp only [go_sem, Mach.cells, hl]) <;> rfl
        · simp
        apply Tr.cons
        · exact .callG rfl rfl (by (simp only [go_sem]) <;> rfl) rfl (by (simp only [go_sem]) <;> rfl) (by (simp only [go_sem]) <;> rfl) (by (simp only [go_sem]) <;> rfl) (by (simp only [go_sem]) <;> rfl) (by (simp only [go_sem]) <;> rfl) (containsFunc_is r.1 r.2 .unk 73 [.ia m.cells] rfl (fun e => !fitsR m.rows.length m.outs e.1 e.2) (fun e _ => by simpa [edgeC, Mach.cells] using check1_is m.ins m.outs m.nl (m.rows.map rowC) .unk e.1 e.2) (hr r hm))
        apply Tr.done
        · (simp only [go_sem]) <;> rfl
        · simp
      refine EvC.cond (by (simp only [go_sem]) <;> rfl) (fun hc2 => ?_) (fun hc2 => ?_)
      · refine EvC.seq (EvC.rg (by (simp only [go_sem]) <;> rfl) rfl ?_)
        refine EvC.ret ⟨.inl rfl, _, (by (simp only [go_sem]) <;> rfl), ?_, rfl⟩
        simp only [go_sem]
        rw [checkM, if_neg hn, if_neg hn2, h2, hd, List.all_cons]
        simp [rowOk, hc2]
      · refine EvC.skip ?_
        refine EvC.rg (by (simp only [go_sem]) <;> rfl) ?_ ?_
        · exact inI64_of (by omega) (by omega)
        refine ⟨[], i + 1, rfl, (by (simp only [go_sem, Mach.cells]) <;> rfl), ⟨by omega, ?_⟩, by omega⟩
        rw [h2, hd, List.all_cons]
        simp [rowOk, hl, hc2]
    · apply EvC.seq
      apply EvC.tr
      · apply Tr.run
        · (simp only [go_sem, Mach.cells, hl]) <;> rfl
        · simp
        apply Tr.cons
        · exact .skipv (.sc (.bool false)) rfl rfl (by (simp only [go_sem]) <;> rfl) (by (simp only [go_sem]) <;> rfl)
        apply Tr.done
        · (simp only [go_sem]) <;> rfl
        · simp
      refine EvC.cond_true (by (simp only [go_sem]) <;> rfl) ?_
      refine EvC.seq (EvC.rg (by (simp only [go_sem]) <;> rfl) rfl ?_)
      refine EvC.ret ⟨.inl rfl, _, (by (simp only [go_sem]) <;> rfl), ?_, rfl⟩
      simp only [go_sem]
      rw [checkM, if_neg hn, if_neg hn2, h2, hd, List.all_cons]
      simp [rowOk, hl]
  · refine EvC.exit ?_
    have hi : ¬ i < m.rows.length := by simpa using hc
    refine EvC.seq (EvC.rg (by (simp only [go_sem]) <;> rfl) rfl ?_)
    refine EvC.ret ⟨.inl rfl, _, (by (simp only [go_sem]) <;> rfl), ?_, rfl⟩
    simp only [go_sem]
    rw [checkM, if_neg hn, if_neg hn2, h2, List.drop_of_length_le (by omega)]; rfl
end Go.Avl
namespace Go.Avl
open Go Go.Proofs.Try
set_option maxRecDepth 10000
set_option linter.unusedSimpArgs false
def stepM (m : Mach) (s a : Int) : Int × Int := (((m.rows[s.toNat]?).map (·.2)).getD [])[a.toNat]?.getD (-1, -1)
def edgeA (e : Int × Int) : AV := .ag [.sc (.int .i64 e.1), .sc (.int .i64 e.2)]
theorem next04_is (m : Mach) (s a : Int) (r : Row) (e : Int × Int) (hs : 0 ≤ s → m.rows[s.toNat]? = some r) (ha : 0 ≤ s → 0 ≤ a ∧ r.2[a.toNat]? = some e) : PureIs prog 75 [.ag m.cells, .sc (.int .i64 s), .sc (.int .i64 a)] (edgeA (if s < 0 then (-1, -1) else e)) := by
  refine PureIs.of (nv := 7) (hid := [8]) func75 rfl (by kernel_rfl) (by simp [ntmps75]) fun _ => ?_
  rw [ntmps75, results75]
  refine EvC.seq (EvC.rg (by (simp only [go_sem, Mach.cells]) <;> rfl) rfl ?_)
  refine EvC.seq (EvC.seq (EvC.rg (by (simp only [go_sem]) <;> rfl) rfl ?_))
  refine EvC.cond (by (simp only [go_sem]) <;> rfl) (fun hc => ?_) (fun hc => ?_)
  · refine EvC.seq (EvC.rg (by (simp only [go_sem]) <;> rfl) rfl ?_)
    refine EvC.ret ⟨.inl rfl, _, (by (simp only [go_sem]) <;> rfl), ?_, (by unfold edgeA; simp only [go_sem])⟩
    simp only [go_sem]
    rw [if_pos (by simpa using hc)]; rfl
  · have h0 : 0 ≤ s := by simpa using hc
    refine EvC.skip ?_
    refine EvC.seq (EvC.rg (by (simp only [go_sem, hs h0, rowC, (ha h0).2, edgeC]) <;> rfl) ?_ ?_)
    · simp [h0, (ha h0).1]
    refine EvC.ret ⟨.inl rfl, _, (by (simp only [go_sem]) <;> rfl), ?_, (by unfold edgeA; simp only [go_sem])⟩
    simp only [go_sem]
    rw [if_neg (by simpa using hc)]; rfl
/-- A valid machine's rows and edges. -/
structure Valid (m : Mach) : Prop where
  ins : 1 ≤ m.ins ∧ m.ins ≤ 16
  outs : 1 ≤ m.outs ∧ m.outs ≤ 16
  rows : 1 ≤ m.rows.length ∧ m.rows.length ≤ 64
  row : ∀ r ∈ m.rows, (r.2.length : Int) = m.ins ∧ ∀ e ∈ r.2, fitsR m.rows.length m.outs e.1 e.2 = true
theorem Valid.of {m : Mach} (h : checkM m = 0) : Valid m := by
  unfold checkM at h
  split at h
  · cases h
  · split at h
    · cases h
    · split at h
      · rename_i h1 h2 h3
        rw [List.all_eq_true] at h3
        refine ⟨by omega, by omega, by omega, fun r hr => ?_⟩
        have := h3 r hr
        simp only [rowOk, Bool.and_eq_true, decide_eq_true_eq, Bool.not_eq_true', List.any_eq_false] at this
        exact ⟨this.1, fun e he => by simpa using this.2 e he⟩
      · cases h
def stepR (m : Mach) (s a : Int) : Int × Int := if s < 0 then (-1, -1) else (((m.rows[s.toNat]?).map (·.2)).getD [])[a.toNat]?.getD (-1, -1)
theorem stepR_get {m : Mach} (hv : Valid m) {s a : Int} (h0 : 0 ≤ s) (hs : s < m.rows.length) (ha : 0 ≤ a ∧ a < m.ins) :
    ∃ r e, m.rows[s.toNat]? = some r ∧ r.2[a.toNat]? = some e ∧ stepR m s a = e ∧ fitsR m.rows.length m.outs e.1 e.2 = true := by
  have h1 : m.rows[s.toNat]? = some m.rows[s.toNat] := List.getElem?_eq_getElem (by omega)
  obtain ⟨h2, h3⟩ := hv.row _ (List.getElem_mem (show s.toNat < m.rows.length by omega))
  have h4 : (m.rows[s.toNat]).2[a.toNat]? = some ((m.rows[s.toNat]).2[a.toNat]'(by omega)) := List.getElem?_eq_getElem _
  exact ⟨_, _, h1, h4, by rw [stepR, if_neg (by omega), h1]; simp only [Option.map_some, Option.getD_some, h4], h3 _ (List.getElem_mem _)⟩

theorem stepR_is {m : Mach} (hv : Valid m) {s a : Int} (hs : s < m.rows.length) (ha : 0 ≤ a ∧ a < m.ins) : PureIs prog 75 [.ag m.cells, .sc (.int .i64 s), .sc (.int .i64 a)] (edgeA (stepR m s a)) := by
  by_cases h0 : 0 ≤ s
  · obtain ⟨r, e, h1, h2, h3, _⟩ := stepR_get hv h0 hs ha
    have := next04_is m s a r e (fun _ => h1) (fun _ => ⟨ha.1, h2⟩)
    rw [if_neg (by omega)] at this
    rw [h3]; exact this
  · have := next04_is m s a (false, []) (0, 0) (fun h => absurd h h0) (fun h => absurd h h0)
    rw [if_pos (by omega)] at this
    rw [stepR, if_pos (by omega)]; exact this
def runR (m : Mach) : Int → List Int → List Int
  | _, [] => []
  | s, a :: w => (stepR m s a).2 :: runR m (stepR m s a).1 w
theorem stepR_lt {m : Mach} (hv : Valid m) {s a : Int} (hs : s < m.rows.length) (ha : 0 ≤ a ∧ a < m.ins) : (stepR m s a).1 < m.rows.length := by
  by_cases h0 : 0 ≤ s
  · obtain ⟨r, e, _, _, h3, h4⟩ := stepR_get hv h0 hs ha
    rw [h3]
    have := hv.rows
    unfold fitsR at h4
    simp at h4; omega
  · rw [stepR, if_pos (by omega)]; have := hv.rows; simp only; omega

theorem run04_is {m : Mach} (hv : Valid m) (s : Int) (hs : s < m.rows.length) (nl : Bool) (w : List Int) (c : Cp) (hw : ∀ a ∈ w, 0 ≤ a ∧ a < m.ins) (hl : w.length < 1000000) :
    PureIs prog 58 [.ag m.cells, .sc (.int .i64 s), .sl nl (w.map intC) c] (.sl (runR m s w).isEmpty ((runR m s w).map intC) .unk) := by
  refine PureIs.of (nv := 10) (hid := [13]) func58 rfl (by kernel_rfl) (by simp [ntmps58]) fun _ => ?_
  rw [ntmps58, results58]
  refine EvC.seq (EvC.rg (by (simp only [go_sem, Mach.cells]) <;> rfl) rfl ?_)
  refine EvC.frzB 0 (by (simp only [go_sem]) <;> rfl) ?_
  refine EvC.seq (EvC.rg (by (simp only [go_sem]) <;> rfl) rfl ?_)
  refine EvC.seq ?_
  refine EvC.seq (EvC.rg (by (simp only [go_sem]) <;> rfl) rfl ?_)
  refine EvC.block (EvC.loopS (σ := Nat × Int × List Int) (fun g => ⟨[(1, .sc (.int .i64 g.2.1)), (2, .sl nl (w.map intC) c), (3, .ia m.cells), (7, .tl 0 g.2.2.length g.2.2.isEmpty), (8, .sc (.int .i64 g.1))], [], [(0, .arr 1 (g.2.2.map intC) true)], 1⟩) (fun g => w.length - g.1)
    (fun g => g.1 ≤ w.length ∧ g.2.1 < m.rows.length ∧ runR m s w = g.2.2 ++ runR m g.2.1 (w.drop g.1) ∧ g.2.2.length = g.1) [1, 2, 3, 7, 8] 1 ?_ ?_)
  · refine ⟨[(2, 0)], (0, s, []), rfl, (by (simp only [go_sem, Mach.cells]) <;> rfl), Nat.zero_le _, hs, by simp, rfl⟩
  rintro ⟨i, t, os⟩ ⟨h1, h2, h3, h4⟩
  simp only at h1 h2 h3 h4
  refine EvC.seq (EvC.seq (EvC.rg (by (simp only [go_sem]) <;> rfl) rfl ?_))
  refine EvC.cond (by (simp only [go_sem]) <;> rfl) (fun hc => ?_) (fun hc => ?_)
  · refine EvC.skip ?_
    have hi : i < w.length := by simpa using hc
    have he : w[i]? = some w[i] := List.getElem?_eq_getElem hi
    generalize w[i] = a at he
    have ha := hw a (List.mem_of_getElem? he)
    have hd : w.drop i = a :: w.drop (i + 1) := by
      rw [List.drop_eq_getElem_cons hi]; congr 1; rw [List.getElem?_eq_getElem hi] at he; simpa using he
    have hstep := stepR_is hv h2 ha
    refine EvC.seq ?_
    apply EvC.block
    apply EvC.seq
    apply EvC.drw mixed
    · apply Tr.run
      · (simp only [go_sem, Mach.cells, he, intC]) <;> rfl
      · simp
      apply Tr.cons
      · exact .call rfl rfl (by (simp only [go_sem]) <;> rfl) (by (simp only [go_sem]) <;> rfl) (by (simp only [go_sem]) <;> rfl) (by (simp only [go_sem]) <;> rfl) (by (simp only [go_sem]) <;> rfl) hstep
      apply Tr.done
      · (simp only [go_sem, edgeA]) <;> rfl
      · simp
    · kernel_rfl
    refine EvC.seq (EvC.rg (by (simp only [go_sem, List.set_cons_zero]) <;> rfl) ?_ ?_)
    · simp [room_eq]; omega
    refine EvC.rg (by (simp only [go_sem]) <;> rfl) (by simp) ?_
    refine EvC.rg (by (simp only [go_sem]) <;> rfl) ?_ ?_
    · exact inI64_of (by omega) (by omega)
    refine ⟨[(0, 0)], (i + 1, (stepR m t a).1, os ++ [(stepR m t a).2]), rfl, ?_, ⟨by omega, stepR_lt hv h2 ha, ?_, by simp [h4]⟩, by simp; omega⟩
    · (simp only [go_sem, Mach.cells, intC, List.length_append]) <;> rfl
    · rw [h3, hd, runR]; simp
  · refine EvC.exit ?_
    have hi : ¬ i < w.length := by simpa using hc
    have hr : runR m s w = os := by rw [h3, List.drop_of_length_le (by omega), runR, List.append_nil]
    refine EvC.frz 0 (by (simp only [go_sem]) <;> rfl) ?_
    refine EvC.seq (EvC.rg (by (simp only [go_sem]) <;> rfl) rfl ?_)
    refine EvC.ret ⟨.inl rfl, _, (by (simp only [go_sem]) <;> rfl), ?_, rfl⟩
    simp only [go_sem]
    rw [hr]
end Go.Avl
namespace Go.Avl
open Go Go.Proofs.Try
set_option maxRecDepth 10000
set_option linter.unusedSimpArgs false
def rowF (r : List (Int × Int)) : List AV := rowC (false, r)
@[go_sem] theorem norefs_rowF (l : List (List (Int × Int))) : (l.map rowF).all AV.norefs = true := by simp [List.all_eq_true, rowF, rowC, AV.norefs, AV.noref]
/-- The plain data of a machine. -/
structure LM where
  st : Int
  ins : Int
  outs : Int
  part : Bool
  nl : Bool
  es : List Int
  cap : Cp
def u16C (x : Int) : List AV := [.sc (.int .u16 x)]
@[go_sem] theorem norefs_u16 (l : List Int) : (l.map u16C).all AV.norefs = true := by simp [List.all_eq_true, u16C, AV.norefs, AV.noref]
def LM.cells (x : LM) : List AV := [.sc (.int .u8 x.st), .sc (.int .u8 x.ins), .sc (.int .u8 x.outs), .sc (.bool x.part), .sl x.nl (x.es.map u16C) x.cap]
structure LM.Ok (x : LM) : Prop where
  st : 0 ≤ x.st
  ins : 0 ≤ x.ins
  outs : 0 ≤ x.outs
  es : ∀ e ∈ x.es, 0 ≤ e ∧ e < 65536
def LM.n (x : LM) : Nat := (1 + x.st % 6).toNat
def LM.i (x : LM) : Nat := (1 + x.ins % 3).toNat
def LM.o (x : LM) : Int := 1 + x.outs % 3
def LM.v (x : LM) (s i : Nat) : Int := (x.es[s * x.i + i]?).getD 0
def LM.edge (x : LM) (s i : Nat) : Int × Int :=
  if x.part = true ∧ x.v s i % 4 = 3 then (-1, -1) else (x.v s i / 4 % x.n, x.v s i / 4 / x.n % x.o)
def LM.row (x : LM) (s : Nat) : List (Int × Int) := (List.range x.i).map (x.edge s)
def LM.mach (x : LM) : Mach := ⟨x.i, x.o, false, (List.range x.n).map fun s => (false, x.row s)⟩

theorem LM.bounds {x : LM} (h : x.Ok) : 1 ≤ x.n ∧ x.n ≤ 6 ∧ 1 ≤ x.i ∧ x.i ≤ 3 ∧ 1 ≤ x.o ∧ x.o ≤ 3 ∧ (x.n : Int) = 1 + x.st % 6 ∧ (x.i : Int) = 1 + x.ins % 3 := by
  have h1 := h.st
  have h2 := h.ins
  have h3 := h.outs
  unfold LM.n LM.i LM.o
  omega
theorem LM.v_ok {x : LM} (h : x.Ok) (s i : Nat) : 0 ≤ x.v s i ∧ x.v s i < 65536 := by
  unfold LM.v
  cases he : x.es[s * x.i + i]? with
  | none => simp
  | some e => exact h.es e (List.mem_of_getElem? he)

theorem mOf_is {x : LM} (h : x.Ok) : PureIs prog 28 [.ag x.cells] (.ag x.mach.cells) := by
  refine PureIs.of (nv := 10) (hid := [28, 34, 47, 60]) func28 rfl (by kernel_rfl) (by simp [ntmps28]) fun _ => ?_
  rw [ntmps28, results28]
  obtain ⟨b1, b2, b3, b4, b5, b6, b7, b8⟩ := LM.bounds h
  have h1 := h.st
  have h2 := h.ins
  have h3 := h.outs
  have hI1 : inI64 (x.st % 6) = true := inI64_of (by omega) (by omega)
  have hI2 : inI64 (x.ins % 3) = true := inI64_of (by omega) (by omega)
  have hI3 : inI64 (x.outs % 3) = true := inI64_of (by omega) (by omega)
  have hI4 : inI64 (1 + x.st % 6) = true := inI64_of (by omega) (by omega)
  have hI5 : inI64 (1 + x.ins % 3) = true := inI64_of (by omega) (by omega)
  have hI6 : inI64 (1 + x.outs % 3) = true := inI64_of (by omega) (by omega)
  refine EvC.seq (EvC.rg (by (simp only [go_sem, LM.cells]) <;> rfl) (by simp) ?_)  -- R0
  refine EvC.frzB 0 (by (simp only [go_sem]) <;> rfl) ?_
  refine EvC.seq (EvC.rg (by (simp only [go_sem]) <;> rfl) (by simp [hI1, hI4, h1]) ?_)  -- R1
  refine EvC.seq (EvC.rg (by (simp only [go_sem]) <;> rfl) (by simp [hI2, hI3, hI5, hI6, h2, h3]) ?_)  -- R2
  refine EvC.seq ?_
  refine EvC.seq (EvC.rg (by (simp only [go_sem]) <;> rfl) (by simp) ?_)  -- R3
  refine EvC.block ?_  -- 0
  have hmem : ∀ {s : Nat}, (fun s => ((false, x.row s) : Row)) s = (false, x.row s) := fun {_} => rfl
  have hO : x.o = 1 + x.outs % 3 := rfl
  refine EvC.ownC 19 2 1 (by (simp only [go_sem]) <;> rfl) ?_
  refine EvC.loopS (σ := Nat) (fun s => ⟨[(1, .ia x.cells), (2, .rf 0 0), (3, .sc (.int .i64 x.n)), (4, .rf 1 0), (5, .sc (.int .i64 s))], [],
      [(0, .cells [.sc (.int .i64 0), .sc (.int .i64 0), .sl true [] .zer]), (1, .cells [.sc (.int .i64 x.i), .sc (.int .i64 x.o), .tl 2 s (s == 0)]), (2, .arr 1 (((List.range s).map x.row).map rowF) true)], 3⟩) (fun s => x.n - s)
    (fun s => s ≤ x.n) [1, 2, 3, 4, 5] 3 ?_ ?_
  · exact ⟨[(1, 0), (19, 1), (22, 2)], 0, rfl, (by (simp only [go_sem, LM.cells, ← b7, ← b8, ← hO, List.range_zero]) <;> rfl), Nat.zero_le _⟩
  intro s hs
  have hls : (((List.range s).map x.row).map rowF).length = s := by simp
  refine EvC.seq ?_
  refine EvC.seq (EvC.rg (by (simp only [go_sem]) <;> rfl) (by simp) ?_)  -- R4
  refine EvC.cond (by (simp only [go_sem]) <;> rfl) (fun hc => ?_) (fun hc => ?_)
  rotate_left
  · refine EvC.exit ?_  -- 0
    have hc : ¬ s < x.n := by simpa using hc
    obtain rfl : s = x.n := by omega
    refine EvC.frzD 2 (by (simp only [go_sem, hls]) <;> rfl) ?_
    refine EvC.seq (EvC.rg (by (simp only [go_sem]) <;> rfl) (by simp) ?_)  -- R18
    refine EvC.ret ⟨.inl rfl, _, (by (simp only [go_sem]) <;> rfl), ?_, rfl⟩
    simp only [go_sem]
    have hne : (x.n == 0) = false := by simp; omega
    simp only [Mach.cells, LM.mach, hne]
    rw [List.map_map, List.map_map]
    rfl
  have hc : s < x.n := by simpa using hc
  refine EvC.skip ?_
  refine EvC.seq ?_
  refine EvC.block ?_  -- 1
  refine EvC.seq (EvC.rg (by (simp only [go_sem]) <;> rfl) (by simp) ?_)  -- R6
  refine EvC.seq ?_
  refine EvC.seq (EvC.rg (by (simp only [go_sem]) <;> rfl) (by simp) ?_)  -- R7
  refine EvC.block ?_  -- 2
  refine EvC.loopS (σ := Nat) (fun i => ⟨[(1, .ia x.cells), (2, .rf 0 0), (3, .sc (.int .i64 x.n)), (4, .rf 1 0), (5, .sc (.int .i64 s)), (6, .tl 3 i (i == 0)), (7, .sc (.int .i64 i))], [],
      [(0, .cells [.sc (.int .i64 0), .sc (.int .i64 0), .sl true [] .zer]), (1, .cells [.sc (.int .i64 x.i), .sc (.int .i64 x.o), .tl 2 s (s == 0)]), (2, .arr 1 (((List.range s).map x.row).map rowF) true),
       (3, .arr 2 (((List.range i).map (x.edge s)).map edgeC) true)], 4⟩) (fun i => x.i - i)
    (fun i => i ≤ x.i) [1, 2, 3, 4, 5, 6, 7] 4 ?_ ?_
  · exact ⟨[(0, 0), (1, 1), (2, 2), (6, 3)], 0, rfl, (by (simp only [go_sem, List.range_zero]) <;> rfl), Nat.zero_le _⟩
  intro i hi
  have hli : (((List.range i).map (x.edge s)).map edgeC).length = i := by simp
  refine EvC.seq ?_
  refine EvC.seq (EvC.rg (by (simp only [go_sem]) <;> rfl) (by simp) ?_)  -- R8
  refine EvC.cond (by (simp only [go_sem]) <;> rfl) (fun hc => ?_) (fun hc => ?_)
  rotate_left
  · refine EvC.exit ?_  -- 2
    have hc : ¬ i < x.i := by simpa using hc
    obtain rfl : i = x.i := by omega
    have hne : (x.i == 0) = false := by simp; omega
    refine EvC.frz 3 (by (simp only [go_sem, hli, hne]) <;> rfl) ?_
    refine EvC.rg (by (simp only [go_sem]) <;> rfl) (by simp [room_eq, AV.norefs, AV.noref, hls]; omega) ?_  -- R17
    refine EvC.rg (by (simp only [go_sem]) <;> rfl) (inI64_of (by omega) (by omega)) ?_  -- R5
    refine ⟨[(0, 0), (1, 1), (2, 2)], s + 1, rfl, ?_, by omega, by omega⟩
    have hs0 : (s + 1 == 0) = false := rfl
    (simp only [go_sem, hs0, List.range_succ, rowF, rowC, LM.row, List.length_map, List.length_range]) <;> rfl
  have hc : i < x.i := by simpa using hc
  have hv := LM.v_ok h s i
  have hsi : (0 : Int) ≤ (s : Int) * x.i := Int.mul_nonneg (by omega) (by omega)
  have hsi2 : (s : Int) * x.i ≤ 18 := by
    have : s * x.i ≤ 6 * 3 := Nat.mul_le_mul (by omega) (by omega)
    have := Int.ofNat_le.2 this
    simpa using this
  have hk : ((s * x.i + i : Nat) : Int) = (s : Int) * x.i + i := by simp
  have hkn : ((s : Int) * x.i + i).toNat = s * x.i + i := by omega
  have hIm : inI64 ((s : Int) * x.i) = true := inI64_of (by omega) (by omega)
  have hIk : inI64 ((s : Int) * x.i + i) = true := inI64_of (by omega) (by omega)
  have hIi : inI64 ((i : Int) + 1) = true := inI64_of (by omega) (by omega)
  have hIv : inI64 (x.v s i) = true := inI64_of (by omega) (by omega)
  refine EvC.skip ?_
  refine EvC.seq ?_
  refine EvC.block ?_  -- 3
  refine EvC.seq (EvC.rg (by (simp only [go_sem]) <;> rfl) (by simp) ?_)  -- R10
  refine EvC.seq ?_
  refine EvC.seq (EvC.rg (by (simp only [go_sem]) <;> rfl) (by simp [hIm, hIk]) ?_)  -- R11
  refine EvC.seq (EvC.rg (by (simp only [go_sem, LM.cells]) <;> rfl) (by simp) ?_)  -- R12
  refine EvC.cond (by (simp only [go_sem]) <;> rfl) (fun hc => ?_) (fun hc => ?_)
  · have hkl : s * x.i + i < x.es.length := by
      have : (s : Int) * x.i + i < x.es.length := by simpa using hc
      omega
    have hev : x.es[s * x.i + i]? = some (x.v s i) := by
      unfold LM.v
      rw [List.getElem?_eq_getElem hkl]; rfl
    refine EvC.rg (by (simp only [go_sem, LM.cells, hkn, hev, u16C]) <;> rfl) (by simp [hIv]; omega) ?_  -- R13
    apply EvC.seq  -- R14
    apply EvC.trd
    · (simp only [go_sem, LM.cells]) <;> rfl
    · simp [hv.1]
    have hi0 : (i + 1 == 0) = false := rfl
    refine EvC.cond (by (simp only [go_sem]) <;> rfl) (fun hp => ?_) (fun hp => ?_)
    · have hp : x.part = true ∧ x.v s i % 4 = 3 := by
        by_cases h1 : x.part = true
        · simp [h1] at hp; exact ⟨h1, hp⟩
        · simp [h1] at hp
      have he : x.edge s i = (-1, -1) := if_pos hp
      refine EvC.rg (by (simp only [go_sem]) <;> rfl) (by simp [room_eq, AV.norefs, AV.noref]; omega) ?_  -- R15
      refine EvC.rg (by (simp only [go_sem]) <;> rfl) hIi ?_  -- R9
      refine ⟨[(0, 0), (1, 1), (2, 2), (3, 3)], i + 1, rfl, ?_, by omega, by omega⟩
      (simp only [go_sem, hi0, List.range_succ, he, edgeC, List.length_map, List.length_range]) <;> rfl
    · have hp : ¬ (x.part = true ∧ x.v s i % 4 = 3) := by
        rintro ⟨h1, h2⟩
        simp [h1, h2] at hp
      have he : x.edge s i = (x.v s i / 4 % x.n, x.v s i / 4 / x.n % x.o) := if_neg hp
      have hq1 : 0 ≤ x.v s i / 4 := Int.ediv_nonneg hv.1 (by omega)
      have hq2 : 0 ≤ x.v s i / 4 / x.n := Int.ediv_nonneg hq1 (by omega)
      have hq3 : x.v s i / 4 ≤ 65536 := by omega
      have hq4 : x.v s i / 4 / x.n ≤ x.v s i / 4 := Int.ediv_le_self _ hq1
      have hIq1 : inI64 (x.v s i / 4) = true := inI64_of (by omega) (by omega)
      have hIq2 : inI64 (x.v s i / 4 / x.n) = true := inI64_of (by omega) (by omega)
      apply EvC.drd mixed  -- R16
      · (simp only [go_sem]) <;> rfl
      · simp [room_eq, AV.norefs, AV.noref, hv.1, hq1, hq2, hIq1, hIq2]; omega
      · kernel_rfl
      refine EvC.rg (by (simp only [go_sem]) <;> rfl) hIi ?_  -- R9
      refine ⟨[(0, 0), (1, 1), (2, 2), (3, 3)], i + 1, rfl, ?_, by omega, by omega⟩
      (simp only [go_sem, hi0, List.range_succ, he, edgeC, List.length_map, List.length_range]) <;> rfl
  · have hkl : ¬ s * x.i + i < x.es.length := by
      have : ¬ (s : Int) * x.i + i < x.es.length := by simpa using hc
      omega
    have hev : x.v s i = 0 := by
      unfold LM.v
      rw [List.getElem?_eq_none (by omega)]; rfl
    refine EvC.skip ?_
    rw [← hev]
    apply EvC.seq  -- R14
    apply EvC.trd
    · (simp only [go_sem, LM.cells]) <;> rfl
    · simp [hv.1]
    have hi0 : (i + 1 == 0) = false := rfl
    refine EvC.cond (by (simp only [go_sem]) <;> rfl) (fun hp => ?_) (fun hp => ?_)
    · have hp : x.part = true ∧ x.v s i % 4 = 3 := by
        by_cases h1 : x.part = true
        · simp [h1] at hp; exact ⟨h1, hp⟩
        · simp [h1] at hp
      have he : x.edge s i = (-1, -1) := if_pos hp
      refine EvC.rg (by (simp only [go_sem]) <;> rfl) (by simp [room_eq, AV.norefs, AV.noref]; omega) ?_  -- R15
      refine EvC.rg (by (simp only [go_sem]) <;> rfl) hIi ?_  -- R9
      refine ⟨[(0, 0), (1, 1), (2, 2), (3, 3)], i + 1, rfl, ?_, by omega, by omega⟩
      (simp only [go_sem, hi0, List.range_succ, he, edgeC, List.length_map, List.length_range]) <;> rfl
    · have hp : ¬ (x.part = true ∧ x.v s i % 4 = 3) := by
        rintro ⟨h1, h2⟩
        simp [h1, h2] at hp
      have he : x.edge s i = (x.v s i / 4 % x.n, x.v s i / 4 / x.n % x.o) := if_neg hp
      have hq1 : 0 ≤ x.v s i / 4 := Int.ediv_nonneg hv.1 (by omega)
      have hq2 : 0 ≤ x.v s i / 4 / x.n := Int.ediv_nonneg hq1 (by omega)
      have hq3 : x.v s i / 4 ≤ 65536 := by omega
      have hq4 : x.v s i / 4 / x.n ≤ x.v s i / 4 := Int.ediv_le_self _ hq1
      have hIq1 : inI64 (x.v s i / 4) = true := inI64_of (by omega) (by omega)
      have hIq2 : inI64 (x.v s i / 4 / x.n) = true := inI64_of (by omega) (by omega)
      apply EvC.drd mixed  -- R16
      · (simp only [go_sem]) <;> rfl
      · simp [room_eq, AV.norefs, AV.noref, hv.1, hq1, hq2, hIq1, hIq2]; omega
      · kernel_rfl
      refine EvC.rg (by (simp only [go_sem]) <;> rfl) hIi ?_  -- R9
      refine ⟨[(0, 0), (1, 1), (2, 2), (3, 3)], i + 1, rfl, ?_, by omega, by omega⟩
      (simp only [go_sem, hi0, List.range_succ, he, edgeC, List.length_map, List.length_range]) <;> rfl
end Go.Avl
namespace Go.Avl
open Go Go.Proofs.Try
set_option maxRecDepth 10000
set_option linter.unusedSimpArgs false

def fdiff : List Int → List Int → Int
  | x :: xs, y :: ys => if x < y then -1 else if y < x then 1 else fdiff xs ys
  | _, _ => 0
def cmpW (a b : List Int) : Int := if a.length < b.length then -1 else if b.length < a.length then 1 else fdiff a b
theorem fdiff_zero : ∀ {a b : List Int}, a.length = b.length → (fdiff a b = 0 ↔ a = b)
  | [], [], _ => by simp [fdiff]
  | x :: xs, y :: ys, h => by
    have := fdiff_zero (a := xs) (b := ys) (by simpa using h)
    unfold fdiff
    split
    · rename_i h1
      constructor
      · intro h; cases h
      · intro h; cases h; omega
    · split
      · constructor
        · intro h; cases h
        · intro h; cases h; omega
      · rw [this]
        have : x = y := by omega
        simp [this]
theorem cmpW_zero {a b : List Int} : cmpW a b = 0 ↔ a = b := by
  unfold cmpW
  split
  · rename_i h
    constructor
    · intro h; cases h
    · rintro rfl; omega
  · split
    · constructor
      · intro h; cases h
      · rintro rfl; omega
    · exact fdiff_zero (by omega)
theorem compare_is (na : Bool) (a : List Int) (ca : Cp) (nb : Bool) (b : List Int) (cb : Cp) (hl : a.length < 1000000) : PureIs prog 46 [.sl na (a.map intC) ca, .sl nb (b.map intC) cb] (.sc (.int .i64 (cmpW a b))) := by
  refine PureIs.of (nv := 2) (hid := [4, 5, 10, 15, 19, 30, 39]) func46 rfl (by kernel_rfl) (by simp [ntmps46]) fun _ => ?_
  rw [ntmps46, results46]
  refine EvC.seq (EvC.rg (by (simp only [go_sem]) <;> rfl) (by simp) ?_)
  refine EvC.seq ?_
  refine EvC.seq (EvC.rg (by (simp only [go_sem]) <;> rfl) (by simp) ?_)
  refine EvC.cond (by (simp only [go_sem]) <;> rfl) (fun hc => ?_) (fun hc => ?_)
  · have hc : a.length < b.length := by have : (a.length : Int) < b.length := by simpa using hc
                                        omega
    refine EvC.seq (EvC.rg (by (simp only [go_sem]) <;> rfl) (by simp) ?_)
    refine EvC.ret ⟨.inl rfl, _, (by (simp only [go_sem]) <;> rfl), ?_, rfl⟩
    simp only [go_sem]
    rw [cmpW, if_pos hc]
  have h1 : ¬ a.length < b.length := by have : ¬ (a.length : Int) < b.length := by simpa using hc
                                        omega
  clear hc
  refine EvC.skip ?_
  refine EvC.seq ?_
  refine EvC.seq (EvC.rg (by (simp only [go_sem]) <;> rfl) (by simp) ?_)
  refine EvC.cond (by (simp only [go_sem]) <;> rfl) (fun hc => ?_) (fun hc => ?_)
  · have hc : b.length < a.length := by have : (b.length : Int) < a.length := by simpa using hc
                                        omega
    refine EvC.seq (EvC.rg (by (simp only [go_sem]) <;> rfl) (by simp) ?_)
    refine EvC.ret ⟨.inl rfl, _, (by (simp only [go_sem]) <;> rfl), ?_, rfl⟩
    simp only [go_sem]
    rw [cmpW, if_neg h1, if_pos hc]
  have h2 : ¬ b.length < a.length := by have : ¬ (b.length : Int) < a.length := by simpa using hc
                                        omega
  clear hc
  have hw : cmpW a b = fdiff a b := by rw [cmpW, if_neg h1, if_neg h2]
  refine EvC.skip ?_
  refine EvC.seq ?_
  refine EvC.seq (EvC.rg (by (simp only [go_sem]) <;> rfl) (by simp) ?_)
  refine EvC.block ?_  -- 0
  refine EvC.loopS (σ := Nat) (fun i => ⟨[(0, .sl na (a.map intC) ca), (1, .sl nb (b.map intC) cb), (5, .sc (.int .i64 i))], [], [], 0⟩) (fun i => a.length - i) (fun i => i ≤ a.length ∧ fdiff a b = fdiff (a.drop i) (b.drop i)) [0, 1, 5] 0 ?_ ?_
  · refine ⟨[], 0, rfl, (by (simp only [go_sem]) <;> rfl), Nat.zero_le _, by simp⟩
  rintro i ⟨hi, h3⟩
  refine EvC.seq ?_
  refine EvC.seq (EvC.rg (by (simp only [go_sem]) <;> rfl) (by simp) ?_)
  refine EvC.cond (by (simp only [go_sem]) <;> rfl) (fun hc => ?_) (fun hc => ?_)
  rotate_left
  · refine EvC.exit ?_  -- 0
    have hi : ¬ i < a.length := by simpa using hc
    refine EvC.seq (EvC.rg (by (simp only [go_sem]) <;> rfl) (by simp) ?_)
    refine EvC.ret ⟨.inl rfl, _, (by (simp only [go_sem]) <;> rfl), ?_, rfl⟩
    simp only [go_sem]
    rw [hw, h3, List.drop_of_length_le (by omega)]; rfl
  have hi : i < a.length := by simpa using hc
  have hi2 : i < b.length := by omega
  have ha : a[i]? = some a[i] := List.getElem?_eq_getElem hi
  have hb : b[i]? = some b[i] := List.getElem?_eq_getElem hi2
  have hda : a.drop i = a[i] :: a.drop (i + 1) := List.drop_eq_getElem_cons hi
  have hdb : b.drop i = b[i] :: b.drop (i + 1) := List.drop_eq_getElem_cons hi2
  generalize a[i] = x at ha hda
  generalize b[i] = y at hb hdb
  refine EvC.skip ?_
  refine EvC.seq ?_
  refine EvC.block ?_  -- 1
  refine EvC.seq ?_
  apply EvC.seq
  apply EvC.drd mixed
  · (simp only [go_sem, ha, hb, intC]) <;> rfl
  · simp
  · kernel_rfl
  refine EvC.cond (by (simp only [go_sem]) <;> rfl) (fun hc => ?_) (fun hc => ?_)
  · have hc : x < y := by simpa using hc
    refine EvC.seq (EvC.rg (by (simp only [go_sem]) <;> rfl) (by simp) ?_)
    refine EvC.ret ⟨.inl rfl, _, (by (simp only [go_sem]) <;> rfl), ?_, rfl⟩
    simp only [go_sem]
    rw [hw, h3, hda, hdb, fdiff, if_pos hc]
  have hc1 : ¬ x < y := by simpa using hc
  refine EvC.skip ?_
  apply EvC.seq
  apply EvC.drd mixed
  · (simp only [go_sem, ha, hb, intC]) <;> rfl
  · simp
  · kernel_rfl
  refine EvC.cond (by (simp only [go_sem]) <;> rfl) (fun hc => ?_) (fun hc => ?_)
  · have hc : y < x := by simpa using hc
    refine EvC.seq (EvC.rg (by (simp only [go_sem]) <;> rfl) (by simp) ?_)
    refine EvC.ret ⟨.inl rfl, _, (by (simp only [go_sem]) <;> rfl), ?_, rfl⟩
    simp only [go_sem]
    rw [hw, h3, hda, hdb, fdiff, if_neg hc1, if_pos hc]
  have hc2 : ¬ y < x := by simpa using hc
  refine EvC.skip ?_
  refine EvC.rg (by (simp only [go_sem]) <;> rfl) (by exact inI64_of (by omega) (by omega)) ?_
  refine ⟨[], i + 1, rfl, (by (simp only [go_sem]) <;> rfl), ⟨by omega, ?_⟩, by omega⟩
  rw [h3, hda, hdb, fdiff, if_neg hc1, if_neg hc2]
theorem same_is (na : Bool) (a : List Int) (ca : Cp) (nb : Bool) (b : List Int) (cb : Cp) (hl : a.length < 1000000) : PureIs prog 19 [.sl na (a.map intC) ca, .sl nb (b.map intC) cb] (.sc (.bool (decide (a = b)))) := by
  refine PureIs.of (nv := 2) (hid := [4]) func19 rfl (by kernel_rfl) (by simp [ntmps19]) fun _ => ?_
  rw [ntmps19, results19]
  refine EvC.seq (EvC.rg (by (simp only [go_sem]) <;> rfl) (by simp) ?_)
  apply EvC.seq
  apply EvC.tr
  · apply Tr.run
    · (simp only [go_sem]) <;> rfl
    · simp
    apply Tr.cons
    · exact .call rfl rfl (by (simp only [go_sem]) <;> rfl) (by (simp only [go_sem]) <;> rfl) (by (simp only [go_sem]) <;> rfl) (by (simp only [go_sem]) <;> rfl) (by (simp only [go_sem]) <;> rfl) (compare_is na a ca nb b cb hl)
    apply Tr.done
    · (simp only [go_sem]) <;> rfl
    · simp
  refine EvC.ret ⟨.inl rfl, _, (by (simp only [go_sem]) <;> rfl), ?_, rfl⟩
  simp only [go_sem]
  simp [cmpW_zero]
end Go.Avl
namespace Go.Avl
open Go Go.Proofs.Try
set_option maxRecDepth 10000
set_option linter.unusedSimpArgs false

/-! ### Words by bytes -/
def u8C (x : Int) : List AV := [.sc (.int .u8 x)]
@[go_sem] theorem norefs_u8 (l : List Int) : (l.map u8C).all AV.norefs = true := by simp [List.all_eq_true, u8C, AV.norefs, AV.noref]
def wordOf (es : List Int) (n : Int) (most : Nat) : List Int := (es.take most).map (· % n)
theorem wordOf_len (es : List Int) (n : Int) (most : Nat) : (wordOf es n most).length ≤ most := by simp only [wordOf, List.length_map, List.length_take]; omega
theorem wordOf_in {es : List Int} {n : Int} {most : Nat} (hn : 1 ≤ n) : ∀ a ∈ wordOf es n most, 0 ≤ a ∧ a < n := fun a ha => by
  obtain ⟨x, _, rfl⟩ := List.mem_map.1 ha
  exact ⟨Int.emod_nonneg _ (by omega), Int.emod_lt_of_pos _ (by omega)⟩
theorem word60_is (nl : Bool) (es : List Int) (c : Cp) (n : Int) (most : Nat) (he : ∀ x ∈ es, 0 ≤ x ∧ x < 256) (hn : 1 ≤ n ∧ n ≤ 1000000) (hm : most < 1000) :
    PureIs prog 60 [.sl nl (es.map u8C) c, .sc (.int .i64 n), .sc (.int .i64 most)] (.sl (wordOf es n most).isEmpty ((wordOf es n most).map intC) .unk) := by
  refine PureIs.of (nv := 3) (hid := [6, 7, 8, 17]) func60 rfl (by kernel_rfl) (by simp [ntmps60]) fun _ => ?_
  rw [ntmps60, results60]
  refine EvC.seq (EvC.rg (by (simp only [go_sem]) <;> rfl) (by simp) ?_)
  refine EvC.seq (EvC.rg (by (simp only [go_sem]) <;> rfl) (by simp) ?_)
  refine EvC.seq ?_
  refine EvC.seq (EvC.rg (by (simp only [go_sem]) <;> rfl) (by simp) ?_)
  refine EvC.block ?_  -- 0
  refine EvC.loopS (σ := Nat) (fun i => ⟨[(0, .sl nl (es.map u8C) c), (1, .sc (.int .i64 n)), (2, .sc (.int .i64 most)), (7, .tl 0 (wordOf es n i).length (wordOf es n i).isEmpty), (8, .sc (.int .i64 i))], [], [(0, .arr 1 ((wordOf es n i).map intC) true)], 1⟩) (fun i => most - i) (fun i => i ≤ most ∧ i ≤ es.length) [0, 1, 2, 7, 8] 1 ?_ ?_
  · exact ⟨[(1, 0)], 0, rfl, (by (simp only [go_sem, Int.natCast_zero, wordOf, List.take_zero, List.map_nil, List.length_nil, List.isEmpty_nil]) <;> rfl), Nat.zero_le _, Nat.zero_le _⟩
  rintro i ⟨hi, hi2⟩
  refine EvC.seq ?_
  by_cases hend : i < es.length ∧ i < most
  rotate_left
  · -- else
    have hcond : decide ((i : Int) < es.length) = false ∨ (decide ((i : Int) < es.length) = true ∧ decide ((i : Int) < most) = false) := by
      by_cases h : i < es.length
      · exact .inr ⟨decide_eq_true (by omega), decide_eq_false (by omega)⟩
      · exact .inl (decide_eq_false (by omega))
    have htk : wordOf es n most = wordOf es n i := by
      unfold wordOf
      congr 1
      rcases Nat.lt_or_ge i es.length with h | h
      · rw [show most = i by omega]
      · rw [List.take_of_length_le (by omega), List.take_of_length_le (by omega)]
    rw [htk]
    generalize wordOf es n i = L
    rcases hcond with h | ⟨h, h'⟩
    · apply EvC.seq
      apply EvC.trd
      · (simp only [go_sem, List.length_map, h]) <;> rfl
      · simp
      refine EvC.cond_false (by (simp only [go_sem]) <;> rfl) ?_
      refine EvC.exit ?_  -- 0
      refine EvC.frz 0 (by (simp only [go_sem, List.length_map]) <;> rfl) ?_
      refine EvC.seq (EvC.rg (by (simp only [go_sem, List.length_map]) <;> rfl) (by simp) ?_)
      refine EvC.ret ⟨.inl rfl, _, (by (simp only [go_sem]) <;> rfl), ?_, rfl⟩
      simp only [go_sem]
    · apply EvC.seq
      apply EvC.trd
      · (simp only [go_sem, List.length_map, h, h']) <;> rfl
      · simp
      refine EvC.cond_false (by (simp only [go_sem]) <;> rfl) ?_
      refine EvC.exit ?_  -- 0
      refine EvC.frz 0 (by (simp only [go_sem, List.length_map]) <;> rfl) ?_
      refine EvC.seq (EvC.rg (by (simp only [go_sem, List.length_map]) <;> rfl) (by simp) ?_)
      refine EvC.ret ⟨.inl rfl, _, (by (simp only [go_sem]) <;> rfl), ?_, rfl⟩
      simp only [go_sem]
  obtain ⟨h1, h2⟩ := hend
  have d1 : decide ((i : Int) < es.length) = true := decide_eq_true (by omega)
  have d2 : decide ((i : Int) < most) = true := decide_eq_true (by omega)
  apply EvC.seq
  apply EvC.trd
  · (simp only [go_sem, List.length_map, d1, d2]) <;> rfl
  · simp
  refine EvC.cond_true (by (simp only [go_sem]) <;> rfl) ?_
  refine EvC.skip ?_
  refine EvC.seq ?_
  refine EvC.block ?_  -- 1
  have hx : es[i]? = some (es[i]'h1) := List.getElem?_eq_getElem h1
  have hb := he _ (List.getElem_mem h1)
  have hnext : wordOf es n (i + 1) = wordOf es n i ++ [(es[i]'h1) % n] := by
    unfold wordOf
    rw [List.take_succ_eq_append_getElem h1, List.map_append]; rfl
  have hli := wordOf_len es n i
  generalize es[i]'h1 = x at hx hb hnext
  generalize wordOf es n i = T at hnext hli
  have hin : (i : Int).toNat = i := Int.toNat_natCast i
  have hsn : T.map intC ++ [[.sc (.int .i64 (x % n))]] = (T ++ [x % n]).map intC := by simp [intC]
  have hsl : T.length + 1 = (T ++ [x % n]).length := by simp
  have hse : (T ++ [x % n]).isEmpty = false := by simp
  have hr2 : room (T.length + 1) 8 = true := by simp only [room_eq, decide_eq_true_eq]; omega
  rw [hsl] at hr2
  rw [← hnext] at hsn hsl hse hr2
  generalize hT' : wordOf es n (i + 1) = T' at hsn hsl hse hr2
  refine EvC.rg (by (simp only [go_sem, hx, u8C, hin, hsn, hsl, List.length_map]) <;> rfl) (by simp [hr2, hb.1, inI64_of (x := x) (by omega) (by omega)]; try omega) ?_
  refine EvC.rg (by (simp only [go_sem]) <;> rfl) (by exact inI64_of (by omega) (by omega)) ?_
  exact ⟨[(0, 0)], i + 1, rfl, (by rw [hT']; (simp only [go_sem, hse, Int.natCast_add, Int.natCast_one]) <;> rfl), ⟨by omega, by omega⟩, by omega⟩
theorem LM.valid {x : LM} (h : x.Ok) : Valid x.mach := by
  obtain ⟨b1, b2, b3, b4, b5, b6, -, -⟩ := LM.bounds h
  have hl : x.mach.rows.length = x.n := by simp [LM.mach]
  refine ⟨⟨by show (1 : Int) ≤ x.i; omega, by show (x.i : Int) ≤ 16; omega⟩, ⟨b5, by show x.o ≤ 16; omega⟩, by rw [hl]; omega, fun r hr => ?_⟩
  rw [hl]
  simp only [LM.mach, List.mem_map, List.mem_range] at hr ⊢
  obtain ⟨s, hs, rfl⟩ := hr
  refine ⟨by simp [LM.row], fun e he => ?_⟩
  simp only [LM.row, List.mem_map, List.mem_range] at he
  obtain ⟨i, hi, rfl⟩ := he
  obtain ⟨v1, v2⟩ := LM.v_ok h s i
  unfold LM.edge
  split
  · simp [fitsR]
  · have h1 := Int.emod_nonneg (x.v s i / 4) (b := x.n) (by omega)
    have h2 := Int.emod_lt_of_pos (x.v s i / 4) (b := x.n) (by omega)
    have h3 := Int.emod_nonneg (x.v s i / 4 / x.n) (b := x.o) (by omega)
    have h4 := Int.emod_lt_of_pos (x.v s i / 4 / x.n) (b := x.o) (by omega)
    simp [fitsR, h1, h2, h3, h4]
/-- Words by bytes, the first k of them. -/
def wbR (x : Bool × List Int) : List AV := [.sl x.1 (x.2.map u8C) .unk]
def wordsTo (ws : List (Bool × List Int)) (n : Int) (most k : Nat) : List (List Int) := (ws.take k).map fun x => wordOf x.2 n most
theorem wordsTo_len (ws : List (Bool × List Int)) (n : Int) (most k : Nat) : (wordsTo ws n most k).length ≤ k := by simp only [wordsTo, List.length_map, List.length_take]; omega
theorem wordsTo_mem {ws : List (Bool × List Int)} {n : Int} {most k : Nat} (hn : 1 ≤ n) {w : List Int} (hw : w ∈ wordsTo ws n most k) : w.length ≤ most ∧ ∀ a ∈ w, 0 ≤ a ∧ a < n := by
  obtain ⟨x, _, rfl⟩ := List.mem_map.1 hw
  exact ⟨wordOf_len _ _ _, wordOf_in hn⟩
end Go.Avl
namespace Go.Avl
open Go Go.Proofs.Try
set_option maxRecDepth 10000
set_option linter.unusedSimpArgs false

/-! ### Logs: the runs of a machine -/
structure TR where
  w : List Int
  r : List Int
def traceC (t : TR) : List AV := [.sl t.w.isEmpty (t.w.map intC) .unk, .sl t.r.isEmpty (t.r.map intC) .unk]
@[go_sem] theorem norefs_traces (l : List TR) : (l.map traceC).all AV.norefs = true := by simp [List.all_eq_true, traceC, AV.norefs, AV.noref]
@[go_sem] theorem norefs_wbR (l : List (Bool × List Int)) : (l.map wbR).all AV.norefs = true := by simp [List.all_eq_true, wbR, AV.norefs, AV.noref]
structure LG where
  m : LM
  wn : Bool
  ws : List (Bool × List Int)
  wc : Cp
  at' : Int
  step : Int
  by' : Int
def LG.cells (g : LG) : List AV := [.sc (.int .u8 g.m.st), .sc (.int .u8 g.m.ins), .sc (.int .u8 g.m.outs), .sc (.bool g.m.part), .sl g.m.nl (g.m.es.map u16C) g.m.cap, .sl g.wn (g.ws.map wbR) g.wc, .sc (.int .u8 g.at'), .sc (.int .u8 g.step), .sc (.int .u8 g.by')]
structure LG.Ok (g : LG) : Prop where
  m : g.m.Ok
  ws : ∀ y ∈ g.ws, ∀ e ∈ y.2, 0 ≤ e ∧ e < 256
  at' : 0 ≤ g.at' ∧ g.at' < 256
  step : 0 ≤ g.step ∧ g.step < 256
  by' : 0 ≤ g.by' ∧ g.by' < 256
def runT (m : Mach) (x : Bool × List Int) : TR := ⟨wordOf x.2 m.ins 10, runR m 0 (wordOf x.2 m.ins 10)⟩
def runsTo (m : Mach) (ws : List (Bool × List Int)) (k : Nat) : List TR := (ws.take k).map (runT m)
theorem runsTo_len (m : Mach) (ws : List (Bool × List Int)) (k : Nat) : (runsTo m ws k).length ≤ k := by simp only [runsTo, List.length_map, List.length_take]; omega
def LG.runs (g : LG) : List TR := runsTo g.m.mach g.ws 12

set_option maxHeartbeats 4000000 in
theorem runs26_is {g : LG} (hg : g.Ok) : PureIs prog 26 [.ag g.cells] (.ag [.sc (.int .i64 g.m.mach.ins), .sc (.int .i64 g.m.mach.outs), .sl g.runs.isEmpty (g.runs.map traceC) .unk]) := by
  have hx := hg.m
  have va := LM.valid hx
  have hw := hg.ws
  obtain ⟨x, wn, ws, wc, at', step, by'⟩ := g
  obtain ⟨m, hm⟩ : ∃ m, m = x.mach := ⟨_, rfl⟩
  simp only at hx va hw ⊢
  unfold LG.runs
  simp only
  rw [← hm] at va ⊢
  have hA : PureIs prog 28 [.ag [.sc (.int .u8 x.st), .sc (.int .u8 x.ins), .sc (.int .u8 x.outs), .sc (.bool x.part), .sl x.nl (x.es.map u16C) x.cap]] (.ag [.sc (.int .i64 m.ins), .sc (.int .i64 m.outs), .sl m.nl (m.rows.map rowC) .unk]) := by
    have := mOf_is hx; rw [← hm] at this; exact this
  have hmr := va.rows
  have hmi := va.ins
  refine PureIs.of (nv := 1) (hid := [1, 2, 3, 4, 5, 6, 23]) func26 rfl (by kernel_rfl) (by simp [ntmps26]) fun _ => ?_
  rw [ntmps26, results26]
  refine EvC.seq (EvC.rg (by (simp only [go_sem, LG.cells]) <;> rfl) (by simp) ?_)
  refine EvC.frzB 0 (by (simp only [go_sem]) <;> rfl) ?_
  apply EvC.seq
  apply EvC.tr
  · apply Tr.run
    · (simp only [go_sem]) <;> rfl
    · simp
    apply Tr.cons
    · exact .call rfl rfl (by (simp only [go_sem]) <;> rfl) (by (simp only [go_sem]) <;> rfl) (by (simp only [go_sem]) <;> rfl) (by (simp only [go_sem]) <;> rfl) (by (simp only [go_sem]) <;> rfl) (hA)
    apply Tr.done
    · (simp only [go_sem]) <;> rfl
    · simp
  refine EvC.frzB 5 (by (simp only [go_sem]) <;> rfl) ?_
  refine EvC.seq (EvC.rg (by (simp only [go_sem]) <;> rfl) (by simp) ?_)
  refine EvC.seq ?_
  refine EvC.seq (EvC.rg (by (simp only [go_sem]) <;> rfl) (by simp) ?_)
  refine EvC.ownC 12 2 2 (by (simp only [go_sem]) <;> rfl) ?_
  refine EvC.block ?_  -- 0
  refine EvC.loopS (σ := Nat) (fun i => ⟨[(1, .ia (LG.cells ⟨x, wn, ws, wc, at', step, by'⟩)), (2, .rf 1 0), (3, .ia m.cells), (4, .rf 0 0), (5, .sc (.int .i64 i))], [], [(0, .cells [.sc (.int .i64 m.ins), .sc (.int .i64 m.outs), .tl 2 (runsTo m ws i).length (runsTo m ws i).isEmpty]), (2, .arr 2 ((runsTo m ws i).map traceC) true), (1, .cells [.sc (.int .i64 0), .sc (.int .i64 0), .sl true [] .zer])], 3⟩) (fun i => ws.length - i) (fun i => i ≤ ws.length ∧ i ≤ 12) [1, 2, 3, 4, 5] 3 ?_ ?_
  · exact ⟨[(12, 0), (15, 2), (1, 1)], 0, rfl, (by (simp only [go_sem, Int.natCast_zero, runsTo, List.take_zero, List.map_nil, List.length_nil, List.isEmpty_nil, Mach.cells, LG.cells]) <;> rfl), Nat.zero_le _, Nat.zero_le _⟩
  rintro i ⟨h1, h2⟩
  refine EvC.seq ?_
  by_cases hend : i < ws.length ∧ i < 12
  rotate_left
  · -- else
    have hcf : (if decide ((i : Int) < ws.length) = true then decide ((i : Int) < 12) else false) = false := by
      by_cases h : i < ws.length
      · rw [decide_eq_true (show (i : Int) < ws.length by omega), if_pos rfl]; exact decide_eq_false (by omega)
      · rw [decide_eq_false (show ¬ (i : Int) < ws.length by omega)]; rfl
    have htk : runsTo m ws 12 = runsTo m ws i := by
      unfold runsTo
      congr 1
      rcases Nat.lt_or_ge i ws.length with h | h
      · rw [show i = 12 by omega]
      · rw [List.take_of_length_le h, List.take_of_length_le (by omega)]
    rw [htk]
    have hl := runsTo_len m ws i
    generalize runsTo m ws i = L at hl
    apply EvC.seq
    apply EvC.trd
    · (simp only [go_sem, LG.cells, List.length_map]) <;> rfl
    · simp
    refine EvC.cond_false (by (simp only [go_sem, hcf]) <;> rfl) ?_
    refine EvC.exit ?_  -- 0
    refine EvC.frzD 2 (by (simp only [go_sem, List.length_map]) <;> rfl) ?_
    refine EvC.seq (EvC.rg (by (simp only [go_sem, List.length_map]) <;> rfl) (by simp) ?_)
    refine EvC.ret ⟨.inl rfl, _, (by (simp only [go_sem]) <;> rfl), ?_, rfl⟩
    simp only [go_sem]
  obtain ⟨e1, e2⟩ := hend
  have d1 : decide ((i : Int) < ws.length) = true := decide_eq_true (by omega)
  have d2 : decide ((i : Int) < 12) = true := decide_eq_true (by omega)
  apply EvC.seq
  apply EvC.trd
  · (simp only [go_sem, LG.cells, List.length_map, d1, d2]) <;> rfl
  · simp
  refine EvC.cond_true (by (simp only [go_sem]) <;> rfl) ?_
  refine EvC.skip ?_
  refine EvC.seq ?_
  refine EvC.block ?_  -- 1
  have hxw : ws[i]? = some (ws[i]'e1) := List.getElem?_eq_getElem e1
  have hb := hw _ (List.getElem_mem e1)
  have hnext : runsTo m ws (i + 1) = runsTo m ws i ++ [runT m (ws[i]'e1)] := by
    unfold runsTo
    rw [List.take_succ_eq_append_getElem e1, List.map_append]; rfl
  have hl := runsTo_len m ws i
  generalize ws[i]'e1 = y at hxw hb hnext
  generalize runsTo m ws i = T at hnext hl
  have hin : (i : Int).toNat = i := Int.toNat_natCast i
  have hW := word60_is y.1 y.2 .unk m.ins 10 hb ⟨hmi.1, by omega⟩ (by decide)
  have hwl := wordOf_len y.2 m.ins 10
  have hwi := fun a ha => wordOf_in (es := y.2) (most := 10) hmi.1 (a := a) ha
  have hR := run04_is va 0 (by omega) (wordOf y.2 m.ins 10).isEmpty (wordOf y.2 m.ins 10) .unk hwi (by omega)
  rw [show runT m y = ⟨wordOf y.2 m.ins 10, runR m 0 (wordOf y.2 m.ins 10)⟩ from rfl] at hnext
  generalize wordOf y.2 m.ins 10 = w at hW hR hnext hwl
  generalize runR m 0 w = r at hR hnext
  apply EvC.seq
  apply EvC.drw mixed
  · apply Tr.run
    · (simp only [go_sem, LG.cells, Mach.cells, hxw, wbR, hin, List.length_map]) <;> rfl
    · simp
    apply Tr.cons
    · exact .call rfl rfl (by (simp only [go_sem]) <;> rfl) (by (simp only [go_sem]) <;> rfl) (by (simp only [go_sem]) <;> rfl) (by (simp only [go_sem]) <;> rfl) (by (simp only [go_sem]) <;> rfl) (hW)
    apply Tr.done
    · (simp only [go_sem]) <;> rfl
    · simp
  · kernel_rfl
  have hsn : T.map traceC ++ [traceC ⟨w, r⟩] = (T ++ [(⟨w, r⟩ : TR)]).map traceC := by simp
  have hsl : T.length + 1 = (T ++ [(⟨w, r⟩ : TR)]).length := by simp
  have hse : (T ++ [(⟨w, r⟩ : TR)]).isEmpty = false := by simp
  have hr2 : room (T.length + 1) 48 = true := by simp only [room_eq, decide_eq_true_eq]; omega
  rw [hsl] at hr2
  rw [← hnext] at hsn hsl hse hr2
  generalize hT' : runsTo m ws (i + 1) = T' at hsn hsl hse hr2
  rw [traceC] at hsn
  apply EvC.drw mixed
  · apply Tr.run
    · (simp only [go_sem, Mach.cells, hsn, hsl, List.length_map]) <;> rfl
    · simp
    apply Tr.cons
    · exact .call rfl rfl (by (simp only [go_sem]) <;> rfl) (by (simp only [go_sem]) <;> rfl) (by (simp only [go_sem]) <;> rfl) (by (simp only [go_sem]) <;> rfl) (by (simp only [go_sem]) <;> rfl) (hR)
    apply Tr.done
    · (simp only [go_sem, Mach.cells, hsn, hsl, List.length_map]) <;> rfl
    · simp [hr2]
  · kernel_rfl
  refine EvC.rg (by (simp only [go_sem]) <;> rfl) (by exact inI64_of (by omega) (by omega)) ?_
  exact ⟨[(0, 0), (2, 2), (1, 1)], i + 1, rfl, (by rw [hT']; (simp only [go_sem, hse, Int.natCast_add, Int.natCast_one, Mach.cells, LG.cells]) <;> rfl), ⟨by omega, by omega⟩, by omega⟩
set_option maxHeartbeats 4000000 in
theorem runs26_body {g : LG} (hg : g.Ok) {R : AV → Mem → Nat → Prop}
    (hR0 : R (.ag [.sc (.int .i64 g.m.mach.ins), .sc (.int .i64 g.m.mach.outs), .tl 3 g.runs.length g.runs.isEmpty]) [(1, .cells [.sc (.int .i64 g.m.mach.ins), .sc (.int .i64 g.m.mach.outs), .tl 3 g.runs.length g.runs.isEmpty]), (0, .cells [.sc (.int .i64 0), .sc (.int .i64 0), .sl true [] .zer]), (3, .arr 2 (g.runs.map traceC) false)] 4) :
    BodyIs prog 26 [.ag g.cells] [(0, .cells [.sc (.int .i64 0), .sc (.int .i64 0), .sl true [] .zer])] 1 R := by
  have hx := hg.m
  have va := LM.valid hx
  have hw := hg.ws
  obtain ⟨x, wn, ws, wc, at', step, by'⟩ := g
  obtain ⟨m, hm⟩ : ∃ m, m = x.mach := ⟨_, rfl⟩
  simp only at hx va hw ⊢
  unfold LG.runs at hR0
  simp only at hR0
  rw [← hm] at va hR0
  have hA : PureIs prog 28 [.ag [.sc (.int .u8 x.st), .sc (.int .u8 x.ins), .sc (.int .u8 x.outs), .sc (.bool x.part), .sl x.nl (x.es.map u16C) x.cap]] (.ag [.sc (.int .i64 m.ins), .sc (.int .i64 m.outs), .sl m.nl (m.rows.map rowC) .unk]) := by
    have := mOf_is hx; rw [← hm] at this; exact this
  have hmr := va.rows
  have hmi := va.ins
  refine BodyIs.of (nv := 1) (hid := [1, 2, 3, 4, 5, 6, 23]) func26 rfl (by kernel_rfl) (by simp [ntmps26]) fun h0 => ?_
  rw [ntmps26, results26]
  refine EvC.seq (EvC.rg (by (simp only [go_sem, LG.cells]) <;> rfl) (by simp) ?_)
  refine EvC.frzB 1 (by (simp only [go_sem]) <;> rfl) ?_
  apply EvC.seq
  apply EvC.tr
  · apply Tr.run
    · (simp only [go_sem]) <;> rfl
    · simp
    apply Tr.cons
    · exact .call rfl rfl (by (simp only [go_sem]) <;> rfl) (by (simp only [go_sem]) <;> rfl) (by (simp only [go_sem]) <;> rfl) (by (simp only [go_sem]) <;> rfl) (by (simp only [go_sem]) <;> rfl) (hA)
    apply Tr.done
    · (simp only [go_sem]) <;> rfl
    · simp
  refine EvC.frzB 6 (by (simp only [go_sem]) <;> rfl) ?_
  refine EvC.seq (EvC.rg (by (simp only [go_sem]) <;> rfl) (by simp) ?_)
  refine EvC.seq ?_
  refine EvC.seq (EvC.rg (by (simp only [go_sem]) <;> rfl) (by simp) ?_)
  refine EvC.ownC 13 2 2 (by (simp only [go_sem]) <;> rfl) ?_
  refine EvC.thaw 16 (by (simp only [go_sem]) <;> rfl) ?_
  refine EvC.block ?_  -- 0
  refine EvC.loopS (σ := Nat) (fun i => ⟨[(1, .ia (LG.cells ⟨x, wn, ws, wc, at', step, by'⟩)), (2, .rf 1 0), (3, .ia m.cells), (4, .rf 2 0), (5, .sc (.int .i64 i))], [], [(2, .cells [.sc (.int .i64 m.ins), .sc (.int .i64 m.outs), .tl 3 (runsTo m ws i).length (runsTo m ws i).isEmpty]), (3, .arr 2 ((runsTo m ws i).map traceC) false), (1, .cells [.sc (.int .i64 0), .sc (.int .i64 0), .sl true [] .zer]), (0, .cells [.sc (.int .i64 0), .sc (.int .i64 0), .sl true [] .zer])], 4⟩) (fun i => ws.length - i) (fun i => i ≤ ws.length ∧ i ≤ 12) [1, 2, 3, 4, 5] 4 ?_ ?_
  · exact ⟨[(13, 2), (16, 3), (2, 1), (0, 0)], 0, rfl, (by (simp only [go_sem, Int.natCast_zero, runsTo, List.take_zero, List.map_nil, List.length_nil, List.isEmpty_nil, Mach.cells, LG.cells]) <;> rfl), Nat.zero_le _, Nat.zero_le _⟩
  rintro i ⟨h1, h2⟩
  refine EvC.seq ?_
  by_cases hend : i < ws.length ∧ i < 12
  rotate_left
  · -- else
    have hcf : (if decide ((i : Int) < ws.length) = true then decide ((i : Int) < 12) else false) = false := by
      by_cases h : i < ws.length
      · rw [decide_eq_true (show (i : Int) < ws.length by omega), if_pos rfl]; exact decide_eq_false (by omega)
      · rw [decide_eq_false (show ¬ (i : Int) < ws.length by omega)]; rfl
    have htk : runsTo m ws 12 = runsTo m ws i := by
      unfold runsTo
      congr 1
      rcases Nat.lt_or_ge i ws.length with h | h
      · rw [show i = 12 by omega]
      · rw [List.take_of_length_le h, List.take_of_length_le (by omega)]
    rw [htk] at hR0
    have hl := runsTo_len m ws i
    generalize runsTo m ws i = L at hl hR0
    apply EvC.seq
    apply EvC.trd
    · (simp only [go_sem, LG.cells, List.length_map]) <;> rfl
    · simp
    refine EvC.cond_false (by (simp only [go_sem, hcf]) <;> rfl) ?_
    refine EvC.exit ?_  -- 0
    refine EvC.seq (EvC.rg (by (simp only [go_sem, List.length_map]) <;> rfl) (by simp) ?_)
    refine EvC.gc [2] [(1, 1), (0, 0), (3, 3)] 4 rfl ?_
    refine EvC.ret ⟨.inl rfl, _, (by (simp only [go_sem]) <;> rfl), ?_⟩
    simp only [go_sem, List.length_map]
    exact hR0
  obtain ⟨e1, e2⟩ := hend
  have d1 : decide ((i : Int) < ws.length) = true := decide_eq_true (by omega)
  have d2 : decide ((i : Int) < 12) = true := decide_eq_true (by omega)
  apply EvC.seq
  apply EvC.trd
  · (simp only [go_sem, LG.cells, List.length_map, d1, d2]) <;> rfl
  · simp
  refine EvC.cond_true (by (simp only [go_sem]) <;> rfl) ?_
  refine EvC.skip ?_
  refine EvC.seq ?_
  refine EvC.block ?_  -- 1
  have hxw : ws[i]? = some (ws[i]'e1) := List.getElem?_eq_getElem e1
  have hb := hw _ (List.getElem_mem e1)
  have hnext : runsTo m ws (i + 1) = runsTo m ws i ++ [runT m (ws[i]'e1)] := by
    unfold runsTo
    rw [List.take_succ_eq_append_getElem e1, List.map_append]; rfl
  have hl := runsTo_len m ws i
  generalize ws[i]'e1 = y at hxw hb hnext
  generalize runsTo m ws i = T at hnext hl
  have hin : (i : Int).toNat = i := Int.toNat_natCast i
  have hW := word60_is y.1 y.2 .unk m.ins 10 hb ⟨hmi.1, by omega⟩ (by decide)
  have hwl := wordOf_len y.2 m.ins 10
  have hwi := fun a ha => wordOf_in (es := y.2) (most := 10) hmi.1 (a := a) ha
  have hR := run04_is va 0 (by omega) (wordOf y.2 m.ins 10).isEmpty (wordOf y.2 m.ins 10) .unk hwi (by omega)
  rw [show runT m y = ⟨wordOf y.2 m.ins 10, runR m 0 (wordOf y.2 m.ins 10)⟩ from rfl] at hnext
  generalize wordOf y.2 m.ins 10 = w at hW hR hnext hwl
  generalize runR m 0 w = r at hR hnext
  apply EvC.seq
  apply EvC.drw mixed
  · apply Tr.run
    · (simp only [go_sem, LG.cells, Mach.cells, hxw, wbR, hin, List.length_map]) <;> rfl
    · simp
    apply Tr.cons
    · exact .call rfl rfl (by (simp only [go_sem]) <;> rfl) (by (simp only [go_sem]) <;> rfl) (by (simp only [go_sem]) <;> rfl) (by (simp only [go_sem]) <;> rfl) (by (simp only [go_sem]) <;> rfl) (hW)
    apply Tr.done
    · (simp only [go_sem]) <;> rfl
    · simp
  · kernel_rfl
  have hsn : T.map traceC ++ [traceC ⟨w, r⟩] = (T ++ [(⟨w, r⟩ : TR)]).map traceC := by simp
  have hsl : T.length + 1 = (T ++ [(⟨w, r⟩ : TR)]).length := by simp
  have hse : (T ++ [(⟨w, r⟩ : TR)]).isEmpty = false := by simp
  have hr2 : room (T.length + 1) 48 = true := by simp only [room_eq, decide_eq_true_eq]; omega
  rw [hsl] at hr2
  rw [← hnext] at hsn hsl hse hr2
  generalize hT' : runsTo m ws (i + 1) = T' at hsn hsl hse hr2
  rw [traceC] at hsn
  apply EvC.drw mixed
  · apply Tr.run
    · (simp only [go_sem, Mach.cells, hsn, hsl, List.length_map]) <;> rfl
    · simp
    apply Tr.cons
    · exact .call rfl rfl (by (simp only [go_sem]) <;> rfl) (by (simp only [go_sem]) <;> rfl) (by (simp only [go_sem]) <;> rfl) (by (simp only [go_sem]) <;> rfl) (by (simp only [go_sem]) <;> rfl) (hR)
    apply Tr.done
    · (simp only [go_sem, Mach.cells, hsn, hsl, List.length_map]) <;> rfl
    · simp [hr2]
  · kernel_rfl
  refine EvC.rg (by (simp only [go_sem]) <;> rfl) (by exact inI64_of (by omega) (by omega)) ?_
  exact ⟨[(2, 2), (3, 3), (1, 1), (0, 0)], i + 1, rfl, (by rw [hT']; (simp only [go_sem, hse, Int.natCast_add, Int.natCast_one, Mach.cells, LG.cells]) <;> rfl), ⟨by omega, by omega⟩, by omega⟩
end Go.Avl
namespace Go.Avl
open Go Go.Proofs.Try
set_option maxRecDepth 10000
set_option linter.unusedSimpArgs false

/-! ### Logs with a change -/
theorem runR_len (m : Mach) : ∀ (s : Int) (w : List Int), (runR m s w).length = w.length
  | _, [] => rfl
  | s, a :: w => by simp only [runR, List.length_cons]; rw [runR_len m _ w]
theorem fits_edge {n : Nat} {o : Int} {e : Int × Int} (h : fitsR n o e.1 e.2 = true) : (e.1 = -1 ∧ e.2 = -1) ∨ (0 ≤ e.1 ∧ e.1 < n ∧ 0 ≤ e.2 ∧ e.2 < o) := by
  simp only [fitsR, Bool.or_eq_true, Bool.and_eq_true, decide_eq_true_eq] at h
  rcases h with h | h
  · exact .inl h
  · exact .inr ⟨h.1.1.1, h.1.1.2, h.1.2, h.2⟩
theorem stepR_neg {m : Mach} {s a : Int} (hs : s < 0) : stepR m s a = (-1, -1) := by rw [stepR, if_pos hs]
theorem runR_out {m : Mach} (hv : Valid m) : ∀ (w : List Int) (s : Int), s < m.rows.length → (∀ x ∈ w, 0 ≤ x ∧ x < m.ins) → ∀ y ∈ runR m s w, -1 ≤ y ∧ y < m.outs
  | [], _, _, _, _, h => by cases h
  | x :: w, s, hs, hw, y, h => by
    have hx := hw x List.mem_cons_self
    simp only [runR, List.mem_cons] at h
    rcases h with rfl | h
    · have := hv.outs
      by_cases hn : s < 0
      · rw [stepR_neg hn]; simp only; omega
      · obtain ⟨r, e, k1, k2, k3, k4⟩ := stepR_get hv (by omega) hs hx
        have := fits_edge k4
        rw [k3]; omega
    · exact runR_out hv w _ (stepR_lt hv hs hx) (fun z hz => hw z (List.mem_cons_of_mem _ hz)) y h
def cutR (r : List Int) (k n : Nat) : List Int := r.take k ++ List.replicate (n - k) (-1) ++ r.drop n
theorem cutR_next {r : List Int} {k n : Nat} (h : n < r.length) (hk : k ≤ n) : cutR r k (n + 1) = (cutR r k n).set n (-1) := by
  unfold cutR
  rw [List.set_append_right _ _ (by simp; omega), show n + 1 - k = (n - k) + 1 by omega, List.replicate_succ']
  have e : n - (List.take k r ++ List.replicate (n - k) (-1)).length = 0 := by simp; omega
  rw [e]
  simp
  rw [List.drop_eq_getElem_cons h]; rfl
/-- The changed response. -/
def chR (by' outs : Int) (k : Nat) (r : List Int) : List Int :=
  if by' % 4 = 2 ∧ (r[k]?).getD 0 ≠ -1 then r.set k (((r[k]?).getD 0 + 1) % outs)
  else if by' % 4 = 3 then cutR r k r.length else r
def LG.log (g : LG) : List TR :=
  if g.runs.length = 0 ∨ g.by' % 4 < 2 then g.runs
  else match g.runs[(g.at' % g.runs.length).toNat]? with
    | none => g.runs
    | some t => if t.r.length = 0 then g.runs else g.runs.set (g.at' % g.runs.length).toNat ⟨t.w, chR g.by' g.m.mach.outs (g.step % t.r.length).toNat t.r⟩
def logA (i o : Int) (l : List TR) : AV := .ag [.sc (.int .i64 i), .sc (.int .i64 o), .sl l.isEmpty (l.map traceC) .unk]

set_option maxHeartbeats 4000000 in
theorem of12_is {g : LG} (hg : g.Ok) : PureIs prog 12 [.ag g.cells] (logA g.m.mach.ins g.m.mach.outs g.log) := by
  have hb := fun R => runs26_body (g := g) hg (R := R)
  have hrl : g.runs.length ≤ 12 := runsTo_len _ _ _
  have hby := hg.by'
  have hat := hg.at'
  have hst := hg.step
  have va := LM.valid hg.m
  have hmo := va.outs
  have hrr : ∀ t ∈ g.runs, t.r.length ≤ 10 ∧ ∀ x ∈ t.r, -1 ≤ x ∧ x < g.m.mach.outs := fun t ht => by
    obtain ⟨y, _, rfl⟩ := List.mem_map.1 ht
    rw [runT, runR_len]
    exact ⟨wordOf_len _ _ _, runR_out va _ 0 (by have := va.rows; omega) (wordOf_in va.ins.1)⟩
  unfold LG.log logA
  generalize g.runs = L at hb hrl hrr
  generalize g.m.mach = m at hb va hmo hrr
  obtain ⟨x, wn, ws, wc, at', step, by'⟩ := g
  simp only at hby hat hst ⊢
  refine PureIs.of (nv := 1) (hid := [1, 2, 3, 4, 5, 6, 7, 8, 19, 38, 56, 78]) func12 rfl (by kernel_rfl) (by simp [ntmps12]) fun _ => ?_
  rw [ntmps12, results12]
  refine EvC.seq (EvC.rg (by (simp only [go_sem, LG.cells]) <;> rfl) (by simp) ?_)
  refine EvC.frzB 0 (by (simp only [go_sem]) <;> rfl) ?_
  apply EvC.seq
  apply EvC.rs
  · (simp only [go_sem]) <;> rfl
  · simp
  refine XR.gcTo ⟨[(1, .ia (LG.cells ⟨x, wn, ws, wc, at', step, by'⟩)), (2, .rf 0 0), (8, .ag (LG.cells ⟨x, wn, ws, wc, at', step, by'⟩))], [], [(0, .cells [.sc (.int .i64 0), .sc (.int .i64 0), .sl true [] .zer])], 1⟩ [1, 2, 8] [(1, 0)] rfl (by (simp only [go_sem, LG.cells]) <;> rfl) ?_
  apply XR.callI rfl rfl (by (simp only [go_sem]) <;> rfl) (by (simp only [go_sem]) <;> rfl) (by (simp only [go_sem]) <;> rfl)
  refine hb _ ?_
  apply XR.done
  · (simp only [go_sem]) <;> rfl
  · simp
  refine EvC.seq ?_
  by_cases h1 : L.length = 0
  · have h1' : L = [] := List.length_eq_zero_iff.1 h1
    subst h1'
    apply EvC.seq
    apply EvC.trd
    · (simp only [go_sem, LG.cells, List.length_map, List.length_nil, Int.natCast_zero, List.map_nil]) <;> rfl
    · simp [hby.1]
    refine EvC.cond_true (by (simp only [go_sem]) <;> rfl) ?_
    refine EvC.frzD 3 (by (simp only [go_sem, List.length_map]) <;> rfl) ?_
    refine EvC.seq (EvC.rg (by (simp only [go_sem, List.length_map]) <;> rfl) (by simp) ?_)
    refine EvC.ret ⟨.inl rfl, _, (by (simp only [go_sem]) <;> rfl), ?_, rfl⟩
    simp only [go_sem]
  have d1 : decide ((L.length : Int) = 0) = false := decide_eq_false (by omega)
  by_cases h2 : by' % 4 < 2
  · have d2 := decide_eq_true h2
    rw [if_pos (.inr h2)]
    apply EvC.seq
    apply EvC.trd
    · (simp only [go_sem, LG.cells, List.length_map, d1, d2]) <;> rfl
    · simp [hby.1]
    refine EvC.cond_true (by (simp only [go_sem]) <;> rfl) ?_
    refine EvC.frzD 3 (by (simp only [go_sem, List.length_map]) <;> rfl) ?_
    refine EvC.seq (EvC.rg (by (simp only [go_sem, List.length_map]) <;> rfl) (by simp) ?_)
    refine EvC.ret ⟨.inl rfl, _, (by (simp only [go_sem]) <;> rfl), ?_, rfl⟩
    simp only [go_sem]
  have d2 := decide_eq_false h2
  rw [if_neg (by omega)]
  apply EvC.seq
  apply EvC.trd
  · (simp only [go_sem, LG.cells, List.length_map, d1, d2]) <;> rfl
  · simp [hby.1]
  refine EvC.cond_false (by (simp only [go_sem]) <;> rfl) ?_
  refine EvC.skip ?_
  have hA : (at' : Int) % (L.length : Int) = ((at' % (L.length : Int)).toNat : Int) := (Int.toNat_of_nonneg (Int.emod_nonneg _ (by omega))).symm
  have hal : (at' % (L.length : Int)).toNat < L.length := by
    have := Int.emod_lt_of_pos at' (b := (L.length : Int)) (by omega)
    omega
  rw [List.getElem?_eq_getElem hal]
  have hxa : L[(at' % (L.length : Int)).toNat]? = some (L[(at' % (L.length : Int)).toNat]'hal) := List.getElem?_eq_getElem hal
  obtain ⟨hta, htv⟩ := hrr _ (List.getElem_mem hal)
  generalize L[(at' % (L.length : Int)).toNat]'hal = t at hxa hta htv
  generalize (at' % (L.length : Int)).toNat = a at hA hal hxa
  simp only
  refine EvC.seq (EvC.rg (by (simp only [go_sem, LG.cells, List.length_map, hA]) <;> rfl) (by simp; exact ⟨inI64_of (by omega) (by omega), hat.1, by omega⟩) ?_)
  refine EvC.gc [1, 2, 3, 4] [(4, 4), (0, 0), (3, 3)] 5 rfl ?_
  have hin : (a : Int).toNat = a := Int.toNat_natCast a
  by_cases hr : t.r = []
  · rw [if_pos (by rw [hr]; rfl)]
    have ht0 : traceC t = [.sl t.w.isEmpty (t.w.map intC) .unk, .sl true [] .unk] := by rw [traceC, hr]; rfl
    have hxa' : (L.map traceC)[a]? = some [.sl t.w.isEmpty (t.w.map intC) .unk, .sl true [] .unk] := by rw [List.getElem?_map, hxa, ← ht0]; rfl
    apply EvC.seq
    apply EvC.tr  -- R5
    · apply Tr.cons
      · exact .op rfl (by (simp only [go_sem]) <;> rfl) (by (simp only [go_sem]) <;> rfl) rfl (by (simp only [go_sem]) <;> rfl)
      apply Tr.cons
      · exact .op rfl (by (simp only [go_sem]) <;> rfl) (by (simp only [go_sem]) <;> rfl) rfl (by (simp only [go_sem]) <;> rfl)
      apply Tr.cons
      · exact .op rfl (by (simp only [go_sem]) <;> rfl) (by (simp only [go_sem]) <;> rfl) rfl (by (simp only [go_sem]) <;> rfl)
      apply Tr.cons
      · exact .op rfl (by (simp only [go_sem]) <;> rfl) (by (simp only [go_sem]) <;> rfl) rfl (by (simp only [go_sem]) <;> rfl)
      apply Tr.cons
      · exact .op rfl (by (simp only [go_sem]) <;> rfl) (by (simp only [go_sem, List.length_map, hin]) <;> rfl) (by simp [hal]) (by (simp only [go_sem]) <;> rfl)
      apply Tr.cons
      · exact .op rfl (by (simp only [go_sem]) <;> rfl) (by (simp only [go_sem]) <;> rfl) rfl (by (simp only [go_sem]) <;> rfl)
      apply Tr.cons
      · exact .op rfl (by (simp only [go_sem]) <;> rfl) (by (simp only [go_sem, List.length_map, hxa', hin]) <;> rfl) rfl (by (simp only [go_sem]) <;> rfl)
      apply Tr.cons
      · exact .appZ rfl rfl (by (simp only [go_sem]) <;> rfl) (by (simp only [go_sem]) <;> rfl) (by (simp only [go_sem]) <;> rfl) (by (simp only [go_sem]) <;> rfl) (by (simp only [go_sem]) <;> rfl) (by (simp only [go_sem]) <;> rfl) (by (simp only [go_sem]) <;> rfl)
      apply Tr.done
      · (simp only [go_sem]) <;> rfl
      · simp
    refine EvC.seq ?_
    refine EvC.seq (EvC.rg (by (simp only [go_sem]) <;> rfl) (by simp) ?_)
    refine EvC.cond_true (by (simp only [go_sem]) <;> rfl) ?_
    refine EvC.frzD 3 (by (simp only [go_sem, List.length_map]) <;> rfl) ?_
    refine EvC.seq (EvC.rg (by (simp only [go_sem, List.length_map]) <;> rfl) (by simp) ?_)
    refine EvC.ret ⟨.inl rfl, _, (by (simp only [go_sem]) <;> rfl), ?_, rfl⟩
    simp only [go_sem]
  have hre : t.r.isEmpty = false := by simpa using hr
  have hy : ∀ x ∈ t.r, (intC x).length = 1 := fun _ _ => rfl
  have hrm : room t.r.length 8 = true := by simp only [room_eq, decide_eq_true_eq]; omega
  refine EvC.seq (EvC.rg (by (simp only [go_sem, List.length_map, hxa, traceC, hin, hre]) <;> rfl) (by simp [hrm, hal]; exact hy) ?_)
  have hrl0 : t.r.length ≠ 0 := fun h => hr (List.length_eq_zero_iff.1 h)
  have d3 : decide ((t.r.length : Int) = 0) = false := decide_eq_false (by omega)
  refine EvC.seq ?_
  refine EvC.seq (EvC.rg (by (simp only [go_sem, List.length_map, d3]) <;> rfl) (by simp) ?_)
  refine EvC.cond_false (by (simp only [go_sem]) <;> rfl) ?_
  refine EvC.skip ?_
  have hK : (step : Int) % (t.r.length : Int) = ((step % (t.r.length : Int)).toNat : Int) := (Int.toNat_of_nonneg (Int.emod_nonneg _ (by omega))).symm
  have hkl : (step % (t.r.length : Int)).toNat < t.r.length := by
    have := Int.emod_lt_of_pos step (b := (t.r.length : Int)) (by omega)
    omega
  rw [if_neg hrl0]
  generalize (step % (t.r.length : Int)).toNat = k at hK hkl
  have hkin : (k : Int).toNat = k := Int.toNat_natCast k
  refine EvC.seq (EvC.rg (by (simp only [go_sem, LG.cells, List.length_map, hK]) <;> rfl) (by simp; exact ⟨inI64_of (by omega) (by omega), hst.1, by omega⟩) ?_)
  refine EvC.gc [1, 2, 3, 4, 5, 6] [(4, 4), (0, 0), (3, 3), (12, 5)] 6 rfl ?_
  obtain ⟨v, hv⟩ : ∃ v, t.r[k]? = some v := ⟨_, List.getElem?_eq_getElem hkl⟩
  have hv0 : (t.r[k]?).getD 0 = v := by rw [hv]; rfl
  have hvb := htv v (List.mem_of_getElem? hv)
  have hchR : chR by' m.outs k t.r = if by' % 4 = 2 ∧ v ≠ -1 then t.r.set k ((v + 1) % m.outs) else if by' % 4 = 3 then cutR t.r k t.r.length else t.r := by rw [chR, hv0]
  rw [hchR]
  have hcf : (if decide (by' % 4 = 2) = true then !decide (v = -1) else false) = decide (by' % 4 = 2 ∧ v ≠ -1) := by
    by_cases h : by' % 4 = 2
    · rw [decide_eq_true h, if_pos rfl]; simp [h]
    · rw [decide_eq_false h]; simp [h]
  refine EvC.mergeS (α := List Int) (fun r1 => ⟨[(1, .ia (LG.cells ⟨x, wn, ws, wc, at', step, by'⟩)), (2, .rf 0 0), (3, .rf 4 0), (4, .sc (.int .i64 a)), (5, .tl 5 t.r.length false), (6, .sc (.int .i64 k))], [], [(4, .cells [.sc (.int .i64 m.ins), .sc (.int .i64 m.outs), .tl 3 L.length L.isEmpty]), (0, .cells [.sc (.int .i64 0), .sc (.int .i64 0), .sl true [] .zer]), (3, .arr 2 (L.map traceC) false), (5, .arr 1 (r1.map intC) false)], 6⟩)
    (fun r1 => r1 = if by' % 4 = 2 ∧ v ≠ -1 then t.r.set k ((v + 1) % m.outs) else t.r) [1, 2, 3, 4, 5, 6] 6 ?_ ?_
  · -- the first change
    apply EvC.seq
    apply EvC.trd
    · (simp only [go_sem, LG.cells, List.length_map, List.getElem?_map, hv, hkin, intC]) <;> rfl
    · simp [hby.1, hkl]
    by_cases hc : by' % 4 = 2 ∧ v ≠ -1
    · refine EvC.cond_true (by (simp only [go_sem, hcf, decide_eq_true hc]) <;> rfl) ?_
      rw [if_pos hc]
      have hv1 : v ≠ -1 := hc.2
      have hsn : (t.r.map intC).set k [.sc (.int .i64 ((v + 1) % m.outs))] = (t.r.set k ((v + 1) % m.outs)).map intC := by rw [List.map_set]; rfl
      apply EvC.drd mixed
      · (simp only [go_sem, List.length_map, List.getElem?_map, hv, hkin, intC, hsn]) <;> rfl
      · simp [hkl]; exact ⟨inI64_of (by omega) (by omega), by omega, by omega⟩
      · kernel_rfl
      exact ⟨rfl, [(4, 4), (0, 0), (3, 3), (5, 5)], t.r.set k ((v + 1) % m.outs), rfl, (by (simp only [go_sem, LG.cells]) <;> rfl), rfl⟩
    refine EvC.cond_false (by (simp only [go_sem, hcf, decide_eq_false hc]) <;> rfl) ?_
    refine EvC.skip ?_
    rw [if_neg hc]
    exact ⟨rfl, [(4, 4), (0, 0), (3, 3), (5, 5)], t.r, rfl, (by (simp only [go_sem, LG.cells]) <;> rfl), rfl⟩
  rintro r1 hr1
  have hl1 : r1.length = t.r.length := by rw [hr1]; split <;> simp
  have hif : (if by' % 4 = 2 ∧ v ≠ -1 then t.r.set k ((v + 1) % m.outs) else if by' % 4 = 3 then cutR t.r k t.r.length else t.r) = if by' % 4 = 3 then cutR r1 k r1.length else r1 := by
    rw [hl1, hr1]
    by_cases hc : by' % 4 = 2 ∧ v ≠ -1
    · rw [if_pos hc, if_pos hc, if_neg (by omega)]
    · rw [if_neg hc, if_neg hc]
  rw [hif, ← hl1]
  rw [← hl1] at hkl hta
  clear hif hr1 hchR hcf hv hv0 hvb
  refine EvC.seq ?_
  refine EvC.seq (EvC.rg (by (simp only [go_sem]) <;> rfl) (by simp) ?_)
  refine EvC.block ?_  -- 0
  have hn0 : r1.length ≠ 0 := by omega
  refine EvC.loopS (σ := Nat) (fun n => ⟨[(1, .ia (LG.cells ⟨x, wn, ws, wc, at', step, by'⟩)), (2, .rf 0 0), (3, .rf 4 0), (4, .sc (.int .i64 a)), (5, .tl 5 r1.length false), (7, .sc (.int .i64 n))], [], [(4, .cells [.sc (.int .i64 m.ins), .sc (.int .i64 m.outs), .tl 3 L.length L.isEmpty]), (0, .cells [.sc (.int .i64 0), .sc (.int .i64 0), .sl true [] .zer]), (3, .arr 2 (L.map traceC) false), (5, .arr 1 ((cutR r1 k n).map intC) false)], 6⟩) (fun n => r1.length - n) (fun n => k ≤ n ∧ n ≤ r1.length ∧ (n = k ∨ by' % 4 = 3)) [1, 2, 3, 4, 5, 7] 6 ?_ ?_
  · refine ⟨[(4, 4), (0, 0), (3, 3), (5, 5)], k, rfl, ?_, Nat.le_refl _, by omega, .inl rfl⟩
    have h0 : cutR r1 k k = r1 := by simp [cutR]
    rw [h0]
    (simp only [go_sem]) <;> rfl
  rintro n ⟨n1, n2, n3⟩
  have hcl : (cutR r1 k n).length = r1.length := by simp [cutR]; omega
  refine EvC.seq ?_
  by_cases hend : n < r1.length ∧ by' % 4 = 3
  rotate_left
  · have hcf : (if decide ((n : Int) < r1.length) = true then decide (by' % 4 = 3) else false) = false := by
      by_cases h : n < r1.length
      · rw [decide_eq_true (show (n : Int) < r1.length by omega), if_pos rfl]; exact decide_eq_false (by omega)
      · rw [decide_eq_false (show ¬ (n : Int) < r1.length by omega)]; rfl
    have hend' : (if by' % 4 = 3 then cutR r1 k r1.length else r1) = cutR r1 k n := by
      by_cases h : by' % 4 = 3
      · rw [if_pos h, show n = r1.length by omega]
      · rw [if_neg h, show n = k by omega]; simp [cutR]
    rw [hend']
    generalize hR2 : cutR r1 k n = r2 at hcl
    rw [← hcl]
    rw [← hcl] at hcf
    apply EvC.seq
    apply EvC.trd
    · (simp only [go_sem, LG.cells, List.length_map]) <;> rfl
    · simp [hby.1]
    refine EvC.cond_false (by (simp only [go_sem, hcf]) <;> rfl) ?_
    refine EvC.exit ?_  -- 0
    refine EvC.frz 5 (by (simp only [go_sem, List.length_map]) <;> rfl) ?_
    have hnew : (L.map traceC).set a [.sl t.w.isEmpty (t.w.map intC) .unk, .sl false (r2.map intC) .unk] = (L.set a ⟨t.w, r2⟩).map traceC := by
      have hre2 : r2.isEmpty = false := by
        cases r2 with
        | nil => simp at hcl; omega
        | cons _ _ => rfl
      rw [List.map_set, traceC, hre2]
    have hsl : (L.set a ⟨t.w, r2⟩).length = L.length := List.length_set
    have hse : (L.set a ⟨t.w, r2⟩).isEmpty = L.isEmpty := by
      cases L with
      | nil => rfl
      | cons _ _ => cases a <;> rfl
    generalize hL2 : L.set a ⟨t.w, r2⟩ = L2 at hnew hsl hse ⊢
    refine EvC.seq (EvC.rg (by (simp only [go_sem, List.length_map, hxa, hin, traceC, hnew]) <;> rfl) (by simp [hal]) ?_)
    refine EvC.frzD 3 (by (simp only [go_sem, List.length_map, hsl]) <;> rfl) ?_
    refine EvC.seq (EvC.rg (by (simp only [go_sem, List.length_map, hsl]) <;> rfl) (by simp) ?_)
    rw [hse]
    refine EvC.ret ⟨.inl rfl, _, (by (simp only [go_sem]) <;> rfl), ?_, rfl⟩
    simp only [go_sem]
  obtain ⟨e1, e2⟩ := hend
  have d1 : decide ((n : Int) < r1.length) = true := decide_eq_true (by omega)
  have d3 := decide_eq_true e2
  have hnin : (n : Int).toNat = n := Int.toNat_natCast n
  have hset : ((cutR r1 k n).map intC).set n [.sc (.int .i64 (-1))] = (cutR r1 k (n + 1)).map intC := by
    rw [cutR_next e1 n1, List.map_set]; rfl
  obtain ⟨u, hu⟩ : ∃ u, (cutR r1 k n)[n]? = some u := ⟨_, List.getElem?_eq_getElem (by omega)⟩
  apply EvC.seq
  apply EvC.trd
  · (simp only [go_sem, LG.cells, List.length_map, hcl, d1, d3]) <;> rfl
  · simp [hby.1]
  refine EvC.cond_true (by (simp only [go_sem]) <;> rfl) ?_
  refine EvC.skip ?_
  refine EvC.seq ?_
  refine EvC.block ?_  -- 1
  refine EvC.rg (by (simp only [go_sem, List.length_map, hcl, hnin, List.getElem?_map, hu, intC, hset]) <;> rfl) (by simp; omega) ?_
  refine EvC.rg (by (simp only [go_sem]) <;> rfl) (by exact inI64_of (by omega) (by omega)) ?_
  exact ⟨[(4, 4), (0, 0), (3, 3), (5, 5)], n + 1, rfl, (by (simp only [go_sem, Int.natCast_add, Int.natCast_one, LG.cells]) <;> rfl), ⟨by omega, by omega, .inr e2⟩, by omega⟩
end Go.Avl
namespace Go.Avl
open Go Go.Proofs.Try
set_option maxRecDepth 10000
set_option linter.unusedSimpArgs false

/-! ### Contradictions -/
/-- The step at which two traces contradict each other. -/
def stepL : List Int → List Int → List Int → List Int → Int → Int
  | x :: aw, p :: ar, y :: bw, q :: br, k => if x = y then (if p = q then stepL aw ar bw br (k + 1) else k) else -1
  | _, _, _, _, _ => -1
def stepT (a b : TR) : Int := stepL a.w a.r b.w b.r 0
theorem stepL_drop {aw ar bw br : List Int} (ha : ar.length = aw.length) (hb : br.length = bw.length) {i : Nat} (h1 : i < aw.length) (h2 : i < bw.length) (k : Int) {x p y q : Int} (hx : aw[i]? = some x) (hp : ar[i]? = some p) (hy : bw[i]? = some y) (hq : br[i]? = some q) :
    stepL (aw.drop i) (ar.drop i) (bw.drop i) (br.drop i) k = if x = y then (if p = q then stepL (aw.drop (i + 1)) (ar.drop (i + 1)) (bw.drop (i + 1)) (br.drop (i + 1)) (k + 1) else k) else -1 := by
  rw [List.getElem?_eq_getElem (by omega)] at hx hp hy hq
  rw [List.drop_eq_getElem_cons (l := aw) h1, List.drop_eq_getElem_cons (l := ar) (by omega), List.drop_eq_getElem_cons (l := bw) h2, List.drop_eq_getElem_cons (l := br) (by omega), stepL]
  cases hx; cases hp; cases hy; cases hq
  rfl
theorem stepL_end {aw ar bw br : List Int} (k : Int) (h : aw = [] ∨ bw = []) : stepL aw ar bw br k = -1 := by
  rcases h with rfl | rfl
  · cases ar <;> cases bw <;> cases br <;> rfl
  · cases aw <;> cases ar <;> cases br <;> rfl

set_option maxHeartbeats 4000000 in
theorem step59_is (a b : TR) (ha : a.r.length = a.w.length) (hb : b.r.length = b.w.length) (hl : a.w.length < 1000000) :
    PureIs prog 59 [.ag (traceC a), .ag (traceC b)] (.sc (.int .i64 (stepT a b))) := by
  obtain ⟨aw, ar⟩ := a
  obtain ⟨bw, br⟩ := b
  simp only at ha hb hl
  unfold stepT
  simp only
  refine PureIs.of (nv := 2) (hid := [2, 3, 4, 5, 30, 43]) func59 rfl (by kernel_rfl) (by simp [ntmps59]) fun _ => ?_
  rw [ntmps59, results59]
  refine EvC.seq (EvC.rg (by (simp only [go_sem, traceC]) <;> rfl) (by simp) ?_)
  refine EvC.frzB 0 (by (simp only [go_sem]) <;> rfl) ?_
  refine EvC.frzB 1 (by (simp only [go_sem]) <;> rfl) ?_
  refine EvC.seq ?_
  refine EvC.seq (EvC.rg (by (simp only [go_sem]) <;> rfl) (by simp) ?_)
  refine EvC.block ?_  -- 0
  refine EvC.loopS (σ := Nat) (fun i => ⟨[(2, .ia (traceC ⟨aw, ar⟩)), (3, .ia (traceC ⟨bw, br⟩)), (5, .sc (.int .i64 i))], [], [], 0⟩) (fun i => aw.length - i) (fun i => i ≤ aw.length ∧ stepL aw ar bw br 0 = stepL (aw.drop i) (ar.drop i) (bw.drop i) (br.drop i) i) [2, 3, 5] 0 ?_ ?_
  · refine ⟨[], 0, rfl, (by (simp only [go_sem, traceC, Int.natCast_zero]) <;> rfl), Nat.zero_le _, rfl⟩
  rintro i ⟨h1, h2⟩
  have hin : (i : Int).toNat = i := Int.toNat_natCast i
  refine EvC.seq ?_
  by_cases e1 : i < aw.length
  rotate_left
  · have d1 : decide ((i : Int) < aw.length) = false := decide_eq_false (by omega)
    have hr : stepL aw ar bw br 0 = -1 := by rw [h2]; exact stepL_end _ (.inl (List.drop_eq_nil_of_le (by omega)))
    rw [hr]
    have hx : aw[i]? = none := List.getElem?_eq_none (by omega)
    by_cases e2 : i < bw.length
    · have hy : bw[i]? = some (bw[i]'e2) := List.getElem?_eq_getElem e2
      apply EvC.seq
      apply EvC.drw mixed
      · apply Tr.run
        · (simp only [go_sem, traceC, List.length_map, d1, List.getElem?_map, hx, hy, hin, intC]) <;> rfl
        · simp
        apply Tr.cons
        · exact .skipv (.ia [.sc (.int .i64 0)]) rfl rfl (by (simp only [go_sem]) <;> rfl) (by (simp only [go_sem]) <;> rfl)
        apply Tr.done
        · (simp only [go_sem, traceC, List.length_map, d1, List.getElem?_map, hx, hy, hin, intC]) <;> rfl
        · simp
      · kernel_rfl
      refine EvC.cond_false (by (simp only [go_sem]) <;> rfl) ?_
      refine EvC.exit ?_  -- 0
      refine EvC.seq (EvC.rg (by (simp only [go_sem]) <;> rfl) (by simp) ?_)
      refine EvC.ret ⟨.inl rfl, _, (by (simp only [go_sem]) <;> rfl), ?_, rfl⟩
      simp only [go_sem]
    · have hy : bw[i]? = none := List.getElem?_eq_none (by omega)
      apply EvC.seq
      apply EvC.drw mixed
      · apply Tr.run
        · (simp only [go_sem, traceC, List.length_map, d1, List.getElem?_map, hx, hy, hin, intC]) <;> rfl
        · simp
        apply Tr.cons
        · exact .skipv (.ia [.sc (.int .i64 0)]) rfl rfl (by (simp only [go_sem]) <;> rfl) (by (simp only [go_sem]) <;> rfl)
        apply Tr.run
        · (simp only [go_sem, traceC, List.length_map, d1, List.getElem?_map, hx, hy, hin, intC]) <;> rfl
        · simp
        apply Tr.cons
        · exact .skipv (.ia [.sc (.int .i64 0)]) rfl rfl (by (simp only [go_sem]) <;> rfl) (by (simp only [go_sem]) <;> rfl)
        apply Tr.done
        · (simp only [go_sem, traceC, List.length_map, d1, List.getElem?_map, hx, hy, hin, intC]) <;> rfl
        · simp
      · kernel_rfl
      refine EvC.cond_false (by (simp only [go_sem]) <;> rfl) ?_
      refine EvC.exit ?_  -- 0
      refine EvC.seq (EvC.rg (by (simp only [go_sem]) <;> rfl) (by simp) ?_)
      refine EvC.ret ⟨.inl rfl, _, (by (simp only [go_sem]) <;> rfl), ?_, rfl⟩
      simp only [go_sem]
  have d1 : decide ((i : Int) < aw.length) = true := decide_eq_true (by omega)
  by_cases e2 : i < bw.length
  rotate_left
  · have d2 : decide ((i : Int) < bw.length) = false := decide_eq_false (by omega)
    have hr : stepL aw ar bw br 0 = -1 := by rw [h2]; exact stepL_end _ (.inr (List.drop_eq_nil_of_le (by omega)))
    have hx : aw[i]? = some (aw[i]'e1) := List.getElem?_eq_getElem e1
    rw [hr]
    have hy : bw[i]? = none := List.getElem?_eq_none (by omega)
    apply EvC.seq
    apply EvC.drw mixed
    · apply Tr.run
      · (simp only [go_sem, traceC, List.length_map, d1, d2, List.getElem?_map, hx, hy, hin, intC]) <;> rfl
      · simp; try omega
      apply Tr.cons
      · exact .skipv (.ia [.sc (.int .i64 0)]) rfl rfl (by (simp only [go_sem]) <;> rfl) (by (simp only [go_sem]) <;> rfl)
      apply Tr.done
      · (simp only [go_sem, traceC, List.length_map, d1, d2, List.getElem?_map, hx, hy, hin, intC]) <;> rfl
      · simp
    · kernel_rfl
    refine EvC.cond_false (by (simp only [go_sem]) <;> rfl) ?_
    refine EvC.exit ?_  -- 0
    refine EvC.seq (EvC.rg (by (simp only [go_sem]) <;> rfl) (by simp) ?_)
    refine EvC.ret ⟨.inl rfl, _, (by (simp only [go_sem]) <;> rfl), ?_, rfl⟩
    simp only [go_sem]
  have d2 : decide ((i : Int) < bw.length) = true := decide_eq_true (by omega)
  have hx : aw[i]? = some (aw[i]'e1) := List.getElem?_eq_getElem e1
  have hp : ar[i]? = some (ar[i]'(by omega)) := List.getElem?_eq_getElem _
  have hy : bw[i]? = some (bw[i]'e2) := List.getElem?_eq_getElem e2
  have hq : br[i]? = some (br[i]'(by omega)) := List.getElem?_eq_getElem _
  rw [stepL_drop ha hb e1 e2 i hx hp hy hq] at h2
  generalize aw[i]'e1 = x at hx h2
  generalize ar[i]'(by omega) = p at hp h2
  generalize bw[i]'e2 = y at hy h2
  generalize br[i]'(by omega) = q at hq h2
  apply EvC.seq
  apply EvC.drd mixed
  · (simp only [go_sem, traceC, List.length_map, d1, d2, List.getElem?_map, hx, hy, hin, intC]) <;> rfl
  · simp; try omega
  · kernel_rfl
  refine EvC.cond (by (simp only [go_sem]) <;> rfl) (fun hc => ?_) (fun hc => ?_)
  rotate_left
  · -- other symbols
    have hc : ¬ x = y := by simpa using hc
    rw [if_neg hc] at h2
    rw [h2]
    refine EvC.exit ?_  -- 0
    refine EvC.seq (EvC.rg (by (simp only [go_sem]) <;> rfl) (by simp) ?_)
    refine EvC.ret ⟨.inl rfl, _, (by (simp only [go_sem]) <;> rfl), ?_, rfl⟩
    simp only [go_sem]
  have hc : x = y := by simpa using hc
  rw [if_pos hc] at h2
  refine EvC.skip ?_
  refine EvC.seq ?_
  refine EvC.block ?_  -- 1
  apply EvC.seq
  apply EvC.drd mixed
  · (simp only [go_sem, traceC, List.length_map, List.getElem?_map, hp, hq, hin, intC]) <;> rfl
  · simp; try omega
  · kernel_rfl
  refine EvC.cond (by (simp only [go_sem]) <;> rfl) (fun hc2 => ?_) (fun hc2 => ?_)
  · have hc2 : ¬ p = q := by simpa using hc2
    rw [if_neg hc2] at h2
    rw [h2]
    refine EvC.seq (EvC.rg (by (simp only [go_sem]) <;> rfl) (by simp) ?_)
    refine EvC.ret ⟨.inl rfl, _, (by (simp only [go_sem]) <;> rfl), ?_, rfl⟩
    simp only [go_sem]
  have hc2 : p = q := by simpa using hc2
  rw [if_pos hc2] at h2
  refine EvC.skip ?_
  refine EvC.rg (by (simp only [go_sem]) <;> rfl) (by exact inI64_of (by omega) (by omega)) ?_
  exact ⟨[], i + 1, rfl, (by (simp only [go_sem, Int.natCast_add, Int.natCast_one, traceC]) <;> rfl), ⟨by omega, h2⟩, by omega⟩
end Go.Avl
namespace Go.Avl
open Go Go.Proofs.Try
set_option maxRecDepth 10000
set_option linter.unusedSimpArgs false

/-! ### The first contradiction of a log -/
def conAt (L : List TR) (b a : Nat) : Int := match L[a]?, L[b]? with
  | some x, some y => stepT x y
  | _, _ => -1
def conIn (L : List TR) (b : Nat) : Nat → Nat → Option Nat
  | _, 0 => none
  | a, n + 1 => if 0 ≤ conAt L b a then some a else conIn L b (a + 1) n
def conOut (L : List TR) : Nat → Nat → Option (Nat × Nat)
  | _, 0 => none
  | b, n + 1 => match conIn L b 0 b with
    | some a => some (a, b)
    | none => conOut L (b + 1) n
/-- What Contradiction says of a log. -/
def conR (L : List TR) : Int × Int × Int × Bool := match conOut L 0 L.length with
  | some (a, b) => (a, b, conAt L b a, true)
  | none => (0, 0, 0, false)
def conB (L : List TR) : Bool := (conR L).2.2.2
structure TrOk (t : TR) : Prop where
  len : t.r.length = t.w.length
  small : t.w.length ≤ 1000

set_option maxHeartbeats 4000000 in
theorem contra25_is (i o : Int) (nl : Bool) (L : List TR) (c : Cp) (hL : ∀ t ∈ L, TrOk t) (hl : L.length < 1000000) :
    PureIs prog 25 [.ag [.sc (.int .i64 i), .sc (.int .i64 o), .sl nl (L.map traceC) c]] (.tu [.ag [.sc (.int .i64 (conR L).1), .sc (.int .i64 (conR L).2.1), .sc (.int .i64 (conR L).2.2.1)], .sc (.bool (conR L).2.2.2)]) := by
  unfold conR
  refine PureIs.of (nv := 1) (hid := [1, 2, 3, 4, 5, 6, 11, 16, 31]) func25 rfl (by kernel_rfl) (by simp [ntmps25]) fun _ => ?_
  rw [ntmps25, results25]
  refine EvC.seq (EvC.rg (by (simp only [go_sem]) <;> rfl) (by simp) ?_)
  refine EvC.frzB 0 (by (simp only [go_sem]) <;> rfl) ?_
  refine EvC.seq ?_
  refine EvC.seq (EvC.rg (by (simp only [go_sem]) <;> rfl) (by simp) ?_)
  refine EvC.block ?_  -- 0
  refine EvC.loopS (σ := Nat) (fun b => ⟨[(1, .ia [.sc (.int .i64 i), .sc (.int .i64 o), .sl nl (L.map traceC) c]), (2, .rf 0 0), (3, .sc (.bool false)), (4, .sc (.int .i64 b))], [], [(0, .cells [.sc (.int .i64 0), .sc (.int .i64 0), .sc (.int .i64 0)])], 1⟩) (fun b => L.length - b) (fun b => b ≤ L.length ∧ conOut L 0 L.length = conOut L b (L.length - b)) [1, 2, 3, 4] 1 ?_ ?_
  · refine ⟨[(1, 0)], 0, rfl, (by (simp only [go_sem, Int.natCast_zero]) <;> rfl), Nat.zero_le _, rfl⟩
  rintro b ⟨h1, h2⟩
  have hbin : (b : Int).toNat = b := Int.toNat_natCast b
  refine EvC.seq ?_
  refine EvC.seq (EvC.rg (by (simp only [go_sem, List.length_map]) <;> rfl) (by simp) ?_)
  refine EvC.cond (by (simp only [go_sem]) <;> rfl) (fun hc => ?_) (fun hc => ?_)
  rotate_left
  · -- else
    have hc : ¬ b < L.length := by simpa using hc
    rw [h2, show L.length - b = 0 by omega, conOut]
    refine EvC.exit ?_  -- 0
    refine EvC.seq (EvC.rg (by (simp only [go_sem]) <;> rfl) (by simp) ?_)
    refine EvC.ret ⟨.inl rfl, _, (by (simp only [go_sem]) <;> rfl), ?_, rfl⟩
    simp only [go_sem]
  have hc : b < L.length := by simpa using hc
  refine EvC.skip ?_
  refine EvC.seq ?_
  refine EvC.block ?_  -- 1
  have hy : L[b]? = some (L[b]'hc) := List.getElem?_eq_getElem hc
  have hyk := hL _ (List.getElem_mem hc)
  generalize L[b]'hc = y at hy hyk
  refine EvC.seq (EvC.rg (by (simp only [go_sem]) <;> rfl) (by simp) ?_)
  refine EvC.block ?_  -- 2
  refine EvC.loopS (σ := Nat) (fun a => ⟨[(1, .ia [.sc (.int .i64 i), .sc (.int .i64 o), .sl nl (L.map traceC) c]), (2, .rf 0 0), (3, .sc (.bool false)), (4, .sc (.int .i64 b)), (5, .sc (.int .i64 a))], [], [(0, .cells [.sc (.int .i64 0), .sc (.int .i64 0), .sc (.int .i64 0)])], 1⟩) (fun a => b - a) (fun a => a ≤ b ∧ conIn L b 0 b = conIn L b a (b - a)) [1, 2, 3, 4, 5] 1 ?_ ?_
  · refine ⟨[(0, 0)], 0, rfl, (by (simp only [go_sem, Int.natCast_zero]) <;> rfl), Nat.zero_le _, rfl⟩
  rintro a ⟨g1, g2⟩
  have hain : (a : Int).toNat = a := Int.toNat_natCast a
  refine EvC.seq ?_
  refine EvC.seq (EvC.rg (by (simp only [go_sem]) <;> rfl) (by simp) ?_)
  refine EvC.cond (by (simp only [go_sem]) <;> rfl) (fun hd => ?_) (fun hd => ?_)
  rotate_left
  · -- else
    have hd : ¬ a < b := by simpa using hd
    refine EvC.exit ?_  -- 2
    have h3 : conOut L 0 L.length = conOut L (b + 1) (L.length - (b + 1)) := by
      rw [h2, show L.length - b = (L.length - (b + 1)) + 1 by omega, conOut, g2, show b - a = 0 by omega, conIn]
    refine EvC.rg (by (simp only [go_sem]) <;> rfl) (by exact inI64_of (by omega) (by omega)) ?_
    exact ⟨[(0, 0)], b + 1, rfl, (by (simp only [go_sem, Int.natCast_add, Int.natCast_one]) <;> rfl), ⟨by omega, h3⟩, by omega⟩
  have hd : a < b := by simpa using hd
  refine EvC.skip ?_
  refine EvC.seq ?_
  refine EvC.block ?_  -- 3
  have hal : a < L.length := by omega
  have hx : L[a]? = some (L[a]'hal) := List.getElem?_eq_getElem hal
  have hxk := hL _ (List.getElem_mem hal)
  generalize L[a]'hal = x at hx hxk
  have hS := step59_is x y hxk.len hyk.len (by have := hxk.small; omega)
  have hca : conAt L b a = stepT x y := by rw [conAt, hx, hy]
  rw [show b - a = (b - (a + 1)) + 1 by omega, conIn, hca] at g2
  generalize stepT x y = s at hS g2 hca
  apply EvC.seq
  apply EvC.drw mixed
  · apply Tr.run
    · (simp only [go_sem, hx, hy, hain, hbin, traceC, List.length_map]) <;> rfl
    · simp; try omega
    apply Tr.cons
    · exact .call rfl rfl (by (simp only [go_sem]) <;> rfl) (by (simp only [go_sem]) <;> rfl) (by (simp only [go_sem]) <;> rfl) (by (simp only [go_sem]) <;> rfl) (by (simp only [go_sem]) <;> rfl) (hS)
    apply Tr.done
    · (simp only [go_sem]) <;> rfl
    · simp
  · kernel_rfl
  refine EvC.seq (EvC.rg (by (simp only [go_sem]) <;> rfl) (by simp) ?_)
  refine EvC.cond (by (simp only [go_sem]) <;> rfl) (fun he => ?_) (fun he => ?_)
  · -- then
    have he : 0 ≤ s := by simpa using he
    rw [if_pos he] at g2
    have h3 : conOut L 0 L.length = some (a, b) := by
      rw [h2, show L.length - b = (L.length - (b + 1)) + 1 by omega, conOut, g2]
    rw [h3]
    simp only
    rw [hca]
    refine EvC.seq (EvC.rg (by (simp only [go_sem]) <;> rfl) (by simp) ?_)
    refine EvC.ret ⟨.inl rfl, _, (by (simp only [go_sem]) <;> rfl), ?_, rfl⟩
    simp only [go_sem]
  have he : ¬ 0 ≤ s := by simpa using he
  rw [if_neg he] at g2
  refine EvC.skip ?_
  refine EvC.rg (by (simp only [go_sem]) <;> rfl) (by exact inI64_of (by omega) (by omega)) ?_
  exact ⟨[(0, 0)], a + 1, rfl, (by (simp only [go_sem, Int.natCast_add, Int.natCast_one]) <;> rfl), ⟨by omega, g2⟩, by omega⟩
end Go.Avl
namespace Go.Avl
open Go Go.Proofs.Try
set_option maxRecDepth 10000
set_option linter.unusedSimpArgs false

/-! ### What a log says of a word -/
def hasW (t : TR) (w : List Int) : Prop := w.length ≤ t.w.length ∧ t.w.take w.length = w
instance (t : TR) (w : List Int) : Decidable (hasW t w) := by unfold hasW; infer_instance
def lastL : List TR → List Int → Option Int
  | [], _ => none
  | t :: L, w => if hasW t w then some ((t.r[w.length - 1]?).getD 0) else lastL L w
def lastN (L : List TR) (w : List Int) : Int := (lastL L w).getD 0
theorem lastL_drop {L : List TR} {i : Nat} (h : i < L.length) {t : TR} (ht : L[i]? = some t) (w : List Int) : lastL (L.drop i) w = if hasW t w then some ((t.r[w.length - 1]?).getD 0) else lastL (L.drop (i + 1)) w := by
  rw [List.getElem?_eq_getElem h] at ht; cases ht
  rw [List.drop_eq_getElem_cons h, lastL]

set_option maxHeartbeats 4000000 in
theorem last62_is (i o : Int) (nl : Bool) (L : List TR) (c : Cp) (nw : Bool) (w : List Int) (cw : Cp) (hL : ∀ t ∈ L, TrOk t) (hl : L.length < 1000000) (hw : w ≠ []) (hwl : w.length < 1000000) :
    PureIs prog 62 [.ag [.sc (.int .i64 i), .sc (.int .i64 o), .sl nl (L.map traceC) c], .sl nw (w.map intC) cw] (.tu [.sc (.int .i64 (lastN L w)), .sc (.bool (lastL L w).isSome)]) := by
  have hw0 : w.length ≠ 0 := fun h => hw (List.length_eq_zero_iff.1 h)
  unfold lastN
  refine PureIs.of (nv := 2) (hid := [2, 4, 5, 6, 11, 36]) func62 rfl (by kernel_rfl) (by simp [ntmps62]) fun _ => ?_
  rw [ntmps62, results62]
  refine EvC.seq (EvC.rg (by (simp only [go_sem]) <;> rfl) (by simp) ?_)
  refine EvC.frzB 0 (by (simp only [go_sem]) <;> rfl) ?_
  refine EvC.seq ?_
  refine EvC.seq (EvC.rg (by (simp only [go_sem]) <;> rfl) (by simp) ?_)
  refine EvC.block ?_  -- 0
  refine EvC.loopS (σ := Nat) (fun k => ⟨[(1, .sl nw (w.map intC) cw), (2, .ia [.sc (.int .i64 i), .sc (.int .i64 o), .sl nl (L.map traceC) c]), (6, .sc (.int .i64 k))], [], [], 0⟩) (fun k => L.length - k) (fun k => k ≤ L.length ∧ lastL L w = lastL (L.drop k) w) [1, 2, 6] 0 ?_ ?_
  · refine ⟨[], 0, rfl, (by (simp only [go_sem, Int.natCast_zero]) <;> rfl), Nat.zero_le _, rfl⟩
  rintro k ⟨h1, h2⟩
  have hkin : (k : Int).toNat = k := Int.toNat_natCast k
  refine EvC.seq ?_
  refine EvC.seq (EvC.rg (by (simp only [go_sem, List.length_map]) <;> rfl) (by simp) ?_)
  refine EvC.cond (by (simp only [go_sem]) <;> rfl) (fun hc => ?_) (fun hc => ?_)
  rotate_left
  · -- else
    have hc : ¬ k < L.length := by simpa using hc
    rw [h2, List.drop_eq_nil_of_le (by omega), lastL, show (none : Option Int).isSome = false from rfl, show (none : Option Int).getD 0 = 0 from rfl]
    refine EvC.exit ?_  -- 0
    refine EvC.seq (EvC.rg (by (simp only [go_sem]) <;> rfl) (by simp) ?_)
    refine EvC.ret ⟨.inl rfl, _, (by (simp only [go_sem]) <;> rfl), ?_, rfl⟩
    simp only [go_sem]
  have hc : k < L.length := by simpa using hc
  refine EvC.skip ?_
  refine EvC.seq ?_
  refine EvC.block ?_  -- 1
  have hx : L[k]? = some (L[k]'hc) := List.getElem?_eq_getElem hc
  have hxk := hL _ (List.getElem_mem hc)
  generalize L[k]'hc = x at hx hxk
  rw [lastL_drop hc hx w] at h2
  obtain ⟨xw, xr⟩ := x
  have hl1 := hxk.len
  have hl2 := hxk.small
  simp only at hl1 hl2 h2
  by_cases e1 : w.length ≤ xw.length
  rotate_left
  · -- too short
    have d1 : decide ((w.length : Int) ≤ xw.length) = false := decide_eq_false (by omega)
    rw [if_neg (fun h => e1 h.1)] at h2
    apply EvC.seq
    apply EvC.tr
    · apply Tr.run
      · (simp only [go_sem, hx, traceC, hkin, d1, List.length_map]) <;> rfl
      · simp [hc]; try omega
      apply Tr.cons
      · exact .skipv ((.sc (.bool false))) rfl rfl (by (simp only [go_sem]) <;> rfl) (by (simp only [go_sem]) <;> rfl)
      apply Tr.done
      · (simp only [go_sem, hx, traceC, hkin, d1, List.length_map]) <;> rfl
      · simp
    refine EvC.cond_false (by (simp only [go_sem]) <;> rfl) ?_
    refine EvC.skip ?_
    refine EvC.rg (by (simp only [go_sem]) <;> rfl) (by exact inI64_of (by omega) (by omega)) ?_
    exact ⟨[], k + 1, rfl, (by (simp only [go_sem, Int.natCast_add, Int.natCast_one]) <;> rfl), ⟨by omega, h2⟩, by omega⟩
  have d1 : decide ((w.length : Int) ≤ xw.length) = true := decide_eq_true (by omega)
  have hS := same_is xw.isEmpty (xw.take w.length) .unk nw w cw (by simp; omega)
  have htm : List.take w.length (xw.map intC) = (xw.take w.length).map intC := (List.map_take ..).symm
  apply EvC.seq
  apply EvC.tr
  · apply Tr.run
    · (simp only [go_sem, hx, traceC, hkin, d1, List.length_map, htm]) <;> rfl
    · simp [hc, intC]; try omega
    apply Tr.cons
    · exact .callG rfl rfl (by (simp only [go_sem]) <;> rfl) rfl (by (simp only [go_sem]) <;> rfl) (by (simp only [go_sem]) <;> rfl) (by (simp only [go_sem]) <;> rfl) (by (simp only [go_sem]) <;> rfl) (by (simp only [go_sem]) <;> rfl) (hS)
    apply Tr.done
    · (simp only [go_sem, hx, traceC, hkin, d1, List.length_map]) <;> rfl
    · simp
  refine EvC.cond (by (simp only [go_sem]) <;> rfl) (fun he => ?_) (fun he => ?_)
  · have he : xw.take w.length = w := by simpa using he
    rw [if_pos ⟨e1, he⟩] at h2
    have hxr : xr[w.length - 1]? = some (xr[w.length - 1]'(by omega)) := List.getElem?_eq_getElem _
    have hin2 : ((w.length : Int) - 1).toNat = w.length - 1 := by omega
    rw [h2, hxr]
    generalize xr[w.length - 1]'(by omega) = v at hxr
    rw [show (some v).getD 0 = v from rfl, show (some v).isSome = true from rfl, show (some v).getD 0 = v from rfl]
    refine EvC.seq (EvC.rg (by (simp only [go_sem, hx, traceC, hkin, hin2, List.length_map, List.getElem?_map, hxr, intC]) <;> rfl) (by simp [hc]; exact ⟨inI64_of (by omega) (by omega), by omega⟩) ?_)
    refine EvC.ret ⟨.inl rfl, _, (by (simp only [go_sem]) <;> rfl), ?_, rfl⟩
    simp only [go_sem]
  have he : ¬ xw.take w.length = w := by simpa using he
  rw [if_neg (fun h => he h.2)] at h2
  refine EvC.skip ?_
  refine EvC.rg (by (simp only [go_sem]) <;> rfl) (by exact inI64_of (by omega) (by omega)) ?_
  exact ⟨[], k + 1, rfl, (by (simp only [go_sem, Int.natCast_add, Int.natCast_one]) <;> rfl), ⟨by omega, h2⟩, by omega⟩
end Go.Avl
namespace Go.Avl
open Go Go.Proofs.Try
set_option maxRecDepth 10000
set_option linter.unusedSimpArgs false

/-! ### Ascending lists of words -/
def nwC (w : List Int) : List AV := [.sl false (w.map intC) .unk]
@[go_sem] theorem norefs_nwC (l : List (List Int)) : (l.map nwC).all AV.norefs = true := by simp [List.all_eq_true, nwC, AV.norefs, AV.noref]
def addL : List (List Int) → List Int → Bool → List (List Int)
  | [], w, done => if done then [] else [w]
  | x :: l, w, done => (if cmpW w x < 0 ∧ done = false then [w] else []) ++ x :: addL l w (done || decide (cmpW w x ≤ 0))
theorem addL_drop {l : List (List Int)} {i : Nat} (h : i < l.length) {x : List Int} (hx : l[i]? = some x) (w : List Int) (done : Bool) :
    addL (l.drop i) w done = (if cmpW w x < 0 ∧ done = false then [w] else []) ++ x :: addL (l.drop (i + 1)) w (done || decide (cmpW w x ≤ 0)) := by
  rw [List.getElem?_eq_getElem h] at hx; cases hx
  rw [List.drop_eq_getElem_cons h, addL]
theorem addL_len (w : List Int) : ∀ (l : List (List Int)) (d : Bool), (addL l w d).length ≤ l.length + (if d then 0 else 1)
  | [], d => by cases d <;> simp [addL]
  | x :: l, d => by
    have h1 := addL_len w l true
    have h2 := addL_len w l false
    cases d
    · rw [addL]
      by_cases hc : cmpW w x < 0
      · rw [if_pos ⟨hc, rfl⟩, show decide (cmpW w x ≤ 0) = true from decide_eq_true (by omega)]
        simp at h1 ⊢; omega
      · rw [if_neg (fun h => hc h.1)]
        by_cases he : cmpW w x ≤ 0
        · rw [decide_eq_true he]; simp at h1 ⊢; omega
        · rw [decide_eq_false he]; simp at h2 ⊢; omega
    · rw [addL]; simp at h1 ⊢; omega

set_option maxHeartbeats 4000000 in
theorem find63_is (nl : Bool) (l : List (List Int)) (c : Cp) (nw : Bool) (w : List Int) (cw : Cp) (hl : l.length < 1000000) (hs : ∀ x ∈ l, x.length < 1000000) :
    PureIs prog 63 [.sl nl (l.map nwC) c, .sl nw (w.map intC) cw] (.sc (.int .i64 (if l.idxOf w < l.length then (l.idxOf w : Int) else -1))) := by
  refine PureIs.of (nv := 2) (hid := [4, 5, 9, 17]) func63 rfl (by kernel_rfl) (by simp [ntmps63]) fun _ => ?_
  rw [ntmps63, results63]
  refine EvC.seq (EvC.rg (by (simp only [go_sem]) <;> rfl) (by simp) ?_)
  refine EvC.seq ?_
  refine EvC.seq (EvC.rg (by (simp only [go_sem]) <;> rfl) (by simp) ?_)
  refine EvC.block ?_  -- 0
  refine EvC.loopS (σ := Nat) (fun k => ⟨[(0, .sl nl (l.map nwC) c), (1, .sl nw (w.map intC) cw), (5, .sc (.int .i64 k))], [], [], 0⟩) (fun k => l.length - k) (fun k => k ≤ l.length ∧ ∀ j, j < k → l[j]? ≠ some w) [0, 1, 5] 0 ?_ ?_
  · refine ⟨[], 0, rfl, (by (simp only [go_sem, Int.natCast_zero]) <;> rfl), Nat.zero_le _, fun j h => absurd h (Nat.not_lt_zero _)⟩
  rintro k ⟨h1, h2⟩
  have hkin : (k : Int).toNat = k := Int.toNat_natCast k
  have hge : k ≤ l.idxOf w := by
    refine Nat.le_of_not_lt fun h => ?_
    have hlt : l.idxOf w < l.length := by omega
    refine h2 _ h ?_
    rw [List.getElem?_eq_getElem hlt, List.getElem_idxOf hlt]
  refine EvC.seq ?_
  refine EvC.seq (EvC.rg (by (simp only [go_sem, List.length_map]) <;> rfl) (by simp) ?_)
  refine EvC.cond (by (simp only [go_sem]) <;> rfl) (fun hc => ?_) (fun hc => ?_)
  rotate_left
  · -- else
    have hc : ¬ k < l.length := by simpa using hc
    rw [if_neg (by omega)]
    refine EvC.exit ?_  -- 0
    refine EvC.seq (EvC.rg (by (simp only [go_sem]) <;> rfl) (by simp) ?_)
    refine EvC.ret ⟨.inl rfl, _, (by (simp only [go_sem]) <;> rfl), ?_, rfl⟩
    simp only [go_sem]
  have hc : k < l.length := by simpa using hc
  refine EvC.skip ?_
  refine EvC.seq ?_
  refine EvC.block ?_  -- 1
  have hx : l[k]? = some (l[k]'hc) := List.getElem?_eq_getElem hc
  have hxs := hs _ (List.getElem_mem hc)
  have hid : w = l[k]'hc → l.idxOf w = k := fun h => by
    refine Nat.le_antisymm (Nat.le_of_not_lt fun hlt => ?_) hge
    have := List.not_of_lt_findIdx (p := (· == w)) (xs := l) (i := k) hlt
    rw [← h] at this
    simp at this
  generalize l[k]'hc = x at hx hxs hid
  have hS := same_is false x .unk nw w cw hxs
  apply EvC.seq
  apply EvC.tr
  · apply Tr.run
    · (simp only [go_sem, hx, nwC, hkin, List.length_map]) <;> rfl
    · simp; try omega
    apply Tr.cons
    · exact .call rfl rfl (by (simp only [go_sem]) <;> rfl) (by (simp only [go_sem]) <;> rfl) (by (simp only [go_sem]) <;> rfl) (by (simp only [go_sem]) <;> rfl) (by (simp only [go_sem]) <;> rfl) (hS)
    apply Tr.done
    · (simp only [go_sem]) <;> rfl
    · simp
  refine EvC.cond (by (simp only [go_sem]) <;> rfl) (fun he => ?_) (fun he => ?_)
  · have he : x = w := by simpa using he
    rw [hid he.symm, if_pos hc]
    refine EvC.seq (EvC.rg (by (simp only [go_sem]) <;> rfl) (by simp) ?_)
    refine EvC.ret ⟨.inl rfl, _, (by (simp only [go_sem]) <;> rfl), ?_, rfl⟩
    simp only [go_sem]
  have he : ¬ x = w := by simpa using he
  refine EvC.skip ?_
  refine EvC.rg (by (simp only [go_sem]) <;> rfl) (by exact inI64_of (by omega) (by omega)) ?_
  exact ⟨[], k + 1, rfl, (by (simp only [go_sem, Int.natCast_add, Int.natCast_one]) <;> rfl), ⟨by omega, fun j hj => by
    rcases Nat.lt_or_ge j k with h | h
    · exact h2 j h
    · obtain rfl : j = k := by omega
      rw [hx]; simpa using he⟩, by omega⟩

set_option maxHeartbeats 4000000 in
theorem add76_is (nl : Bool) (l : List (List Int)) (c : Cp) (w : List Int) (hl : l.length < 1000000) (hs : ∀ x ∈ l, x.length < 1000000) (hw : w ≠ []) (hwl : w.length < 1000000) :
    PureIs prog 76 [.sl nl (l.map nwC) c, .sl false (w.map intC) .unk] (.sl false ((addL l w false).map nwC) .unk) := by
  refine PureIs.of (nv := 2) (hid := [4, 5, 6, 7, 8, 12, 26, 44]) func76 rfl (by kernel_rfl) (by simp [ntmps76]) fun _ => ?_
  rw [ntmps76, results76]
  refine EvC.seq (EvC.rg (by (simp only [go_sem]) <;> rfl) (by simp) ?_)
  refine EvC.seq (EvC.rg (by (simp only [go_sem]) <;> rfl) (by simp) ?_)
  refine EvC.seq (EvC.rg (by (simp only [go_sem]) <;> rfl) (by simp) ?_)
  refine EvC.seq ?_
  refine EvC.seq (EvC.rg (by (simp only [go_sem]) <;> rfl) (by simp) ?_)
  refine EvC.block ?_  -- 0
  have hnw : nwC w = [.sl false (w.map intC) .unk] := rfl
  refine EvC.loopS (σ := Nat × List (List Int) × Bool) (fun g => ⟨[(0, .sl nl (l.map nwC) c), (1, .sl false (w.map intC) .unk), (5, .tl 0 g.2.1.length g.2.1.isEmpty), (6, .sc (.bool g.2.2)), (7, .sc (.int .i64 g.1))], [], [(0, .arr 1 (g.2.1.map nwC) true)], 1⟩) (fun g => l.length - g.1) (fun g => g.1 ≤ l.length ∧ g.2.1.length ≤ 2 * g.1 ∧ g.2.1 ++ addL (l.drop g.1) w g.2.2 = addL l w false) [0, 1, 5, 6, 7] 1 ?_ ?_
  · exact ⟨[(1, 0)], (0, [], false), rfl, (by (simp only [go_sem, Int.natCast_zero, List.map_nil, List.length_nil, List.isEmpty_nil]) <;> rfl), Nat.zero_le _, Nat.zero_le _, rfl⟩
  rintro ⟨k, out, d⟩ ⟨h1, h2, h3⟩
  simp only at h1 h2 h3 ⊢
  have hkin : (k : Int).toNat = k := Int.toNat_natCast k
  refine EvC.seq ?_
  refine EvC.seq (EvC.rg (by (simp only [go_sem, List.length_map]) <;> rfl) (by simp) ?_)
  refine EvC.cond (by (simp only [go_sem]) <;> rfl) (fun hc => ?_) (fun hc => ?_)
  rotate_left
  · -- else
    have hc : ¬ k < l.length := by simpa using hc
    rw [List.drop_eq_nil_of_le (by omega), addL] at h3
    refine EvC.exit ?_  -- 0
    refine EvC.seq ?_
    refine EvC.seq (EvC.rg (by (simp only [go_sem]) <;> rfl) (by simp) ?_)
    cases d with
    | true =>
      rw [if_pos rfl, List.append_nil] at h3
      subst h3
      refine EvC.cond_false (by (simp only [go_sem]) <;> rfl) ?_
      refine EvC.skip ?_
      have hne : (addL l w false).isEmpty = false := by
        cases l with
        | nil => rfl
        | cons a b => rw [addL]; split <;> rfl
      generalize addL l w false = R at hne h2
      refine EvC.frz 0 (by (simp only [go_sem, List.length_map]) <;> rfl) ?_
      rw [hne]
      refine EvC.seq (EvC.rg (by (simp only [go_sem, List.length_map]) <;> rfl) (by simp) ?_)
      refine EvC.ret ⟨.inl rfl, _, (by (simp only [go_sem]) <;> rfl), ?_, rfl⟩
      simp only [go_sem]
    | false =>
      rw [if_neg (by simp)] at h3
      refine EvC.cond_true (by (simp only [go_sem]) <;> rfl) ?_
      have hsn : out.map nwC ++ [[.sl false (w.map intC) .unk]] = (out ++ [w]).map nwC := by rw [List.map_append, List.map_cons, List.map_nil, hnw]
      have hsl : out.length + 1 = (out ++ [w]).length := by simp
      have hr2 : room (out.length + 1) 24 = true := by simp only [room_eq, decide_eq_true_eq]; omega
      rw [hsl] at hr2
      rw [h3] at hsn hsl hr2
      generalize addL l w false = R at hsn hsl hr2
      refine EvC.rg (by (simp only [go_sem, hsn, hsl, List.length_map]) <;> rfl) (by simp [hr2]) ?_
      refine EvC.frz 0 (by (simp only [go_sem, List.length_map]) <;> rfl) ?_
      refine EvC.seq (EvC.rg (by (simp only [go_sem, List.length_map]) <;> rfl) (by simp) ?_)
      refine EvC.ret ⟨.inl rfl, _, (by (simp only [go_sem]) <;> rfl), ?_, rfl⟩
      simp only [go_sem]
  have hc : k < l.length := by simpa using hc
  refine EvC.skip ?_
  refine EvC.seq ?_
  refine EvC.block ?_  -- 1
  have hx : l[k]? = some (l[k]'hc) := List.getElem?_eq_getElem hc
  have hxs := hs _ (List.getElem_mem hc)
  rw [addL_drop hc hx w d] at h3
  generalize l[k]'hc = x at hx hxs h3
  have hC := compare_is false w .unk false x .unk hwl
  generalize cmpW w x = cw at hC h3
  apply EvC.seq
  apply EvC.tr
  · apply Tr.run
    · (simp only [go_sem, hx, nwC, hkin, List.length_map]) <;> rfl
    · simp; try omega
    apply Tr.cons
    · exact .call rfl rfl (by (simp only [go_sem]) <;> rfl) (by (simp only [go_sem]) <;> rfl) (by (simp only [go_sem]) <;> rfl) (by (simp only [go_sem]) <;> rfl) (by (simp only [go_sem]) <;> rfl) (hC)
    apply Tr.done
    · (simp only [go_sem]) <;> rfl
    · simp
  refine EvC.mergeS (α := List (List Int)) (fun o2 => ⟨[(0, .sl nl (l.map nwC) c), (1, .sl false (w.map intC) .unk), (5, .tl 0 o2.length o2.isEmpty), (6, .sc (.bool d)), (7, .sc (.int .i64 k)), (8, .sc (.int .i64 cw))], [], [(0, .arr 1 (o2.map nwC) true)], 1⟩)
    (fun o2 => o2 = out ++ if cw < 0 ∧ d = false then [w] else []) [0, 1, 5, 6, 7, 8] 1 ?_ ?_
  · apply EvC.seq
    apply EvC.trd
    · (simp only [go_sem]) <;> rfl
    · simp
    have hcf : (if decide (cw < 0) = true then !d else false) = decide (cw < 0 ∧ d = false) := by
      by_cases h : cw < 0
      · rw [decide_eq_true h, if_pos rfl]; cases d <;> simp [h]
      · rw [decide_eq_false h]; simp [h]
    by_cases he : cw < 0 ∧ d = false
    · refine EvC.cond_true (by (simp only [go_sem, hcf, decide_eq_true he]) <;> rfl) ?_
      rw [if_pos he]
      have hsn : out.map nwC ++ [[.sl false (w.map intC) .unk]] = (out ++ [w]).map nwC := by rw [List.map_append, List.map_cons, List.map_nil, hnw]
      have hsl : out.length + 1 = (out ++ [w]).length := by simp
      have hse : (out ++ [w]).isEmpty = false := by simp
      have hr2 : room (out.length + 1) 24 = true := by simp only [room_eq, decide_eq_true_eq]; omega
      rw [hsl] at hr2
      generalize out ++ [w] = o2 at hsn hsl hse hr2
      refine EvC.rg (by (simp only [go_sem, hsn, hsl, List.length_map]) <;> rfl) (by simp [hr2]) ?_
      exact ⟨rfl, [(0, 0)], o2, rfl, (by (simp only [go_sem, hse]) <;> rfl), rfl⟩
    refine EvC.cond_false (by (simp only [go_sem, hcf, decide_eq_false he]) <;> rfl) ?_
    refine EvC.skip ?_
    rw [if_neg he, List.append_nil]
    exact ⟨rfl, [(0, 0)], out, rfl, (by (simp only [go_sem]) <;> rfl), rfl⟩
  rintro o2 ho2
  have hol : o2.length ≤ out.length + 1 := by rw [ho2]; split <;> simp
  rw [← List.append_assoc, ← ho2, show o2 ++ x :: addL (l.drop (k + 1)) w (d || decide (cw ≤ 0)) = (o2 ++ [x]) ++ addL (l.drop (k + 1)) w (d || decide (cw ≤ 0)) by simp] at h3
  have hd : (if d = true then true else decide (cw ≤ 0)) = (d || decide (cw ≤ 0)) := by cases d <;> rfl
  generalize hdd : (d || decide (cw ≤ 0)) = d2 at h3 hd
  have hsn : o2.map nwC ++ [[.sl false (x.map intC) .unk]] = (o2 ++ [x]).map nwC := by rw [List.map_append]; rfl
  have hsl : o2.length + 1 = (o2 ++ [x]).length := by simp
  have hse : (o2 ++ [x]).isEmpty = false := by simp
  have hr2 : room (o2.length + 1) 24 = true := by simp only [room_eq, decide_eq_true_eq]; omega
  rw [hsl] at hr2
  generalize hO3 : o2 ++ [x] = o3 at hsn hsl hse hr2 h3
  apply EvC.seq
  apply EvC.trd
  · (simp only [go_sem, hd]) <;> rfl
  · cases d <;> simp
  refine EvC.rg (by (simp only [go_sem, hx, nwC, hkin, hsn, hsl, List.length_map]) <;> rfl) (by simp [hr2, hc]) ?_
  refine EvC.rg (by (simp only [go_sem]) <;> rfl) (by exact inI64_of (by omega) (by omega)) ?_
  exact ⟨[(0, 0)], (k + 1, o3, d2), rfl, (by (simp only [go_sem, hse, Int.natCast_add, Int.natCast_one]) <;> rfl), ⟨by simp only; omega, by simp only; omega, h3⟩, by simp only; omega⟩
end Go.Avl
namespace Go.Avl
open Go Go.Proofs.Try
set_option maxRecDepth 10000
set_option linter.unusedSimpArgs false

/-! ### The words of the nodes -/
/-- How many symbols of a trace were not refused. -/
def preN (r : List Int) : Nat := (r.takeWhile fun x => decide (x ≠ -1)).length
def addP (t : TR) (l : List (List Int)) (k : Nat) : List (List Int) := (List.range k).foldl (fun l j => addL l (t.w.take (j + 1)) false) l
def nodesTo (L : List TR) (i : Nat) : List (List Int) := (L.take i).foldl (fun l t => addP t l (preN t.r)) [[]]
def nodesL (L : List TR) : List (List Int) := L.foldl (fun l t => addP t l (preN t.r)) [[]]
theorem addP_succ (t : TR) (l : List (List Int)) (k : Nat) : addP t l (k + 1) = addL (addP t l k) (t.w.take (k + 1)) false := by
  rw [addP, List.range_succ, List.foldl_append]; rfl
theorem nodesTo_succ {L : List TR} {i : Nat} (h : i < L.length) {t : TR} (ht : L[i]? = some t) : nodesTo L (i + 1) = addP t (nodesTo L i) (preN t.r) := by
  rw [List.getElem?_eq_getElem h] at ht; cases ht
  rw [nodesTo, List.take_succ_eq_append_getElem h, List.foldl_append]; rfl
theorem addL_mem {w : List Int} : ∀ {l : List (List Int)} {d : Bool} {x : List Int}, x ∈ addL l w d → x ∈ l ∨ x = w
  | [], d, x, h => by
    cases d
    · simp [addL] at h; exact .inr h
    · simp [addL] at h
  | y :: l, d, x, h => by
    rw [addL] at h
    rcases List.mem_append.1 h with h | h
    · split at h
      · simp at h; exact .inr h
      · cases h
    · rcases List.mem_cons.1 h with rfl | h
      · exact .inl List.mem_cons_self
      · rcases addL_mem h with h | h
        · exact .inl (List.mem_cons_of_mem _ h)
        · exact .inr h
theorem addP_mem {t : TR} {l : List (List Int)} : ∀ {k : Nat} {x : List Int}, x ∈ addP t l k → x ∈ l ∨ ∃ j, j < k ∧ x = t.w.take (j + 1)
  | 0, x, h => .inl h
  | k + 1, x, h => by
    rw [addP_succ] at h
    rcases addL_mem h with h | h
    · rcases addP_mem h with h | ⟨j, h1, h2⟩
      · exact .inl h
      · exact .inr ⟨j, by omega, h2⟩
    · exact .inr ⟨k, by omega, h⟩
theorem addP_len (t : TR) (l : List (List Int)) : ∀ k, (addP t l k).length ≤ l.length + k
  | 0 => Nat.le_refl _
  | k + 1 => by
    rw [addP_succ]
    have h1 := addL_len (t.w.take (k + 1)) (addP t l k) false
    have h2 := addP_len t l k
    simp at h1; omega
theorem preN_le (r : List Int) : preN r ≤ r.length := (List.takeWhile_prefix _).length_le
theorem nodesTo_len {L : List TR} (hL : ∀ t ∈ L, TrOk t) : ∀ i, i ≤ L.length → (nodesTo L i).length ≤ 1 + 1000 * i
  | 0, _ => by simp [nodesTo]
  | i + 1, h => by
    have hi : i < L.length := h
    rw [nodesTo_succ hi (List.getElem?_eq_getElem hi)]
    have h1 := addP_len L[i] (nodesTo L i) (preN L[i].r)
    have h2 := nodesTo_len hL i (by omega)
    have h3 := preN_le L[i].r
    have h4 := (hL _ (List.getElem_mem hi)).len
    have h5 := (hL _ (List.getElem_mem hi)).small
    omega
theorem nodesTo_mem {L : List TR} (hL : ∀ t ∈ L, TrOk t) : ∀ i, i ≤ L.length → ∀ x ∈ nodesTo L i, x.length ≤ 1000
  | 0, _, x, h => by simp [nodesTo] at h; subst h; exact Nat.zero_le _
  | i + 1, h, x, hx => by
    have hi : i < L.length := h
    rw [nodesTo_succ hi (List.getElem?_eq_getElem hi)] at hx
    rcases addP_mem hx with h1 | ⟨j, _, rfl⟩
    · exact nodesTo_mem hL i (by omega) x h1
    · have := (hL _ (List.getElem_mem hi)).small
      rw [List.length_take]; omega
theorem preN_get {r : List Int} {k : Nat} (h : k < r.length) (hk : k ≤ preN r) : k < preN r ↔ r[k] ≠ -1 := by
  unfold preN at hk ⊢
  induction r generalizing k with
  | nil => simp at h
  | cons y r ih =>
    rw [List.takeWhile_cons] at hk ⊢
    by_cases hy : y = -1
    · subst hy
      simp at hk
      subst hk
      simp
    · have e : decide (y ≠ -1) = true := decide_eq_true hy
      rw [e] at hk ⊢
      simp only [if_true, List.length_cons] at hk ⊢
      cases k with
      | zero => simp [hy]
      | succ k =>
        simp only [List.length_cons] at h
        have := ih (k := k) (by omega) (by omega)
        simp only [List.getElem_cons_succ]
        omega

set_option maxHeartbeats 4000000 in
theorem nodes61_is (i o : Int) (nl : Bool) (L : List TR) (c : Cp) (hL : ∀ t ∈ L, TrOk t) (hl : L.length ≤ 900) :
    PureIs prog 61 [.ag [.sc (.int .i64 i), .sc (.int .i64 o), .sl nl (L.map traceC) c]] (.sl false ((nodesL L).map nwC) .unk) := by
  have hfin : nodesTo L L.length = nodesL L := by rw [nodesTo, List.take_length]; rfl
  refine PureIs.of (nv := 1) (hid := [1, 2, 3, 4, 5, 6, 13, 33]) func61 rfl (by kernel_rfl) (by simp [ntmps61]) fun _ => ?_
  rw [ntmps61, results61]
  refine EvC.seq (EvC.rg (by (simp only [go_sem]) <;> rfl) (by simp) ?_)
  refine EvC.frzB 0 (by (simp only [go_sem]) <;> rfl) ?_
  refine EvC.seq (EvC.rg (by (simp only [go_sem]) <;> rfl) (by simp) ?_)
  refine EvC.unkV 3 (by (simp only [go_sem]) <;> rfl) ?_
  refine EvC.seq ?_
  refine EvC.seq (EvC.rg (by (simp only [go_sem]) <;> rfl) (by simp) ?_)
  refine EvC.block ?_  -- 0
  refine EvC.loopS (σ := Nat) (fun k => ⟨[(1, .ia [.sc (.int .i64 i), .sc (.int .i64 o), .sl nl (L.map traceC) c]), (3, .sl false ((nodesTo L k).map nwC) .unk), (4, .sc (.int .i64 k))], [], [], 0⟩) (fun k => L.length - k) (fun k => k ≤ L.length) [1, 3, 4] 0 ?_ ?_
  · exact ⟨[], 0, rfl, (by (simp only [go_sem, Int.natCast_zero, nodesTo, List.take_zero, List.foldl_nil, List.map_nil, List.map_cons, nwC]) <;> rfl), Nat.zero_le _⟩
  rintro k h1
  have hkin : (k : Int).toNat = k := Int.toNat_natCast k
  refine EvC.seq ?_
  refine EvC.seq (EvC.rg (by (simp only [go_sem, List.length_map]) <;> rfl) (by simp) ?_)
  refine EvC.cond (by (simp only [go_sem]) <;> rfl) (fun hc => ?_) (fun hc => ?_)
  rotate_left
  · -- else
    have hc : ¬ k < L.length := by simpa using hc
    rw [← hfin, show L.length = k by omega]
    refine EvC.exit ?_  -- 0
    refine EvC.seq (EvC.rg (by (simp only [go_sem]) <;> rfl) (by simp) ?_)
    refine EvC.ret ⟨.inl rfl, _, (by (simp only [go_sem]) <;> rfl), ?_, rfl⟩
    simp only [go_sem]
  have hc : k < L.length := by simpa using hc
  refine EvC.skip ?_
  refine EvC.seq ?_
  refine EvC.block ?_  -- 1
  have hx : L[k]? = some (L[k]'hc) := List.getElem?_eq_getElem hc
  have hxk := hL _ (List.getElem_mem hc)
  have hnext := nodesTo_succ hc hx
  generalize L[k]'hc = t at hx hxk hnext
  have hnl := nodesTo_len hL k (by omega)
  have hnm := nodesTo_mem hL k (by omega)
  generalize nodesTo L k = N at hnext hnl hnm
  have ht1 := hxk.len
  have ht2 := hxk.small
  have hP := preN_le t.r
  refine EvC.seq (EvC.rg (by (simp only [go_sem, hx, hkin, List.length_map, traceC]) <;> rfl) (by simp [hc]) ?_)
  refine EvC.frzB 10 (by (simp only [go_sem]) <;> rfl) ?_
  refine EvC.seq (EvC.rg (by (simp only [go_sem]) <;> rfl) (by simp) ?_)
  refine EvC.block ?_  -- 2
  refine EvC.loopS (σ := Nat) (fun j => ⟨[(1, .ia [.sc (.int .i64 i), .sc (.int .i64 o), .sl nl (L.map traceC) c]), (3, .sl false ((addP t N j).map nwC) .unk), (4, .sc (.int .i64 k)), (5, .ia (traceC t)), (6, .sc (.int .i64 j))], [], [], 0⟩) (fun j => preN t.r - j) (fun j => j ≤ preN t.r) [1, 3, 4, 5, 6] 0 ?_ ?_
  · exact ⟨[], 0, rfl, (by (simp only [go_sem, Int.natCast_zero, addP, List.range_zero, List.foldl_nil, traceC]) <;> rfl), Nat.zero_le _⟩
  rintro j g1
  have hjin : (j : Int).toNat = j := Int.toNat_natCast j
  have hj1 : ((j : Int) + 1).toNat = j + 1 := by omega
  have hal := addP_len t N j
  have ham : ∀ x ∈ addP t N j, x.length < 1000000 := fun x hx => by
    rcases addP_mem hx with h | ⟨z, _, rfl⟩
    · have := hnm x h; omega
    · rw [List.length_take]; omega
  have hsucc := addP_succ t N j
  -- the end of the inner loop
  have hend : j = preN t.r → nodesTo L (k + 1) = addP t N j := fun h => by rw [hnext, h]
  obtain ⟨tw, tr⟩ := t
  simp only at ht1 ht2 hP g1 hend hsucc ⊢
  generalize hA : addP ⟨tw, tr⟩ N j = A at hal ham hsucc hend
  refine EvC.seq ?_
  by_cases e1 : j < tw.length
  rotate_left
  · have d1 : decide ((j : Int) < tw.length) = false := decide_eq_false (by omega)
    have hr : tr[j]? = none := List.getElem?_eq_none (by omega)
    have hjp : j = preN tr := by omega
    apply EvC.seq
    apply EvC.tr
    · apply Tr.run
      · (simp only [go_sem, traceC, List.length_map, List.getElem?_map, hr, hjin, d1]) <;> rfl
      · simp
      apply Tr.cons
      · exact .skipv (.ia [.sc (.int .i64 0)]) rfl rfl (by (simp only [go_sem]) <;> rfl) (by (simp only [go_sem]) <;> rfl)
      apply Tr.done
      · (simp only [go_sem, traceC, List.length_map, List.getElem?_map, hr, hjin, d1]) <;> rfl
      · simp
    refine EvC.cond_false (by (simp only [go_sem]) <;> rfl) ?_
    refine EvC.exit ?_  -- 2
    refine EvC.rg (by (simp only [go_sem]) <;> rfl) (by exact inI64_of (by omega) (by omega)) ?_
    exact ⟨[], k + 1, rfl, (by rw [hend hjp]; (simp only [go_sem, Int.natCast_add, Int.natCast_one]) <;> rfl), by omega, by omega⟩
  have d1 : decide ((j : Int) < tw.length) = true := decide_eq_true (by omega)
  have hr : tr[j]? = some (tr[j]'(by omega)) := List.getElem?_eq_getElem _
  have hpg := preN_get (r := tr) (k := j) (by omega) g1
  generalize tr[j]'(by omega) = v at hr hpg
  apply EvC.seq
  apply EvC.trd
  · (simp only [go_sem, traceC, List.length_map, List.getElem?_map, hr, hjin, d1, intC]) <;> rfl
  · simp; try omega
  refine EvC.cond (by (simp only [go_sem]) <;> rfl) (fun he => ?_) (fun he => ?_)
  rotate_left
  · have he : v = -1 := by simpa using he
    have hjp : j = preN tr := by
      have : ¬ j < preN tr := fun h => hpg.1 h he
      omega
    refine EvC.exit ?_  -- 2
    refine EvC.rg (by (simp only [go_sem]) <;> rfl) (by exact inI64_of (by omega) (by omega)) ?_
    exact ⟨[], k + 1, rfl, (by rw [hend hjp]; (simp only [go_sem, Int.natCast_add, Int.natCast_one]) <;> rfl), by omega, by omega⟩
  have he : ¬ v = -1 := by simpa using he
  have hjp := hpg.2 he
  refine EvC.skip ?_
  refine EvC.seq ?_
  refine EvC.block ?_  -- 3
  have hwe : tw.isEmpty = false := by
    cases tw with
    | nil => simp at e1
    | cons _ _ => rfl
  have htk : tw.take (j + 1) ≠ [] := fun h => by
    have h2 : (tw.take (j + 1)).length = 0 := by rw [h]; rfl
    rw [List.length_take] at h2; omega
  have hadd := add76_is false A .unk (tw.take (j + 1)) (by omega) ham htk (by rw [List.length_take]; omega)
  have htm : List.take (j + 1) (tw.map intC) = (tw.take (j + 1)).map intC := (List.map_take ..).symm
  apply EvC.tr
  · apply Tr.run
    · (simp only [go_sem, traceC, List.length_map, hj1, htm, hwe]) <;> rfl
    · simp [intC]; exact ⟨inI64_of (by omega) (by omega), by omega⟩
    apply Tr.cons
    · exact .call rfl rfl (by (simp only [go_sem]) <;> rfl) (by (simp only [go_sem]) <;> rfl) (by (simp only [go_sem]) <;> rfl) (by (simp only [go_sem]) <;> rfl) (by (simp only [go_sem]) <;> rfl) (hadd)
    apply Tr.done
    · (simp only [go_sem, traceC]) <;> rfl
    · simp
  refine EvC.rg (by (simp only [go_sem]) <;> rfl) (by exact inI64_of (by omega) (by omega)) ?_
  exact ⟨[], j + 1, rfl, (by rw [hsucc]; (simp only [go_sem, Int.natCast_add, Int.natCast_one, traceC, hwe]) <;> rfl), by omega, by omega⟩
end Go.Avl
