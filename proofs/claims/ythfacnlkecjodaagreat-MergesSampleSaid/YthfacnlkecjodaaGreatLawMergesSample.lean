/-
  MergesSample returns true at every input, and each argument reads behind the call as it read before.
-/
import Derived.Test.YthfacnlkecjodaaGreatPart11
set_option linter.unusedSimpArgs false
set_option linter.unusedVariables false
set_option linter.unnecessarySimpa false
set_option linter.deprecated false
namespace Go.Proofs.YthfacnlkecjodaaGreat
open Go Go.Avl Go.Proofs Go.ChangeShapes Go.RowKit
set_option maxRecDepth 100000 in
theorem mergesSample_lifted(os:Os)(started:os.Started)(H:Type)(enc:TypeId×Value→H):
  ReturnsInHanded {} Tryz.checked os 3 .any (Rows.mergesSampleSpec.pre6 enc Tryz.prog Tryz.f3 Rows.mergesSampleRow.domain false) (Rows.mergesSampleSpec.post enc Tryz.prog Tryz.f3 false true false false):=by
 refine returnsInHanded_of_change_sized (C:=Tryz.checked) Tryz.own started (by kernel_rfl) Tryz.func3
  (ChangeSpec.witness6 (enc:=enc) (C:=Tryz.checked) false ⟨#[],#[.agg #[.int .u8 0,.int .u8 0,.int .u8 0,.slice none 0 0,.slice none 0 0],.slice none 0 0,.int .u16 0],[]⟩ 8 (by kernel_rfl) (by kernel_rfl) (by kernel_rfl) (by kernel_rfl)) ?_
 intro W base args ds gs before hval hW _ hz _;have hW':=hW;obtain⟨p,q,hA,hV,rfl,_,_⟩:=hW';obtain⟨rfl,rfl⟩:=trodVars_none hV;have hA':DataW.TrodAll enc Tryz.prog W 0 (fun _=>true) true [27,28,29] args.toList ds p:=by rw[←show Tryz.f3.params.toList=[27,28,29]from rfl];exact hA
 obtain⟨v0,v1,v2,d0,d1,d2,p0,p1,p2,rfl,rfl,rfl,h0,h1,h2⟩:=trodAll_three hA';have hz':(DataW.weightsEach Tryz.prog [27,28,29] [d0,d1,d2]).all (·≤reachBytes)=true:=hz;have hf:=fits_each (P:=Tryz.prog) (ts:=[27,28,29]) (l:=[d0,d1,d2]) fun n hn=>by simpa using List.all_eq_true.1 hz' n hn
 obtain⟨x,hx,i0⟩:=rd_K.imm_struct Tryz.underlying27 (hval 0 27 v0 rfl rfl) (hf 0 27 d0 rfl rfl) h0;obtain⟨y,hy,i1⟩:=rd_wbs.imm_slice Tryz.underlying28 (hval 1 28 v1 rfl rfl) (hf 1 28 d1 rfl rfl) h1;obtain⟨z,hz2,i2⟩:=rd_u16'.imm_int (k:=.u16) (by kernel_rfl) (hval 2 29 v2 rfl rfl) (hf 2 29 d2 rfl rfl) h2;exact law_calls Tryz.laidOut (by kernel_rfl) rfl (by kernel_rfl) rfl rfl (mergesSample_is hx y.1 y.2 .unk hy z hz2) (Imms.append (.one i0) (Imms.append (.one i1) (.one i2))) hW
theorem mergesSample_holds:Rows.MergesSampleSaid:=
 OpenClaim.holds_of_wide 3 Tryz.f3 rfl rfl rfl rfl rfl rfl rfl ⟨rfl,rfl,rfl,rfl,rfl⟩ rfl rfl rfl rfl rfl (by kernel_rfl) Tryz.func3 (by kernel_rfl)
  (of_decide_eq_true (by kernel_rfl)) (by unfold Func.isWrapper;first|(rw[if_pos (by decide +kernel)];kernel_rfl)|(rw[if_neg (by decide +kernel)];exact⟨rfl,rfl⟩))
  (fun os started H enc _=>mergesSample_lifted os started H enc)
#print axioms mergesSample_holds
end Go.Proofs.YthfacnlkecjodaaGreat
