/-
  Lemmas.
  Lemmas.
  MergesFold returns true at every input, and each argument reads behind the call as it read before.
  Conditions: those of the given row alone (no others).
-/
import Derived.Test.YtkfpnkpomjmpeaaPart10
set_option linter.unusedSimpArgs false
set_option linter.unusedVariables false
set_option linter.unnecessarySimpa false
set_option linter.deprecated false
namespace Go.Avl
open Go Go.Proofs.Try
set_option maxRecDepth 10000
set_option linter.unusedSimpArgs false

/-! ### MergesCompatible -/
theorem treeM_rowsF (i : Nat) (o : Int) (L : List TR) : RowsF (treeM i o L) := fun r hr _ => by
  unfold treeM at hr
  simp only [List.mem_map] at hr
  obtain ⟨x, _, rfl⟩ := hr
  rfl
theorem TV.short {t : Mach} (v : TV t) : ∀ r ∈ t.rows, r.2.length < 1000000 := fun r hr => by
  obtain ⟨i, hi, rfl⟩ := List.mem_iff_getElem.1 hr
  have := (v.row i _ (List.getElem?_eq_getElem hi)).1
  have := v.ins
  omega
theorem LG.tree_is {g : LG} (hg : g.Ok) : PureIs prog 11 [logA g.m.mach.ins g.m.mach.outs g.log] (.ag g.tree.cells) := by
  have va := (LM.valid hg.m).ins
  have hl := (LG.log_len (g := g)).1
  have := tree11_is g.m.mach.ins.toNat g.m.mach.outs g.log.isEmpty g.log .unk (fun t ht => ⟨(LG.log_val hg t ht).len, by have := (LG.log_len (g := g)).2 t ht; omega⟩) (by omega) (by omega)
  rw [Int.toNat_of_nonneg (by omega)] at this
  exact this
theorem nodesE_zero {t : Mach} (h : checkT t = 0) {l : List Int} (hl : ∀ x ∈ l, 0 ≤ x ∧ x < t.rows.length) : nodesE t l = 0 := by
  unfold nodesE
  rw [h, if_neg (by simp), if_pos]
  rw [List.all_eq_true]
  intro x hx
  have := hl x hx
  unfold inT
  simp; omega
theorem comp13_node {t : Mach} (h : checkT t = 0) (v : TV t) {a b : Nat} (ha : a < t.rows.length) (hb : b < t.rows.length) : PureIs prog 13 [.ag t.cells, .sc (.int .i64 a), .sc (.int .i64 b)] (.tu [.sc (.bool (compB t a b)), .sc (.int .i64 0)]) := by
  have := comp13_is t v.short a b
  unfold compAns at this
  rw [nodesE_zero h (by intro x hx; simp at hx; omega), if_neg (by simp), Int.toNat_natCast, Int.toNat_natCast] at this
  exact this
set_option maxHeartbeats 8000000 in
theorem mergesCompatible_is {g : LG} (hg : g.Ok) {a b : Int} (ha : 0 ≤ a ∧ a < 256) (hb : 0 ≤ b ∧ b < 256) : PureIs prog 3 [.ag g.cells, .sc (.int .u8 a), .sc (.int .u8 b)] (.sc (.bool true)) := by
  obtain ⟨hck, v, hins⟩ := LG.tree_ok hg
  have hO := of12_is hg
  have hT := LG.tree_is hg
  have hL := lives15_is
  have hrw := v.rows
  generalize g.tree = t at hck v hT hrw
  obtain ⟨p, hp⟩ : ∃ p : Nat, a % (t.rows.length : Int) = p := ⟨(a % (t.rows.length : Int)).toNat, by have := Int.emod_nonneg a (b := (t.rows.length : Int)) (by omega); omega⟩
  obtain ⟨q, hq⟩ : ∃ q : Nat, b % (t.rows.length : Int) = q := ⟨(b % (t.rows.length : Int)).toNat, by have := Int.emod_nonneg b (b := (t.rows.length : Int)) (by omega); omega⟩
  have hpN : p < t.rows.length := by have := Int.emod_lt_of_pos a (b := (t.rows.length : Int)) (by omega); omega
  have hqN : q < t.rows.length := by have := Int.emod_lt_of_pos b (b := (t.rows.length : Int)) (by omega); omega
  have c1 := comp13_node hck v hpN hqN
  have c2 := comp13_node hck v hqN hpN
  have c3 := comp14_is v _ p q hpN hqN (Nat.le_refl _)
  rw [compB_symm v hqN hpN] at c2
  generalize compB t p q = r at c1 c2 c3
  unfold logA at hO hT
  rw [Mach.cells] at hT c1 c2 c3
  unfold LG.cells at *
  refine PureIs.of (nv := 4) (hid := [6, 7, 8, 9, 10, 11, 12, 13]) func3 rfl (by kernel_rfl) (by simp [ntmps3]) fun _ => ?_
  rw [ntmps3, results3]
  refine EvC.seq (EvC.rg (by (simp only [go_sem]) <;> rfl) (by simp) ?_)
  refine EvC.frzB 0 (by (simp only [go_sem]) <;> rfl) ?_
  apply EvC.seq
  apply EvC.tr
  · apply Tr.run
    · (simp only [go_sem]) <;> rfl
    · simp
    apply Tr.cons
    · exact .call rfl rfl (by (simp only [go_sem]) <;> rfl) (by (simp only [go_sem]) <;> rfl) (by (simp only [go_sem]) <;> rfl) (by (simp only [go_sem]) <;> rfl) (by (simp only [go_sem]) <;> rfl) (hO)
    apply Tr.run
    · (simp only [go_sem]) <;> rfl
    · simp
    apply Tr.cons
    · exact .call rfl rfl (by (simp only [go_sem]) <;> rfl) (by (simp only [go_sem]) <;> rfl) (by (simp only [go_sem]) <;> rfl) (by (simp only [go_sem]) <;> rfl) (by (simp only [go_sem]) <;> rfl) (hT)
    apply Tr.done
    · (simp only [go_sem]) <;> rfl
    · simp
  refine EvC.frzB 5 (by (simp only [go_sem]) <;> rfl) ?_
  refine EvC.gc [1, 2, 7] [] 0 rfl ?_
  refine EvC.seq (EvC.rg (by (simp only [go_sem, List.length_map, hp]) <;> rfl) (by simp; exact ⟨inI64_of (by omega) (by omega), ha.1, by omega⟩) ?_)
  refine EvC.seq (EvC.rg (by (simp only [go_sem, List.length_map, hq]) <;> rfl) (by simp; exact ⟨inI64_of (by omega) (by omega), hb.1, by omega⟩) ?_)
  apply EvC.seq
  apply EvC.tr
  · apply Tr.run
    · (simp only [go_sem]) <;> rfl
    · simp
    apply Tr.cons
    · exact .call rfl rfl (by (simp only [go_sem]) <;> rfl) (by (simp only [go_sem]) <;> rfl) (by (simp only [go_sem]) <;> rfl) (by (simp only [go_sem]) <;> rfl) (by (simp only [go_sem]) <;> rfl) (c1)
    apply Tr.done
    · (simp only [go_sem]) <;> rfl
    · simp
  apply EvC.seq
  apply EvC.tr
  · apply Tr.run
    · (simp only [go_sem]) <;> rfl
    · simp
    apply Tr.cons
    · exact .call rfl rfl (by (simp only [go_sem]) <;> rfl) (by (simp only [go_sem]) <;> rfl) (by (simp only [go_sem]) <;> rfl) (by (simp only [go_sem]) <;> rfl) (by (simp only [go_sem]) <;> rfl) (c2)
    apply Tr.done
    · (simp only [go_sem]) <;> rfl
    · simp
  cases r with
  | true =>
    apply EvC.seq
    apply EvC.tr
    · apply Tr.run
      · (simp only [go_sem]) <;> rfl
      · simp
      apply Tr.cons
      · exact .callG rfl rfl (by (simp only [go_sem]) <;> rfl) rfl (by (simp only [go_sem]) <;> rfl) (by (simp only [go_sem]) <;> rfl) (by (simp only [go_sem]) <;> rfl) (by (simp only [go_sem]) <;> rfl) (by (simp only [go_sem]) <;> rfl) (c3)
      apply Tr.run
      · (simp only [go_sem]) <;> rfl
      · simp
      apply Tr.cons
      · exact .callG rfl rfl (by (simp only [go_sem]) <;> rfl) rfl (by (simp only [go_sem]) <;> rfl) (by (simp only [go_sem]) <;> rfl) (by (simp only [go_sem]) <;> rfl) (by (simp only [go_sem]) <;> rfl) (by (simp only [go_sem]) <;> rfl) (hL)
      apply Tr.done
      · (simp only [go_sem]) <;> rfl
      · simp
    refine EvC.ret ⟨.inl rfl, _, (by (simp only [go_sem]) <;> rfl), ?_, rfl⟩
    simp only [go_sem]
    rfl
  | false =>
    apply EvC.seq
    apply EvC.tr
    · apply Tr.run
      · (simp only [go_sem]) <;> rfl
      · simp
      apply Tr.cons
      · exact .callG rfl rfl (by (simp only [go_sem]) <;> rfl) rfl (by (simp only [go_sem]) <;> rfl) (by (simp only [go_sem]) <;> rfl) (by (simp only [go_sem]) <;> rfl) (by (simp only [go_sem]) <;> rfl) (by (simp only [go_sem]) <;> rfl) (c3)
      apply Tr.run
      · (simp only [go_sem]) <;> rfl
      · simp
      apply Tr.cons
      · exact .callG rfl rfl (by (simp only [go_sem]) <;> rfl) rfl (by (simp only [go_sem]) <;> rfl) (by (simp only [go_sem]) <;> rfl) (by (simp only [go_sem]) <;> rfl) (by (simp only [go_sem]) <;> rfl) (by (simp only [go_sem]) <;> rfl) (hL)
      apply Tr.done
      · (simp only [go_sem]) <;> rfl
      · simp
    refine EvC.ret ⟨.inl rfl, _, (by (simp only [go_sem]) <;> rfl), ?_, rfl⟩
    simp only [go_sem]
    rfl
end Go.Avl
namespace Go.Avl
open Go Go.Proofs.Try
set_option maxRecDepth 10000
set_option linter.unusedSimpArgs false

/-! ### MergesFold -/
theorem same_nat (na nb : Bool) (c : List Nat) (ca cb : Cp) (h : c.length < 1000000) : PureIs prog 19 [.sl na (c.map natC) ca, .sl nb (c.map natC) cb] (.sc (.bool true)) := by
  have := same_is na (c.map fun (x : Nat) => (x : Int)) ca nb (c.map fun (x : Nat) => (x : Int)) cb (by simpa using h)
  rw [List.map_map, decide_eq_true rfl] at this
  exact this
theorem foldC_len {t : Mach} (v : TV t) {c : List Nat} {a b : Nat} (ha : a < t.rows.length) (hb : b < t.rows.length) (h : foldC t (List.range t.rows.length) a b = some c) : c.length = t.rows.length := (fold_mono v (isF_alone t) ha hb h).1.len
set_option maxHeartbeats 8000000 in
theorem mergesFold_is {g : LG} (hg : g.Ok) {a b : Int} (ha : 0 ≤ a ∧ a < 256) (hb : 0 ≤ b ∧ b < 256) : PureIs prog 4 [.ag g.cells, .sc (.int .u8 a), .sc (.int .u8 b)] (.sc (.bool true)) := by
  obtain ⟨hck, v, hins⟩ := LG.tree_ok hg
  have hO := of12_is hg
  have hT := LG.tree_is hg
  have hL := lives15_is
  have hrw := v.rows
  have hRF := treeM_rowsF g.m.mach.ins.toNat g.m.mach.outs (okLog g.log)
  rw [show treeM g.m.mach.ins.toNat g.m.mach.outs (okLog g.log) = g.tree from rfl] at hRF
  generalize g.tree = t at hck v hT hrw hRF
  obtain ⟨p, hp⟩ : ∃ p : Nat, a % (t.rows.length : Int) = p := ⟨(a % (t.rows.length : Int)).toNat, by have := Int.emod_nonneg a (b := (t.rows.length : Int)) (by omega); omega⟩
  obtain ⟨q, hq⟩ : ∃ q : Nat, b % (t.rows.length : Int) = q := ⟨(b % (t.rows.length : Int)).toNat, by have := Int.emod_nonneg b (b := (t.rows.length : Int)) (by omega); omega⟩
  have hpN : p < t.rows.length := by have := Int.emod_lt_of_pos a (b := (t.rows.length : Int)) (by omega); omega
  have hqN : q < t.rows.length := by have := Int.emod_lt_of_pos b (b := (t.rows.length : Int)) (by omega); omega
  have c1 := fold16_is t v.short hRF p q
  unfold foldRes at c1
  rw [nodesE_zero hck (by intro x hx; simp at hx; omega), if_neg (by simp), Int.toNat_natCast, Int.toNat_natCast] at c1
  have c2 := alone18_is (t := t) (by omega)
  have c3 := fold17_is v (isF_alone t) hpN hqN
  have c5 := comp14_is v _ p q hpN hqN (Nat.le_refl _)
  have hfc := fun d h => fold_comp v (d := d) hpN hqN h
  have hfl := fun d h => foldC_len v (c := d) hpN hqN h
  generalize foldC t (List.range t.rows.length) p q = r at c1 c3 hfc hfl
  unfold logA at hO hT
  rw [Mach.cells] at hT c1 c2 c3 c5
  unfold LG.cells at *
  refine PureIs.of (nv := 4) (hid := [6, 7, 8, 9, 10, 11, 12, 13, 14]) func4 rfl (by kernel_rfl) (by simp [ntmps4]) fun _ => ?_
  rw [ntmps4, results4]
  refine EvC.seq (EvC.rg (by (simp only [go_sem]) <;> rfl) (by simp) ?_)
  refine EvC.frzB 0 (by (simp only [go_sem]) <;> rfl) ?_
  apply EvC.seq
  apply EvC.tr
  · apply Tr.run
    · (simp only [go_sem]) <;> rfl
    · simp
    apply Tr.cons
    · exact .call rfl rfl (by (simp only [go_sem]) <;> rfl) (by (simp only [go_sem]) <;> rfl) (by (simp only [go_sem]) <;> rfl) (by (simp only [go_sem]) <;> rfl) (by (simp only [go_sem]) <;> rfl) (hO)
    apply Tr.run
    · (simp only [go_sem]) <;> rfl
    · simp
    apply Tr.cons
    · exact .call rfl rfl (by (simp only [go_sem]) <;> rfl) (by (simp only [go_sem]) <;> rfl) (by (simp only [go_sem]) <;> rfl) (by (simp only [go_sem]) <;> rfl) (by (simp only [go_sem]) <;> rfl) (hT)
    apply Tr.done
    · (simp only [go_sem]) <;> rfl
    · simp
  refine EvC.frzB 5 (by (simp only [go_sem]) <;> rfl) ?_
  refine EvC.gc [1, 2, 7] [] 0 rfl ?_
  refine EvC.seq (EvC.rg (by (simp only [go_sem, List.length_map, hp]) <;> rfl) (by simp; exact ⟨inI64_of (by omega) (by omega), ha.1, by omega⟩) ?_)
  refine EvC.seq (EvC.rg (by (simp only [go_sem, List.length_map, hq]) <;> rfl) (by simp; exact ⟨inI64_of (by omega) (by omega), hb.1, by omega⟩) ?_)
  cases r with
  | none =>
    simp only [foldA, Option.isSome_none] at c1 c3
    have s0 := same_nat true true [] .zer .unk (by simp)
    apply EvC.seq
    apply EvC.tr
    · apply Tr.run
      · (simp only [go_sem]) <;> rfl
      · simp
      apply Tr.cons
      · exact .call rfl rfl (by (simp only [go_sem]) <;> rfl) (by (simp only [go_sem]) <;> rfl) (by (simp only [go_sem]) <;> rfl) (by (simp only [go_sem]) <;> rfl) (by (simp only [go_sem]) <;> rfl) (c1)
      apply Tr.done
      · (simp only [go_sem]) <;> rfl
      · simp
    apply EvC.seq
    apply EvC.drw mixed
    · apply Tr.run
      · (simp only [go_sem]) <;> rfl
      · simp
      apply Tr.cons
      · exact .call rfl rfl (by (simp only [go_sem]) <;> rfl) (by (simp only [go_sem]) <;> rfl) (by (simp only [go_sem]) <;> rfl) (by (simp only [go_sem]) <;> rfl) (by (simp only [go_sem]) <;> rfl) (c2)
      apply Tr.run
      · (simp only [go_sem]) <;> rfl
      · simp
      apply Tr.cons
      · exact .call rfl rfl (by (simp only [go_sem]) <;> rfl) (by (simp only [go_sem]) <;> rfl) (by (simp only [go_sem]) <;> rfl) (by (simp only [go_sem]) <;> rfl) (by (simp only [go_sem]) <;> rfl) (c3)
      apply Tr.done
      · (simp only [go_sem]) <;> rfl
      · simp
    · kernel_rfl
    apply EvC.seq
    apply EvC.tr
    · apply Tr.run
      · (simp only [go_sem]) <;> rfl
      · simp
      apply Tr.cons
      · exact .callG rfl rfl (by (simp only [go_sem]) <;> rfl) rfl (by (simp only [go_sem]) <;> rfl) (by (simp only [go_sem]) <;> rfl) (by (simp only [go_sem]) <;> rfl) (by (simp only [go_sem]) <;> rfl) (by (simp only [go_sem]) <;> rfl) (s0)
      apply Tr.run
      · (simp only [go_sem]) <;> rfl
      · simp
      apply Tr.cons
      · exact .skipv ((.sc (.bool false))) rfl rfl (by (simp only [go_sem]) <;> rfl) (by (simp only [go_sem]) <;> rfl)
      apply Tr.run
      · (simp only [go_sem]) <;> rfl
      · simp
      apply Tr.cons
      · exact .callG rfl rfl (by (simp only [go_sem]) <;> rfl) rfl (by (simp only [go_sem]) <;> rfl) (by (simp only [go_sem]) <;> rfl) (by (simp only [go_sem]) <;> rfl) (by (simp only [go_sem]) <;> rfl) (by (simp only [go_sem]) <;> rfl) (hL)
      apply Tr.done
      · (simp only [go_sem]) <;> rfl
      · simp
    refine EvC.ret ⟨.inl rfl, _, (by (simp only [go_sem]) <;> rfl), ?_, rfl⟩
    simp only [go_sem]
    rfl
  | some c =>
    simp only [foldA, Option.isSome_some] at c1 c3
    have hcl := hfl c rfl
    have s0 := same_nat false false c .full .unk (by omega)
    rw [hfc c rfl] at c5
    apply EvC.seq
    apply EvC.tr
    · apply Tr.run
      · (simp only [go_sem]) <;> rfl
      · simp
      apply Tr.cons
      · exact .call rfl rfl (by (simp only [go_sem]) <;> rfl) (by (simp only [go_sem]) <;> rfl) (by (simp only [go_sem]) <;> rfl) (by (simp only [go_sem]) <;> rfl) (by (simp only [go_sem]) <;> rfl) (c1)
      apply Tr.done
      · (simp only [go_sem]) <;> rfl
      · simp
    apply EvC.seq
    apply EvC.drw mixed
    · apply Tr.run
      · (simp only [go_sem]) <;> rfl
      · simp
      apply Tr.cons
      · exact .call rfl rfl (by (simp only [go_sem]) <;> rfl) (by (simp only [go_sem]) <;> rfl) (by (simp only [go_sem]) <;> rfl) (by (simp only [go_sem]) <;> rfl) (by (simp only [go_sem]) <;> rfl) (c2)
      apply Tr.run
      · (simp only [go_sem]) <;> rfl
      · simp
      apply Tr.cons
      · exact .call rfl rfl (by (simp only [go_sem]) <;> rfl) (by (simp only [go_sem]) <;> rfl) (by (simp only [go_sem]) <;> rfl) (by (simp only [go_sem]) <;> rfl) (by (simp only [go_sem]) <;> rfl) (c3)
      apply Tr.done
      · (simp only [go_sem]) <;> rfl
      · simp
    · kernel_rfl
    apply EvC.seq
    apply EvC.tr
    · apply Tr.run
      · (simp only [go_sem, List.length_map]) <;> rfl
      · simp
      apply Tr.cons
      · exact .callG rfl rfl (by (simp only [go_sem]) <;> rfl) rfl (by (simp only [go_sem]) <;> rfl) (by (simp only [go_sem]) <;> rfl) (by (simp only [go_sem]) <;> rfl) (by (simp only [go_sem]) <;> rfl) (by (simp only [go_sem]) <;> rfl) (s0)
      apply Tr.run
      · (simp only [go_sem, List.length_map]) <;> rfl
      · simp
      apply Tr.cons
      · exact .callG rfl rfl (by (simp only [go_sem]) <;> rfl) rfl (by (simp only [go_sem]) <;> rfl) (by (simp only [go_sem]) <;> rfl) (by (simp only [go_sem]) <;> rfl) (by (simp only [go_sem]) <;> rfl) (by (simp only [go_sem]) <;> rfl) (c5)
      apply Tr.run
      · (simp only [go_sem, List.length_map]) <;> rfl
      · simp
      apply Tr.cons
      · exact .callG rfl rfl (by (simp only [go_sem]) <;> rfl) rfl (by (simp only [go_sem]) <;> rfl) (by (simp only [go_sem]) <;> rfl) (by (simp only [go_sem]) <;> rfl) (by (simp only [go_sem]) <;> rfl) (by (simp only [go_sem]) <;> rfl) (hL)
      apply Tr.done
      · (simp only [go_sem]) <;> rfl
      · simp
    refine EvC.ret ⟨.inl rfl, _, (by (simp only [go_sem]) <;> rfl), ?_, rfl⟩
    simp only [go_sem]
    rfl
end Go.Avl
namespace Go.Proofs.Ytkfpnkpomjmpeaa
open Go Go.Avl Go.Proofs Go.ChangeShapes Go.RowKit

set_option maxRecDepth 100000 in
theorem mergesFold_lifted (os : Os) (started : os.Started) (H : Type) (enc : TypeId × Value → H) :
    ReturnsInHanded {} Try.checked os 4 .any (Rows.mergesFoldSpec.pre6 enc Try.prog Try.f4 Rows.mergesFoldRow.domain false) (Rows.mergesFoldSpec.post enc Try.prog Try.f4 false true false false) := by
  refine returnsInHanded_of_change_sized (C := Try.checked) Try.own started (by kernel_rfl) Try.func4
    (ChangeSpec.witness6 (enc := enc) (C := Try.checked) false ⟨#[], #[.agg #[.int .u8 0, .int .u8 0, .int .u8 0, .bool false, .slice none 0 0, .slice none 0 0, .int .u8 0, .int .u8 0, .int .u8 0], .int .u8 0, .int .u8 0], []⟩ 8 (by kernel_rfl) (by kernel_rfl) (by kernel_rfl) (by kernel_rfl)) ?_
  intro W base args ds gs before hval hW _ hz _
  have hW' := hW
  obtain ⟨p, q, hA, hV, rfl, _, _⟩ := hW'
  obtain ⟨rfl, rfl⟩ := trodVars_none hV
  have hA' : DataW.TrodAll enc Try.prog W 0 (fun _ => true) true [27, 5, 5] args.toList ds p := by rw [← show Try.f4.params.toList = [27, 5, 5] from rfl]; exact hA
  obtain ⟨v0, v1, v2, d0, d1, d2, p0, p1, p2, rfl, rfl, rfl, h0, h1, h2⟩ := trodAll_three hA'
  have hz' : (DataW.weightsEach Try.prog [27, 5, 5] [d0, d1, d2]).all (· ≤ reachBytes) = true := hz
  have hf := fits_each (P := Try.prog) (ts := [27, 5, 5]) (l := [d0, d1, d2]) fun n hn => by simpa using List.all_eq_true.1 hz' n hn
  obtain ⟨x, hx, i0⟩ := rd_LG.imm_struct Try.underlying27 (hval 0 27 v0 rfl rfl) (hf 0 27 d0 rfl rfl) h0
  obtain ⟨b, hb, i1⟩ := rd_u8'.imm_int Try.underlying5 (hval 1 5 v1 rfl rfl) (hf 1 5 d1 rfl rfl) h1
  obtain ⟨c, hc, i2⟩ := rd_u8'.imm_int Try.underlying5 (hval 2 5 v2 rfl rfl) (hf 2 5 d2 rfl rfl) h2
  exact law_calls Try.laidOut (by kernel_rfl) rfl (by kernel_rfl) rfl rfl (mergesFold_is hx hb hc) (Imms.append (.one i0) (Imms.append (.one i1) (.one i2))) hW

theorem mergesFold_holds : Rows.MergesFoldSaid :=
  OpenClaim.holds_of_wide 4 Try.f4 rfl rfl rfl rfl rfl rfl rfl ⟨rfl, rfl, rfl, rfl, rfl⟩ rfl rfl rfl rfl rfl (by kernel_rfl) Try.func4 (by kernel_rfl)
    (of_decide_eq_true (by kernel_rfl)) (by unfold Func.isWrapper; first | (rw [if_pos (by decide +kernel)]; kernel_rfl) | (rw [if_neg (by decide +kernel)]; exact ⟨rfl, rfl⟩))
    (fun os started H enc _ => mergesFold_lifted os started H enc)
#print axioms mergesFold_holds
end Go.Proofs.Ytkfpnkpomjmpeaa
