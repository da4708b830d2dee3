/-
  Lemmas.
  PlansOrder returns true at every input, and each argument reads behind the call as it read before; the table of the kinds of faults is tied to the program's text.
  Conditions: those of the given row and card alone (no others).
-/
import Derived.Test.YthdaggogdocmfaaDoorPart10
set_option linter.unusedSimpArgs false
set_option linter.unusedVariables false
set_option linter.unnecessarySimpa false
set_option linter.deprecated false
namespace Go.Avl
open Go Go.Proofs.Tryd
set_option maxRecDepth 10000
set_option linter.unusedSimpArgs false

/-! ### Lists of items by bits are valid -/
theorem killBad_of : ∀ {ks : List Int} {p : Option Int}, (∀ n ∈ ks, 0 ≤ n ∧ n < 256) → ks.Pairwise (· < ·) → (∀ q, p = some q → ∀ n ∈ ks, q < n) → killBad p ks = false
  | [], _, _, _, _ => rfl
  | n :: r, p, hb, hs, hp => by
    have hn := hb n List.mem_cons_self
    have hs := List.pairwise_cons.1 hs
    have ih : killBad (some n) r = false := killBad_of (fun m hm => hb m (List.mem_cons_of_mem _ hm)) hs.2 (fun q hq m hm => by cases hq; exact hs.1 m hm)
    have e1 : decide (n < 0) = false := decide_eq_false (by omega)
    have e2 : decide (256 ≤ n) = false := decide_eq_false (by omega)
    cases p with
    | none => simp only [killBad, ih, e1, e2, Bool.or_false]
    | some q =>
      have e3 : decide (n ≤ q) = false := decide_eq_false (by have := hp q rfl n List.mem_cons_self; omega)
      simp only [killBad, ih, e1, e2, e3, Bool.or_false]
theorem killsTo_bd (K : Int) : ∀ {k : Nat}, ∀ n ∈ killsTo K k, 0 ≤ n ∧ n < 10 * (k : Int)
  | 0, n, h => by cases h
  | k + 1, n, h => by
    rw [killsTo] at h
    split at h
    · rcases List.mem_append.1 h with h | h
      · have := killsTo_bd K n h; omega
      · rw [List.mem_singleton.1 h]; omega
    · have := killsTo_bd K n h; omega
theorem killsTo_inc (K : Int) : ∀ k, (killsTo K k).Pairwise (· < ·)
  | 0 => .nil
  | k + 1 => by
    rw [killsTo]
    split
    · refine List.pairwise_append.2 ⟨killsTo_inc K k, List.pairwise_singleton _ _, fun a ha b hb => ?_⟩
      have := killsTo_bd K a ha
      rw [List.mem_singleton.1 hb]; omega
    · exact killsTo_inc K k
theorem LI.good {x : LI} (h : x.Ok) : itemBad x.item = false := by
  obtain ⟨h1, h2⟩ := h
  have e1 : costBad x.item = false := by
    unfold costBad LI.item
    have a : decide (1 + x.cost < 1) = false := decide_eq_false (by omega)
    have b : decide (1000000 < 1 + x.cost) = false := decide_eq_false (by omega)
    simp [a, b]
  rw [itemBad, e1, Bool.false_or]
  exact killBad_of (fun n hn => by have := killsTo_bd x.kills (k := 24) n hn; omega) (killsTo_inc _ _) (fun q hq => by cases hq)
theorem listOf_len (xs : List LI) (most : Nat) : (listOf xs most).length ≤ most := by simp only [listOf, List.length_map, List.length_take]; omega
theorem listOf_check {xs : List LI} {most : Nat} (hx : ∀ x ∈ xs, x.Ok) (hm : most ≤ 256) : checkI (listOf xs most) = 0 := by
  have hl := listOf_len xs most
  refine checkI_ok (by omega) ?_
  rw [List.any_eq_false]
  intro y hy
  obtain ⟨x, hx', rfl⟩ := List.mem_map.1 hy
  rw [LI.good (hx x (List.mem_of_mem_take hx'))]; simp
theorem listOf_kills {xs : List LI} {most : Nat} : ∀ y ∈ listOf xs most, y.kills.length ≤ 24 := fun y hy => by
  obtain ⟨x, _, rfl⟩ := List.mem_map.1 hy
  exact killsTo_len _ _
theorem listOf_costs {xs : List LI} {most : Nat} (hx : ∀ x ∈ xs, x.Ok) : ∀ y ∈ listOf xs most, 1 ≤ y.cost ∧ y.cost ≤ 256 := fun y hy => by
  obtain ⟨x, hx', rfl⟩ := List.mem_map.1 hy
  have := (hx x (List.mem_of_mem_take hx')).1
  simp only [LI.item]; omega

set_option maxHeartbeats 4000000 in
theorem plansOrder_is (nl : Bool) (xs : List LI) (c : Cp) (hx : ∀ x ∈ xs, x.Ok) : PureIs prog 5 [.sl nl (xs.map liC) c] (.sc (.bool true)) := by
  have q1 := list24_is nl xs c 16 hx (by decide)
  have hl := listOf_len xs 16
  have hk : ∀ y ∈ listOf xs 16, y.kills.length < 1000000 := fun y hy => by have := listOf_kills y hy; omega
  have hcs : ∀ y ∈ listOf xs 16, (0 ≤ y.cost ∧ y.cost ≤ 1000000) ∧ y.kills.length < 1000000 := fun y hy => by
    have := listOf_costs hx y hy
    have := hk y hy
    omega
  have hz := listOf_check (most := 16) hx (by decide)
  generalize listOf xs 16 = l at q1 hl hk hz hcs
  have q2 := order_is l.isEmpty l .unk hk (by omega)
  rw [orderR, if_pos hz] at q2
  have q3 := refOrder_is l.isEmpty l .unk hcs (by omega)
  have q4 := ex_same2_is false (orderA l).isEmpty .full .unk (orderA l) (by have := (orderA_ok l).len; omega)
  have h16 : (((16 : Nat)) : Int) = 16 := rfl
  refine PureIs.of (nv := 1) (hid := [2, 3, 4, 5]) func5 rfl (by kernel_rfl) (by simp [ntmps5]) fun _ => ?_
  rw [ntmps5, results5]
  refine EvC.seq (EvC.rg (by (simp only [go_sem]) <;> rfl) (by simp) ?_)
  apply EvC.seq
  apply EvC.tr
  · apply Tr.run
    · (simp only [go_sem, h16]) <;> rfl
    · simp
    apply Tr.cons
    · exact .call rfl rfl (by (simp only [go_sem]) <;> rfl) (by (simp only [go_sem]) <;> rfl) (by (simp only [go_sem]) <;> rfl) (by (simp only [go_sem]) <;> rfl) (by (simp only [go_sem]) <;> rfl) (q1)
    apply Tr.done
    · (simp only [go_sem]) <;> rfl
    · simp
  apply EvC.seq
  apply EvC.tr
  · apply Tr.run
    · (simp only [go_sem]) <;> rfl
    · simp
    apply Tr.cons
    · exact .call rfl rfl (by (simp only [go_sem]) <;> rfl) (by (simp only [go_sem]) <;> rfl) (by (simp only [go_sem]) <;> rfl) (by (simp only [go_sem]) <;> rfl) (by (simp only [go_sem]) <;> rfl) (q2)
    apply Tr.done
    · (simp only [go_sem]) <;> rfl
    · simp
  apply EvC.seq
  apply EvC.tr
  · apply Tr.run
    · (simp only [go_sem, List.length_map, decide_true]) <;> rfl
    · simp
    apply Tr.cons
    · exact .callG rfl rfl (by (simp only [go_sem]) <;> rfl) rfl (by (simp only [go_sem]) <;> rfl) (by (simp only [go_sem]) <;> rfl) (by (simp only [go_sem]) <;> rfl) (by (simp only [go_sem]) <;> rfl) (by (simp only [go_sem]) <;> rfl) (q3)
    apply Tr.run
    · (simp only [go_sem, List.length_map, decide_true]) <;> rfl
    · simp
    apply Tr.cons
    · exact .callG rfl rfl (by (simp only [go_sem]) <;> rfl) rfl (by (simp only [go_sem]) <;> rfl) (by (simp only [go_sem]) <;> rfl) (by (simp only [go_sem]) <;> rfl) (by (simp only [go_sem]) <;> rfl) (by (simp only [go_sem]) <;> rfl) (q4)
    apply Tr.run
    · (simp only [go_sem, List.length_map, decide_true]) <;> rfl
    · simp
    apply Tr.cons
    · exact .callG rfl rfl (by (simp only [go_sem]) <;> rfl) rfl (by (simp only [go_sem]) <;> rfl) (by (simp only [go_sem]) <;> rfl) (by (simp only [go_sem]) <;> rfl) (by (simp only [go_sem]) <;> rfl) (by (simp only [go_sem]) <;> rfl) (lives_is)
    apply Tr.done
    · (simp only [go_sem]) <;> rfl
    · simp
  refine EvC.ret ⟨.inl rfl, _, (by (simp only [go_sem]) <;> rfl), ?_, rfl⟩
  simp only [go_sem]
end Go.Avl
namespace Go.Proofs.YthdaggogdocmfaaDoor
open Go Go.Avl Go.Proofs Go.ChangeShapes Go.RowKit

set_option maxRecDepth 100000 in
theorem plansOrder_lifted (os : Os) (started : os.Started) (H : Type) (enc : TypeId × Value → H) :
    ReturnsInHanded {} Tryd.checked os 5 .any (fun w args => (Rows.plansOrderSpec.pre enc Tryd.prog Tryd.f5 Rows.plansOrderRow.domain false w args ∧ laidMetH Tryd.prog laidT w) ∧ sizedMet enc Tryd.prog Tryd.f5 (OpenSpec.ofChange Rows.plansOrderSpec) false w args)
      (Rows.plansOrderSpec.post enc Tryd.prog Tryd.f5 false true false false) := by
  refine returnsInHanded_of_change_and (C := Tryd.checked) (X := fun w _ => laidMetH Tryd.prog laidT w) (fun _ _ _ hh h => h.of_heap hh) Tryd.own started (by kernel_rfl) Tryd.func5
    (ChangeSpec.witness_shaped (enc := enc) (C := Tryd.checked) (os := os) (X := fun w _ => laidMetH Tryd.prog laidT w) false (World.doorLaid Tryd.prog 400 os) #[.slice none 0 0] 8 rfl (World.shaped_of_RefB (by kernel_rfl) (by kernel_rfl)) (by kernel_rfl) (by kernel_rfl) (by kernel_rfl) (door_met os _)) ?_
  intro W base args ds gs before hval hW _ hz hL _
  have hgl := globs_of hL
  have hW' := hW
  obtain ⟨p, q, hA, hV, rfl, _, _⟩ := hW'
  obtain ⟨rfl, rfl⟩ := trodVars_none hV
  have hA' : DataW.TrodAll enc Tryd.prog W 0 (fun _ => true) true [60] args.toList ds p := by rw [← show Tryd.f5.params.toList = [60] from rfl]; exact hA
  obtain ⟨v0, d0, rfl, rfl, h0⟩ := trodAll_one hA'
  have hz' : (DataW.weightsEach Tryd.prog [60] [d0]).all (· ≤ reachBytes) = true := hz
  have hf := fits_each (P := Tryd.prog) (ts := [60]) (l := [d0]) fun n hn => by simpa using List.all_eq_true.1 hz' n hn
  obtain ⟨x, hx, i0⟩ := rd_lis.imm_slice Tryd.underlying60 (hval 0 60 v0 rfl rfl) (hf 0 60 d0 rfl rfl) h0
  exact law_calls Tryd.laidOut (by kernel_rfl) rfl (by kernel_rfl) rfl rfl (plansOrder_is x.1 x.2 .unk hx) (.one i0) hW hgl

theorem plansOrder_said : Rows.PlansOrderSaid :=
  OpenClaim.holds_of_wide 5 Tryd.f5 rfl rfl rfl rfl rfl rfl rfl ⟨rfl, rfl, rfl, rfl, rfl⟩ rfl rfl rfl rfl rfl (by kernel_rfl) Tryd.func5 (by kernel_rfl)
    (of_decide_eq_true (by kernel_rfl)) (by unfold Func.isWrapper; first | (rw [if_pos (by decide +kernel)]; kernel_rfl) | (rw [if_neg (by decide +kernel)]; exact ⟨rfl, rfl⟩))
    (fun os started H enc _ => plansOrder_lifted os started H enc)

theorem plansOrder_holds : Rows.PlansOrderCardSaid :=
  Claim7.holds_tied_plain_at .later [] [.widerDeep] true (true, "6d3ff7fe0d9779fedb791cf0751605ad5cd5bfdc42f52104730e367675225e7a") false
    plansOrder_said (fun _ h => by cases h) (by kernel_rfl) (fun _ h => by cases h) plansOrder_row_tie rfl ⟨rfl, rfl⟩ (by kernel_rfl) rfl
    (fun f fn hf hfn => by
      obtain rfl : f = 5 := (Option.some.inj ((show Tryd.prog.funcNamed "gauntlet/gauntletlaw43.PlansOrder" = some 5 by kernel_rfl).symm.trans hf)).symm
      obtain rfl : fn = Tryd.f5 := (Option.some.inj (Tryd.func5.symm.trans hfn)).symm
      refine ⟨by kernel_rfl, fun j t ht => ?_⟩
      have key : (Tryd.f5.params.toList.all fun t => Tryd.prog.wantsStandIn t == false) = true := by kernel_rfl
      have hm : t ∈ Tryd.f5.params.toList := by
        rw [← Array.getElem?_toList] at ht
        exact List.mem_of_getElem? ht
      exact eq_of_beq (List.all_eq_true.1 key t hm))
    (by kernel_rfl)
#print axioms plansOrder_holds
end Go.Proofs.YthdaggogdocmfaaDoor
