/-
  Lemmas.
  Lemmas.
  Lemmas.
  Lemmas.
  Lemmas.
  PlansKnown returns true at every input, and each argument reads behind the call as it read before; the table of the kinds of faults is tied to the program's text.
  Conditions: those of the given row and card alone (no others).
-/
import Derived.Test.YthdaggogdocmfaaDoorPart9
set_option linter.unusedSimpArgs false
set_option linter.unusedVariables false
set_option linter.unnecessarySimpa false
set_option linter.deprecated false
namespace Go.Avl
open Go Go.Proofs.Tryd
set_option maxRecDepth 10000
set_option linter.unusedSimpArgs false

/-! ### No order has a lesser lateness, if no number is killed twice -/
def wI (x : Item) : Int := ((cnt (inL x.kills) 256 : Nat) : Int)
theorem wI_nn (x : Item) : 0 ≤ wI x := by unfold wI; omega
/-- No number is killed by two items. -/
def DisjI (l : List Item) : Prop := ∀ i j : Int, 0 ≤ i ∧ i < l.length → 0 ≤ j ∧ j < l.length → i ≠ j → ∀ n, inL (itemAt l i).kills n = true → inL (itemAt l j).kills n = true → False
theorem cnt_or {P Q : Nat → Bool} (h : ∀ n, P n = true → Q n = true → False) : ∀ k, cnt (fun n => P n || Q n) k = cnt P k + cnt Q k
  | 0 => rfl
  | k + 1 => by
    have ih := cnt_or h k
    have e : ∀ R : Nat → Bool, cnt R (k + 1) = cnt R k + (R k).toNat := fun _ => rfl
    rw [e, e, e, ih]
    have : (P k || Q k).toNat = (P k).toNat + (Q k).toNat := by
      cases hp : P k <;> cases hq : Q k
      · rfl
      · rfl
      · rfl
      · exact (h k hp hq).elim
    omega
theorem frA_disj {l : List Item} (hd : DisjI l) {os : List Int} (ho : InCh l os) {x : Int} (hx : 0 ≤ x ∧ x < l.length) (hn : x ∉ os) : frA l os x = wI (itemAt l x) := by
  unfold frA freshN wI
  rw [cnt_or (fun n h1 h2 => ?_)]
  · omega
  · obtain ⟨i, hi, hk⟩ := List.any_eq_true.1 h1
    exact hd i x (ho i hi) hx (fun e => hn (e ▸ hi)) n hk h2
/-- The lateness as a sum over what comes behind. -/
def wS (l : List Item) : List Int → Int
  | [] => 0
  | x :: r => wI (itemAt l x) + wS l r
def lS (l : List Item) : List Int → Int
  | [] => 0
  | x :: r => (itemAt l x).cost * (wI (itemAt l x) + wS l r) + lS l r
theorem wS_app (l : List Item) : ∀ a b : List Int, wS l (a ++ b) = wS l a + wS l b
  | [], b => by simp [wS]
  | x :: a, b => by simp only [List.cons_append, wS, wS_app l a b]; omega
theorem lS_snoc (l : List Item) : ∀ (a : List Int) (x : Int), lS l (a ++ [x]) = lS l a + (costN l a + (itemAt l x).cost) * wI (itemAt l x)
  | [], x => by simp [lS, wS, costN]
  | y :: a, x => by
    simp only [List.cons_append, lS, lS_snoc l a x, wS_app, wS, costN_one, Int.mul_add, Int.add_mul]
    omega
theorem lateTo_sum {l : List Item} (hd : DisjI l) {ch : List Int} (ho : OkA l ch) : ∀ {k : Nat}, k ≤ ch.length → lateTo l ch k = lS l (ch.take k)
  | 0, _ => rfl
  | k + 1, hk => by
    have hil : k < ch.length := hk
    have ih := lateTo_sum hd ho (k := k) (by omega)
    rw [lateTo, ih, List.take_succ_eq_append_getElem hil, lS_snoc, costN_app, costN_one]
    have h0 : costN l [] = 0 := rfl
    have hfr : frA l (ch.take k) ch[k] = wI (itemAt l ch[k]) := by
      refine frA_disj hd (fun i hi => ho.rng i (List.mem_of_mem_take hi)) (ho.rng _ (List.getElem_mem hil)) fun hm => ?_
      have hnd := ho.nd
      rw [← List.take_append_drop k ch, List.drop_eq_getElem_cons hil, List.nodup_append] at hnd
      exact hnd.2.2 _ hm _ List.mem_cons_self rfl
    have hkn : ((killedN l (ch.take k ++ [ch[k]]) : Nat) : Int) - ((killedN l (ch.take k) : Nat) : Int) = wI (itemAt l ch[k]) := by
      rw [← hfr]
      unfold frA freshN killedN
      rw [killedP_snoc]
    rw [hkn, h0, Int.add_zero]
theorem lateOf_sum {l : List Item} (hd : DisjI l) {ch : List Int} (ho : OkA l ch) : lateOf l ch = lS l ch := by
  rw [lateOf, lateTo_sum hd ho (Nat.le_refl _), List.take_length]

/-- Item a goes ahead of item b in the order. -/
def rA (l : List Item) (a b : Int) : Prop := wI (itemAt l b) * (itemAt l a).cost ≤ wI (itemAt l a) * (itemAt l b).cost
theorem lS_front {l : List Item} {a : Int} {q : List Int} : ∀ {p : List Int}, (∀ x ∈ p, rA l a x) → lS l (a :: (p ++ q)) ≤ lS l (p ++ a :: q)
  | [], _ => Int.le_refl _
  | x :: p, h => by
    have ih := lS_front (q := q) (p := p) fun y hy => h y (List.mem_cons_of_mem _ hy)
    have hx := h x List.mem_cons_self
    unfold rA at hx
    simp only [List.cons_append, lS, wS, wS_app, Int.mul_add] at ih ⊢
    rw [Int.mul_comm (wI (itemAt l x)), Int.mul_comm (wI (itemAt l a))] at hx
    omega
theorem wS_front {l : List Item} {a : Int} {q : List Int} (p : List Int) : wS l (p ++ a :: q) = wI (itemAt l a) + wS l (p ++ q) := by
  rw [wS_app, wS_app, wS]; omega
theorem lS_least {l : List Item} : ∀ {s t : List Int}, s.Pairwise (rA l) → s.Nodup → t.Nodup → (∀ x, x ∈ t ↔ x ∈ s) → lS l s ≤ lS l t ∧ wS l s = wS l t
  | [], t, _, _, _, hm => by
    have : t = [] := List.eq_nil_iff_forall_not_mem.2 fun x hx => by cases (hm x).1 hx
    subst this; exact ⟨Int.le_refl _, rfl⟩
  | a :: s, t, hp, hs, ht, hm => by
    obtain ⟨p, q, rfl⟩ := List.append_of_mem ((hm a).2 List.mem_cons_self)
    have hp := List.pairwise_cons.1 hp
    have hs := List.nodup_cons.1 hs
    have hnd : (a :: (p ++ q)).Nodup := (List.perm_middle).nodup_iff.1 ht
    have hnd := List.nodup_cons.1 hnd
    have hm' : ∀ x, x ∈ p ++ q ↔ x ∈ s := fun x => by
      constructor
      · intro hx
        have : x ∈ a :: s := (hm x).1 (by
          rcases List.mem_append.1 hx with h | h
          · exact List.mem_append_left _ h
          · exact List.mem_append_right _ (List.mem_cons_of_mem _ h))
        rcases List.mem_cons.1 this with rfl | h
        · exact absurd hx hnd.1
        · exact h
      · intro hx
        have := (hm x).2 (List.mem_cons_of_mem _ hx)
        rcases List.mem_append.1 this with h | h
        · exact List.mem_append_left _ h
        · rcases List.mem_cons.1 h with rfl | h
          · exact absurd hx hs.1
          · exact List.mem_append_right _ h
    obtain ⟨i1, i2⟩ := lS_least hp.2 hs.2 hnd.2 hm'
    have hf := lS_front (l := l) (a := a) (q := q) (p := p) fun x hx => hp.1 x ((hm' x).1 (List.mem_append_left _ hx))
    refine ⟨?_, by rw [wS_front, wS, i2]⟩
    simp only [lS] at hf ⊢
    rw [i2]
    omega

/-! The greedy order is such a one. -/
theorem pickK_best {l : List Item} (hc : ∀ x ∈ l, 1 ≤ x.cost) {os : List Int} : ∀ {k : Nat}, k ≤ l.length →
    match pickK l os k with
    | none => ∀ i : Nat, i < k → os.contains (i : Int) = false → frA l os i ≤ 0
    | some b => 0 < frA l os b ∧ ∀ i : Nat, i < k → os.contains (i : Int) = false → frA l os i * (itemAt l b).cost ≤ frA l os b * (itemAt l i).cost
  | 0, _ => fun i h => by omega
  | k + 1, hk => by
    have ih := pickK_best hc (os := os) (k := k) (by omega)
    have hpos : ∀ j : Nat, j < l.length → 1 ≤ (itemAt l j).cost := fun j hj => hc _ (List.mem_of_getElem? (itemAt_get (l := l) (i := (j : Int)) ⟨by omega, by omega⟩))
    have hck := hpos k (by omega)
    rw [pickK]
    by_cases ht : takes l os (pickK l os k) k = true
    · rw [if_pos ht]
      obtain ⟨t1, t2⟩ := Bool.and_eq_true_iff.1 ht
      obtain ⟨t2, t3⟩ := Bool.and_eq_true_iff.1 t2
      have t2 : 0 < frA l os k := by simpa using t2
      refine ⟨t2, fun i hi hin => ?_⟩
      by_cases hik : i = k
      · subst hik; exact Int.le_refl _
      have hci := hpos i (by omega)
      cases hp : pickK l os k with
      | none =>
        rw [hp] at ih
        have h1 := ih i (by omega) hin
        have h2 : frA l os i * (itemAt l k).cost ≤ 0 := Int.mul_nonpos_of_nonpos_of_nonneg h1 (by omega)
        have h3 : 0 ≤ frA l os k * (itemAt l i).cost := Int.mul_nonneg (by omega) (by omega)
        omega
      | some b =>
        rw [hp] at ih t3
        obtain ⟨ih0, ih⟩ := ih
        have h1 := ih i (by omega) hin
        have h3 : frA l os b * (itemAt l k).cost < frA l os k * (itemAt l b).cost := by simpa [ahead] using t3
        have hb := hpos b (by have := pickK_lt hp; omega)
        refine Int.le_of_mul_le_mul_left (a := (itemAt l b).cost) ?_ (by omega)
        have a1 := Int.mul_le_mul_of_nonneg_right h1 (show 0 ≤ (itemAt l k).cost by omega)
        have a2 := Int.mul_le_mul_of_nonneg_right (Int.le_of_lt h3) (show 0 ≤ (itemAt l i).cost by omega)
        calc (itemAt l b).cost * (frA l os i * (itemAt l k).cost) = frA l os i * (itemAt l b).cost * (itemAt l k).cost := by rw [Int.mul_comm, Int.mul_assoc, Int.mul_assoc, Int.mul_comm (itemAt l b).cost]
          _ ≤ frA l os b * (itemAt l i).cost * (itemAt l k).cost := a1
          _ = frA l os b * (itemAt l k).cost * (itemAt l i).cost := by rw [Int.mul_assoc, Int.mul_assoc, Int.mul_comm (itemAt l i).cost]
          _ ≤ frA l os k * (itemAt l b).cost * (itemAt l i).cost := a2
          _ = (itemAt l b).cost * (frA l os k * (itemAt l i).cost) := by rw [Int.mul_comm (frA l os k), Int.mul_assoc]
    · rw [if_neg ht]
      have hlast : os.contains (k : Int) = false → match pickK l os k with | none => frA l os k ≤ 0 | some b => 0 < frA l os b → frA l os k * (itemAt l b).cost ≤ frA l os b * (itemAt l k).cost := fun hin => by
        have h : ¬ (0 < frA l os k ∧ ahead l os (pickK l os k) k = true) := fun h => ht (by
          unfold takes; rw [hin, decide_eq_true h.1, h.2]; rfl)
        cases hp : pickK l os k with
        | none =>
          rw [hp] at h
          by_cases h0 : 0 < frA l os k
          · exact absurd ⟨h0, rfl⟩ h
          · simp only; omega
        | some b =>
          rw [hp] at h
          intro hb0
          have hb := hpos b (by have := pickK_lt hp; omega)
          by_cases h0 : 0 < frA l os k
          · have : ¬ frA l os b * (itemAt l k).cost < frA l os k * (itemAt l b).cost := fun h' => h ⟨h0, decide_eq_true h'⟩
            omega
          · have h2 : frA l os k * (itemAt l b).cost ≤ 0 := Int.mul_nonpos_of_nonpos_of_nonneg (by omega) (by omega)
            have h3 : 0 ≤ frA l os b * (itemAt l k).cost := Int.mul_nonneg (by omega) (by omega)
            omega
      cases hp : pickK l os k with
      | none =>
        rw [hp] at ih hlast
        intro i hi hin
        by_cases hik : i = k
        · subst hik; exact hlast hin
        · exact ih i (by omega) hin
      | some b =>
        rw [hp] at ih hlast
        refine ⟨ih.1, fun i hi hin => ?_⟩
        by_cases hik : i = k
        · subst hik; exact hlast hin ih.1
        · exact ih.2 i (by omega) hin
/-- What the first part of the order keeps: it is in order, and what is left may stand behind it. -/
structure SrtA (l : List Item) (os : List Int) : Prop where
  ok : OkA l os
  pw : os.Pairwise (rA l)
  rest : ∀ a ∈ os, ∀ i : Int, 0 ≤ i ∧ i < l.length → i ∉ os → rA l a i
theorem SrtA.pick {l : List Item} (hc : ∀ x ∈ l, 1 ≤ x.cost) (hd : DisjI l) {os : List Int} (h : SrtA l os) {b : Nat} (hb : pickA l os = some b) : SrtA l (os ++ [(b : Int)]) := by
  have hbl := pickA_lt hb
  have hbn := pickA_new hb
  have hbest := pickK_best hc (os := os) (k := l.length) (Nat.le_refl _)
  have hb' : pickK l os l.length = some b := hb
  rw [hb'] at hbest
  refine ⟨h.ok.pick hb, List.pairwise_append.2 ⟨h.pw, List.pairwise_singleton _ _, fun a ha c hcm => ?_⟩, fun a ha i hi hin => ?_⟩
  · rw [List.mem_singleton.1 hcm]
    exact h.rest a ha b ⟨by omega, by omega⟩ hbn
  · have hio : i ∉ os := fun h' => hin (List.mem_append_left _ h')
    rcases List.mem_append.1 ha with ha | ha
    · exact h.rest a ha i hi hio
    · rw [List.mem_singleton.1 ha]
      obtain ⟨j, rfl⟩ : ∃ j : Nat, i = j := ⟨i.toNat, by omega⟩
      have := hbest.2 j (by omega) (by simpa using hio)
      rw [frA_disj hd h.ok.rng hi hio, frA_disj hd h.ok.rng ⟨by omega, by omega⟩ hbn] at this
      exact this
theorem OkA.full {l : List Item} {os : List Int} (h : OkA l os) (hl : l.length ≤ os.length) {i : Nat} (hi : i < l.length) : (i : Int) ∈ os := by
  by_cases hn : (i : Int) ∈ os
  · exact hn
  · have := (h.snoc hi hn).len
    simp only [List.length_append, List.length_singleton] at this
    omega
theorem chainA_srt {l : List Item} (hc : ∀ x ∈ l, 1 ≤ x.cost) (hd : DisjI l) : ∀ (f : Nat) {os : List Int}, SrtA l os → l.length ≤ f + os.length →
    SrtA l (chainA l f os) ∧ ∀ i : Nat, i < l.length → (i : Int) ∉ chainA l f os → wI (itemAt l i) = 0
  | 0, os, h, hf => ⟨h, fun i hi hn => absurd (h.ok.full (by omega) hi) hn⟩
  | f + 1, os, h, hf => by
    rw [chainA]
    cases hp : pickA l os with
    | none =>
      refine ⟨h, fun i hi hn => ?_⟩
      have hb := pickK_best hc (os := os) (k := l.length) (Nat.le_refl _)
      have hp' : pickK l os l.length = none := hp
      rw [hp'] at hb
      have := hb i hi (by simpa using hn)
      rw [frA_disj hd h.ok.rng ⟨by omega, by omega⟩ hn] at this
      have := wI_nn (itemAt l i)
      omega
    | some b => exact chainA_srt hc hd f (h.pick hc hd hp) (by simp only [List.length_append, List.length_singleton]; omega)
theorem restA_sub {os : List Int} : ∀ k, ∀ x ∈ os, x ∈ restA os k
  | 0, _, h => h
  | k + 1, x, h => by
    have := restA_sub k x h
    rw [restA]; split
    · exact this
    · exact List.mem_append_left _ this
theorem restA_has {os : List Int} : ∀ {k i : Nat}, i < k → (i : Int) ∈ restA os k
  | k + 1, i, h => by
    rw [restA]
    by_cases hik : i = k
    · subst hik
      split
      · rename_i hc; simpa using hc
      · exact List.mem_append_right _ (by simp)
    · have := restA_has (os := os) (k := k) (i := i) (by omega)
      split
      · exact this
      · exact List.mem_append_left _ this
theorem restA_srt {l : List Item} {os : List Int} (hc : ∀ x ∈ l, 1 ≤ x.cost) (h : SrtA l os) (hz : ∀ i : Nat, i < l.length → (i : Int) ∉ os → wI (itemAt l i) = 0) : ∀ {k : Nat}, k ≤ l.length → (restA os k).Pairwise (rA l)
  | 0, _ => h.pw
  | k + 1, hk => by
    have ih := restA_srt hc h hz (k := k) (by omega)
    rw [restA]
    split
    · exact ih
    · rename_i hn
      refine List.pairwise_append.2 ⟨ih, List.pairwise_singleton _ _, fun a ha c hcm => ?_⟩
      rw [List.mem_singleton.1 hcm]
      have hno : (k : Int) ∉ os := fun h' => hn (by simpa using restA_sub k _ h')
      unfold rA
      rw [hz k (by omega) hno, Int.zero_mul]
      have := hc _ (List.mem_of_getElem? (itemAt_get (l := l) (i := (k : Int)) ⟨by omega, by omega⟩))
      exact Int.mul_nonneg (wI_nn _) (by omega)
theorem orderA_srt {l : List Item} (hc : ∀ x ∈ l, 1 ≤ x.cost) (hd : DisjI l) : (orderA l).Pairwise (rA l) := by
  obtain ⟨h1, h2⟩ := chainA_srt hc hd l.length (os := []) ⟨OkA.nil l, .nil, fun a ha => by cases ha⟩ (by simp)
  exact restA_srt hc h1 h2 (Nat.le_refl _)
/-- THE THEOREM: of all orders of all items, that one is the least late. -/
theorem late_least {l : List Item} (hc : ∀ x ∈ l, 1 ≤ x.cost) (hd : DisjI l) (ch : List Int) (ho : OkA l ch) : lateOf l (orderA l) ≤ lateOf l (restA ch l.length) := by
  have ho1 := orderA_ok l
  have ho2 := restA_ok ho (Nat.le_refl l.length)
  rw [lateOf_sum hd ho1, lateOf_sum hd ho2]
  refine (lS_least (orderA_srt hc hd) ho1.nd ho2.nd fun x => ⟨fun hx => ?_, fun hx => ?_⟩).1
  · have := ho2.rng x hx
    obtain ⟨j, rfl⟩ : ∃ j : Nat, x = j := ⟨x.toNat, by omega⟩
    exact restA_has (by omega)
  · have := ho1.rng x hx
    obtain ⟨j, rfl⟩ : ∃ j : Nat, x = j := ⟨x.toNat, by omega⟩
    exact restA_has (by omega)
theorem restA_len {l : List Item} {ch : List Int} (ho : OkA l ch) : (restA ch l.length).length = l.length := by
  have h1 := (restA_ok ho (Nat.le_refl l.length)).len
  have h2 : (List.range l.length).length ≤ ((restA ch l.length).map Int.toNat).length := sub_len _ _ List.nodup_range fun i hi => by
    rw [List.mem_range] at hi
    exact List.mem_map.2 ⟨i, restA_has hi, by omega⟩
  simp only [List.length_range, List.length_map] at h2
  omega
end Go.Avl
namespace Go.Avl
open Go Go.Proofs.Tryd
set_option maxRecDepth 10000
set_option linter.unusedSimpArgs false

/-! ### Words by bytes -/
def wordOf (es : List Int) (n : Int) (most : Nat) : List Int := (es.take most).map (· % n)
theorem wordOf_len (es : List Int) (n : Int) (most : Nat) : (wordOf es n most).length ≤ most := by simp only [wordOf, List.length_map, List.length_take]; omega
theorem wordOf_in {es : List Int} {n : Int} {most : Nat} (hn : 1 ≤ n) : ∀ a ∈ wordOf es n most, 0 ≤ a ∧ a < n := fun a ha => by
  obtain ⟨x, _, rfl⟩ := List.mem_map.1 ha
  exact ⟨Int.emod_nonneg _ (by omega), Int.emod_lt_of_pos _ (by omega)⟩
theorem word20_is (nl : Bool) (es : List Int) (c : Cp) (n : Int) (most : Nat) (he : ∀ x ∈ es, 0 ≤ x ∧ x < 256) (hn : 1 ≤ n ∧ n ≤ 1000000) (hm : most < 1000) :
    PureIs prog 20 [.sl nl (es.map u8C) c, .sc (.int .i64 n), .sc (.int .i64 most)] (.sl (wordOf es n most).isEmpty ((wordOf es n most).map intC) .unk) := by
  refine PureIs.of (nv := 3) (hid := [6, 7, 8, 17]) func20 rfl (by kernel_rfl) (by simp [ntmps20]) fun _ => ?_
  rw [ntmps20, results20]
  refine EvC.seq (EvC.rg (by (simp only [go_sem]) <;> rfl) (by simp) ?_)
  refine EvC.seq (EvC.rg (by (simp only [go_sem]) <;> rfl) (by simp) ?_)
  refine EvC.seq ?_
  refine EvC.seq (EvC.rg (by (simp only [go_sem]) <;> rfl) (by simp) ?_)
  refine EvC.block ?_  -- 0
  refine EvC.loopS (σ := Nat) (fun i => ⟨[(0, .sl nl (es.map u8C) c), (1, .sc (.int .i64 n)), (2, .sc (.int .i64 most)), (7, .tl 0 (wordOf es n i).length (wordOf es n i).isEmpty), (8, .sc (.int .i64 i))], [], [(0, .arr 1 ((wordOf es n i).map intC) true)], 1⟩) (fun i => most - i) (fun i => i ≤ most ∧ i ≤ es.length) [0, 1, 2, 7, 8] 1 ?_ ?_
  · exact ⟨[(1, 0)], 0, rfl, (by (simp only [go_sem, Int.natCast_zero, wordOf, List.take_zero, List.map_nil, List.length_nil, List.isEmpty_nil]) <;> rfl), Nat.zero_le _, Nat.zero_le _⟩
  rintro i ⟨hi, hi2⟩
  refine EvC.seq ?_
  by_cases hend : i < es.length ∧ i < most
  rotate_left
  · -- else
    have hcond : decide ((i : Int) < es.length) = false ∨ (decide ((i : Int) < es.length) = true ∧ decide ((i : Int) < most) = false) := by
      by_cases h : i < es.length
      · exact .inr ⟨decide_eq_true (by omega), decide_eq_false (by omega)⟩
      · exact .inl (decide_eq_false (by omega))
    have htk : wordOf es n most = wordOf es n i := by
      unfold wordOf
      congr 1
      rcases Nat.lt_or_ge i es.length with h | h
      · rw [show most = i by omega]
      · rw [List.take_of_length_le (by omega), List.take_of_length_le (by omega)]
    rw [htk]
    generalize wordOf es n i = L
    rcases hcond with h | ⟨h, h'⟩
    · apply EvC.seq
      apply EvC.trd
      · (simp only [go_sem, List.length_map, h]) <;> rfl
      · simp
      refine EvC.cond_false (by (simp only [go_sem]) <;> rfl) ?_
      refine EvC.exit ?_  -- 0
      refine EvC.frz 0 (by (simp only [go_sem, List.length_map]) <;> rfl) ?_
      refine EvC.seq (EvC.rg (by (simp only [go_sem, List.length_map]) <;> rfl) (by simp) ?_)
      refine EvC.ret ⟨.inl rfl, _, (by (simp only [go_sem]) <;> rfl), ?_, rfl⟩
      simp only [go_sem]
    · apply EvC.seq
      apply EvC.trd
      · (simp only [go_sem, List.length_map, h, h']) <;> rfl
      · simp
      refine EvC.cond_false (by (simp only [go_sem]) <;> rfl) ?_
      refine EvC.exit ?_  -- 0
      refine EvC.frz 0 (by (simp only [go_sem, List.length_map]) <;> rfl) ?_
      refine EvC.seq (EvC.rg (by (simp only [go_sem, List.length_map]) <;> rfl) (by simp) ?_)
      refine EvC.ret ⟨.inl rfl, _, (by (simp only [go_sem]) <;> rfl), ?_, rfl⟩
      simp only [go_sem]
  obtain ⟨h1, h2⟩ := hend
  have d1 : decide ((i : Int) < es.length) = true := decide_eq_true (by omega)
  have d2 : decide ((i : Int) < most) = true := decide_eq_true (by omega)
  apply EvC.seq
  apply EvC.trd
  · (simp only [go_sem, List.length_map, d1, d2]) <;> rfl
  · simp
  refine EvC.cond_true (by (simp only [go_sem]) <;> rfl) ?_
  refine EvC.skip ?_
  refine EvC.seq ?_
  refine EvC.block ?_  -- 1
  have hx : es[i]? = some (es[i]'h1) := List.getElem?_eq_getElem h1
  have hb := he _ (List.getElem_mem h1)
  have hnext : wordOf es n (i + 1) = wordOf es n i ++ [(es[i]'h1) % n] := by
    unfold wordOf
    rw [List.take_succ_eq_append_getElem h1, List.map_append]; rfl
  have hli := wordOf_len es n i
  generalize es[i]'h1 = x at hx hb hnext
  generalize wordOf es n i = T at hnext hli
  have hin : (i : Int).toNat = i := Int.toNat_natCast i
  have hsn : T.map intC ++ [[.sc (.int .i64 (x % n))]] = (T ++ [x % n]).map intC := by simp [intC]
  have hsl : T.length + 1 = (T ++ [x % n]).length := by simp
  have hse : (T ++ [x % n]).isEmpty = false := by simp
  have hr2 : room (T.length + 1) 8 = true := by simp only [room_eq, decide_eq_true_eq]; omega
  rw [hsl] at hr2
  rw [← hnext] at hsn hsl hse hr2
  generalize hT' : wordOf es n (i + 1) = T' at hsn hsl hse hr2
  refine EvC.rg (by (simp only [go_sem, hx, u8C, hin, hsn, hsl, List.length_map]) <;> rfl) (by simp [hr2, hb.1, inI64_of (x := x) (by omega) (by omega)]; try omega) ?_
  refine EvC.rg (by (simp only [go_sem]) <;> rfl) (by exact inI64_of (by omega) (by omega)) ?_
  exact ⟨[(0, 0)], i + 1, rfl, (by rw [hT']; (simp only [go_sem, hse, Int.natCast_add, Int.natCast_one]) <;> rfl), ⟨by omega, by omega⟩, by omega⟩
def wW (w : List Int) : Wd := (w.isEmpty, w)
theorem wdC_wW (w : List Int) : wdC (wW w) = wC w := rfl
theorem LM.valid {x : LM} (h : x.Ok) : Valid x.mach := by
  obtain ⟨b1, b2, b3, b4, b5, b6, -, -⟩ := LM.bounds h
  have hl : x.mach.rows.length = x.n := by simp [LM.mach]
  refine ⟨⟨by show (1 : Int) ≤ x.i; omega, by show (x.i : Int) ≤ 16; omega⟩, ⟨b5, by show x.o ≤ 16; omega⟩, by rw [hl]; omega, fun r hr => ?_⟩
  rw [hl]
  simp only [LM.mach, List.mem_map, List.mem_range] at hr ⊢
  obtain ⟨s, hs, rfl⟩ := hr
  refine ⟨by simp [LM.row], fun e he => ?_⟩
  simp only [LM.row, List.mem_map, List.mem_range] at he
  obtain ⟨i, hi, rfl⟩ := he
  obtain ⟨v1, v2⟩ := LM.v_ok h s i
  unfold LM.edge
  split
  · simp [fitsR]
  · have h1 := Int.emod_nonneg (x.v s i / 4) (b := x.n) (by omega)
    have h2 := Int.emod_lt_of_pos (x.v s i / 4) (b := x.n) (by omega)
    have h3 := Int.emod_nonneg (x.v s i / 4 / x.n) (b := x.o) (by omega)
    have h4 := Int.emod_lt_of_pos (x.v s i / 4 / x.n) (b := x.o) (by omega)
    simp [fitsR, h1, h2, h3, h4]
theorem wordErr_ok {n : Int} (hn : 1 ≤ n ∧ n ≤ 16) {w : List Int} (hl : w.length ≤ 256) (h : ∀ a ∈ w, 0 ≤ a ∧ a < n) : wordErr n w = 0 := wordErr_of hn hl h
theorem wordsErr_of {n : Int} : ∀ {l : List Wd}, (∀ w ∈ l, wordErr n w.2 = 0) → wordsErr n l = 0
  | [], _ => rfl
  | w :: r, h => by
    rw [wordsErr, if_pos (h w (List.mem_cons_self ..))]
    exact wordsErr_of fun v hv => h v (List.mem_cons_of_mem _ hv)
/-- Words by bytes, the first k of them. -/
def wbR (x : Bool × List Int) : List AV := [.sl x.1 (x.2.map u8C) .unk]
def wordsTo (ws : List (Bool × List Int)) (n : Int) (most k : Nat) : List (List Int) := (ws.take k).map fun x => wordOf x.2 n most
theorem wordsTo_len (ws : List (Bool × List Int)) (n : Int) (most k : Nat) : (wordsTo ws n most k).length ≤ k := by simp only [wordsTo, List.length_map, List.length_take]; omega
theorem wordsTo_mem {ws : List (Bool × List Int)} {n : Int} {most k : Nat} (hn : 1 ≤ n) {w : List Int} (hw : w ∈ wordsTo ws n most k) : w.length ≤ most ∧ ∀ a ∈ w, 0 ≤ a ∧ a < n := by
  obtain ⟨x, _, rfl⟩ := List.mem_map.1 hw
  exact ⟨wordOf_len _ _ _, wordOf_in hn⟩
end Go.Avl
namespace Go.Avl
open Go Go.Proofs.Tryd
set_option maxRecDepth 10000
set_option linter.unusedSimpArgs false

/-! ### As many items as there may be, each of which kills one number -/
def knI (i : Nat) : Item := ⟨1000000, false, [255 - (i : Int)]⟩
def knL (n : Nat) : List Item := (List.range n).map knI
theorem knL_len (n : Nat) : (knL n).length = n := by simp [knL]
theorem knL_at {n : Nat} {i : Int} (h : 0 ≤ i ∧ i < n) : itemAt (knL n) i = knI i.toNat := by
  have : (knL n)[i.toNat]? = some (knI i.toNat) := by
    rw [knL, List.getElem?_map, List.getElem?_range (by omega)]; rfl
  have h2 := itemAt_get (l := knL n) (i := i) (by rw [knL_len]; exact h)
  rw [this] at h2
  exact (Option.some.inj h2).symm
theorem knL_disj {n : Nat} (hn : n ≤ 256) : DisjI (knL n) := fun i j hi hj hij m h1 h2 => by
  rw [knL_len] at hi hj
  rw [knL_at hi] at h1
  rw [knL_at hj] at h2
  simp only [inL, knI, List.contains_eq_mem, List.mem_singleton, decide_eq_true_eq] at h1 h2
  omega
theorem cnt_no {P : Nat → Bool} (h : ∀ n, P n = false) : ∀ k, cnt P k = 0
  | 0 => rfl
  | k + 1 => by
    have e : cnt P (k + 1) = cnt P k + (P k).toNat := rfl
    rw [e, cnt_no h k, h k]; rfl
theorem cnt_one {P : Nat → Bool} {a : Nat} (h : ∀ n, P n = decide (n = a)) : ∀ k, cnt P k = if a < k then 1 else 0
  | 0 => by simp [cnt, dsum]
  | k + 1 => by
    have e : cnt P (k + 1) = cnt P k + (P k).toNat := rfl
    rw [e, cnt_one h k, h k]
    by_cases h1 : k = a
    · subst h1; simp
    · rw [decide_eq_false h1]
      by_cases h2 : a < k
      · rw [if_pos h2, if_pos (by omega)]; rfl
      · rw [if_neg h2, if_neg (by omega)]; rfl
theorem knI_w {i : Nat} (h : i < 256) : wI (knI i) = 1 := by
  unfold wI
  rw [cnt_one (a := 255 - i) fun n => ?_]
  · rw [if_pos (by omega)]; rfl
  · simp only [inL, knI, List.contains_eq_mem, List.mem_singleton]
    exact decide_eq_decide.2 (by omega)
theorem knL_check {n : Nat} (hn : n ≤ 256) : checkI (knL n) = 0 := by
  refine checkI_ok (by rw [knL_len]; omega) ?_
  rw [List.any_eq_false]
  intro x hx
  obtain ⟨i, hi, rfl⟩ := List.mem_map.1 hx
  have hi := List.mem_range.1 hi
  have e1 : decide ((255 : Int) - (i : Int) < 0) = false := decide_eq_false (by omega)
  have e2 : decide ((256 : Int) ≤ 255 - (i : Int)) = false := decide_eq_false (by omega)
  simp [itemBad, costBad, knI, killBad, e1, e2]
def iota (n : Nat) : List Int := (List.range n).map fun i : Nat => (i : Int)
theorem iota_len (n : Nat) : (iota n).length = n := by simp [iota]
theorem iota_zero : iota 0 = [] := by simp [iota]
theorem iota_succ (n : Nat) : iota (n + 1) = iota n ++ [(n : Int)] := by simp [iota, List.range_succ]
theorem iota_mem {n : Nat} {x : Int} : x ∈ iota n ↔ 0 ≤ x ∧ x < n := by
  simp only [iota, List.mem_map, List.mem_range]
  constructor
  · rintro ⟨a, h, rfl⟩; omega
  · rintro ⟨h1, h2⟩; exact ⟨x.toNat, by omega, by omega⟩
theorem iota_take {n k : Nat} (h : k ≤ n) : (iota n).take k = iota k := by
  rw [iota, ← List.map_take, List.take_range, Nat.min_eq_left h]; rfl
theorem iota_ok {n k : Nat} (h : k ≤ n) : OkA (knL n) (iota k) := by
  induction k with
  | zero => rw [iota_zero]; exact OkA.nil _
  | succ k ih =>
    rw [iota_succ]
    exact (ih (by omega)).snoc (by rw [knL_len]; omega) (by rw [iota_mem]; omega)
theorem knL_fr {n k : Nat} (hn : n ≤ 256) (hk : k ≤ n) {x : Int} (hx : 0 ≤ x ∧ x < n) (hkx : (k : Int) ≤ x) : frA (knL n) (iota k) x = 1 := by
  rw [frA_disj (knL_disj hn) (iota_ok hk).rng (by rw [knL_len]; exact hx) (by rw [iota_mem]; omega), knL_at hx]
  exact knI_w (by omega)
theorem knL_pickK {n k : Nat} (hn : n ≤ 256) (hk : k ≤ n) : ∀ j, j ≤ n → pickK (knL n) (iota k) j = if j ≤ k then none else some k
  | 0, _ => by rw [if_pos (Nat.zero_le _)]; rfl
  | j + 1, hj => by
    rw [pickK, knL_pickK hn hk j (by omega)]
    by_cases h1 : j < k
    · have hc : (iota k).contains (j : Int) = true := by rw [List.contains_iff_mem, iota_mem]; omega
      have : takes (knL n) (iota k) (if j ≤ k then none else some k) j = false := by rw [takes, hc]; rfl
      rw [if_neg (by rw [this]; simp), if_pos (by omega), if_pos (by omega)]
    · have hc : (iota k).contains (j : Int) = false := by
        rw [Bool.eq_false_iff]; intro h; rw [List.contains_iff_mem, iota_mem] at h; omega
      have hf := knL_fr hn hk (x := (j : Int)) (by omega) (by omega)
      by_cases h2 : j = k
      · subst h2
        have : takes (knL n) (iota j) (if j ≤ j then none else some j) j = true := by rw [if_pos (Nat.le_refl _), takes, hc, hf]; rfl
        rw [if_pos this, if_neg (by omega)]
      · have hfk := knL_fr hn hk (x := (k : Int)) (by omega) (by omega)
        have hck : (itemAt (knL n) (k : Int)).cost = 1000000 := by rw [knL_at (by omega)]; rfl
        have hcj : (itemAt (knL n) (j : Int)).cost = 1000000 := by rw [knL_at (by omega)]; rfl
        have : takes (knL n) (iota k) (if j ≤ k then none else some k) j = false := by
          rw [if_neg (by omega), takes, hc, hf, ahead, hf, hfk, hck, hcj]; rfl
        rw [if_neg (by rw [this]; simp), if_neg (by omega), if_neg (by omega)]
theorem knL_pick {n k : Nat} (hn : n ≤ 256) (hk : k < n) : pickA (knL n) (iota k) = some k := by
  rw [pickA, knL_len, knL_pickK hn (by omega) n (Nat.le_refl _), if_neg (by omega)]
theorem knL_chain {n : Nat} (hn : n ≤ 256) : ∀ {f k : Nat}, k + f ≤ n → chainA (knL n) f (iota k) = iota (k + f)
  | 0, k, _ => rfl
  | f + 1, k, h => by
    rw [chainA, knL_pick hn (by omega)]
    simp only
    rw [← iota_succ, knL_chain hn (f := f) (k := k + 1) (by omega)]
    rw [show k + 1 + f = k + (f + 1) by omega]
theorem knL_rest {n : Nat} : ∀ {j : Nat}, j ≤ n → restA (iota n) j = iota n
  | 0, _ => rfl
  | j + 1, h => by
    have hc : (iota n).contains (j : Int) = true := by rw [List.contains_iff_mem, iota_mem]; omega
    rw [restA, knL_rest (j := j) (by omega), if_pos hc]
theorem knL_order {n : Nat} (hn : n ≤ 256) : orderA (knL n) = iota n := by
  have h := knL_chain hn (f := n) (k := 0) (by omega)
  rw [Nat.zero_add] at h
  rw [orderA, knL_len, show ([] : List Int) = iota 0 from iota_zero.symm, h, knL_rest (Nat.le_refl _)]
theorem knL_cost {n : Nat} {ch : List Int} (h : ∀ i ∈ ch, 0 ≤ i ∧ i < (n : Int)) : costN (knL n) ch = 1000000 * (ch.length : Int) := by
  induction ch with
  | nil => rfl
  | cons x r ih =>
    have h1 : (itemAt (knL n) x).cost = 1000000 := by rw [knL_at (h x (List.mem_cons_self ..))]; rfl
    have h2 := ih fun i hi => h i (List.mem_cons_of_mem _ hi)
    unfold costN at h2 ⊢
    rw [List.map_cons, List.sum_cons, h1, h2, List.length_cons]; omega
theorem knL_killed {n : Nat} (hn : n ≤ 256) : ∀ {ch : List Int}, ch.Nodup → (∀ i ∈ ch, 0 ≤ i ∧ i < (n : Int)) → killedN (knL n) ch = ch.length := by
  intro ch hnd hch
  induction ch with
  | nil => exact cnt_no (fun _ => rfl) 256
  | cons x r ih =>
    obtain ⟨h1, h2⟩ := List.nodup_cons.1 hnd
    have hr := fun i hi => hch i (List.mem_cons_of_mem _ hi)
    have hx := hch x (List.mem_cons_self ..)
    have e : killedP (knL n) (x :: r) = fun m => inL (itemAt (knL n) x).kills m || killedP (knL n) r m := by
      funext m; simp [killedP, inL]
    have hw := knI_w (i := x.toNat) (by omega)
    unfold wI at hw
    rw [killedN, e, cnt_or (fun m a b => ?_), knL_at hx]
    · have := ih h2 hr
      rw [killedN] at this
      rw [this, List.length_cons]; omega
    · obtain ⟨i, hi, hk⟩ := List.any_eq_true.1 b
      have hri := hr i hi
      exact knL_disj hn x i (by rw [knL_len]; exact hx) (by rw [knL_len]; exact hri) (fun e => h1 (e ▸ hi)) m a hk
theorem knL_late {n : Nat} (hn : n ≤ 256) : ∀ {k : Nat}, k ≤ n → 2 * lateTo (knL n) (iota n) k = 1000000 * ((k : Int) * ((k : Int) + 1))
  | 0, _ => rfl
  | k + 1, h => by
    have ih := knL_late hn (k := k) (by omega)
    have hm : ∀ j, j ≤ n → ∀ i ∈ iota j, 0 ≤ i ∧ i < (n : Int) := fun j hj i hi => by have := iota_mem.1 hi; omega
    rw [lateTo, iota_take h, iota_take (show k ≤ n by omega), knL_cost (hm (k + 1) h), knL_killed hn (iota_ok h).nd (hm (k + 1) h), knL_killed hn (iota_ok (show k ≤ n by omega)).nd (hm k (by omega)), iota_len, iota_len]
    have e1 : (((k + 1 : Nat) : Int) - (k : Int)) = 1 := by omega
    rw [e1, Int.mul_one, Int.mul_add 2, ih]
    have e2 : ((k + 1 : Nat) : Int) * (((k + 1 : Nat) : Int) + 1) = (k : Int) * ((k : Int) + 1) + 2 * ((k : Int) + 1) := by
      have : ((k + 1 : Nat) : Int) = (k : Int) + 1 := by omega
      rw [this]
      simp only [Int.add_mul, Int.mul_add]; omega
    rw [e2]; omega
theorem knL_late256 : lateOf (knL 256) (iota 256) = 32896000000 := by
  have h := knL_late (n := 256) (Nat.le_refl _) (k := 256) (Nat.le_refl _)
  rw [lateOf, iota_len]
  have e : ((256 : Nat) : Int) * (((256 : Nat) : Int) + 1) = 65792 := by decide
  rw [e] at h
  omega
theorem len3 {r : List Int} (h : r.length = 3) : ∃ x y z, r = [x, y, z] := by
  match r, h with
  | [x, y, z], _ => exact ⟨x, y, z, rfl⟩
theorem knL_best : bestL (knL 16) 3000000 = [0, 1, 2] := by
  have hl : (knL 16).length = 16 := knL_len 16
  have hm : ∀ {ch : List Int}, IncL 0 16 ch → ch.Nodup ∧ ∀ i ∈ ch, 0 ≤ i ∧ i < ((16 : Nat) : Int) := fun {ch} h => by
    refine ⟨h.1.imp fun hab => by omega, fun i hi => by have := h.2 i hi; omega⟩
  have h012 : IncL 0 16 [0, 1, 2] := ⟨by simp, by simp⟩
  obtain ⟨s0, hs0, he0⟩ := setCh_all (l := knL 16) (c := [0, 1, 2]) (by rw [hl]; exact h012)
  obtain ⟨hn0, hb0⟩ := hm h012
  have hc0 : costN (knL 16) [0, 1, 2] = 3000000 := by rw [knL_cost hb0]; rfl
  have hk0 : killedN (knL 16) [0, 1, 2] = 3 := knL_killed (by decide) hn0 hb0
  rw [hl] at hs0
  rw [bestL, hl]
  rcases bestTo_spec (knL 16) 3000000 (2 ^ 16) with ⟨_, h⟩ | ⟨r, s, h1, h2, h3, h4, h5⟩
  · have := h s0 hs0
    rw [he0, hc0] at this
    omega
  · rw [h1, Option.getD_some]
    have hr : IncL 0 16 r := by rw [h3, show (16 : Nat) = (knL 16).length from hl.symm]; exact setCh_inc _ _
    obtain ⟨hn1, hb1⟩ := hm hr
    have hcr := knL_cost hb1
    have hkr := knL_killed (n := 16) (by decide) hn1 hb1
    have hnb := h5 s0 hs0 (by rw [he0, hc0]; omega)
    rw [he0] at hnb
    unfold btr kb at hnb
    rw [hk0, hc0, hkr, hcr] at hnb
    rw [hcr] at h4
    have hlen : r.length = 3 := by
      rcases Nat.lt_or_ge r.length 3 with h | h
      · exact absurd (.inl (.inl h)) hnb
      · omega
    have hlex : ¬ lexB [0, 1, 2] r = true := fun h => hnb (.inr ⟨by omega, by rw [hlen]; rfl, h⟩)
    clear h1 h2 h3 h5 hs0 he0
    obtain ⟨x, y, z, rfl⟩ := len3 hlen
    have hp := hr.1
    have hb := hr.2
    simp at hp hb
    obtain ⟨⟨hxy, hxz⟩, hyz⟩ := hp
    simp only [lexB] at hlex
    by_cases hx : 0 = x
    · subst hx
      rw [if_pos rfl] at hlex
      by_cases hy : 1 = y
      · subst hy
        rw [if_pos rfl] at hlex
        by_cases hz : 2 = z
        · subst hz; rfl
        · rw [if_neg hz, decide_eq_true_eq] at hlex; omega
      · rw [if_neg hy, decide_eq_true_eq] at hlex; omega
    · rw [if_neg hx, decide_eq_true_eq] at hlex; omega
end Go.Avl
namespace Go.Avl
open Go Go.Proofs.Tryd
set_option maxRecDepth 10000
set_option linter.unusedSimpArgs false

/-! ### A machine that stays where it is, and words of one symbol -/
def oneM : Mach := ⟨1, 1, false, [(false, [(0, 0)])]⟩
theorem oneM_check : checkM oneM = 0 := by kernel_rfl
theorem oneM_valid : Valid oneM := .of oneM_check
theorem oneM_noNil : NoNil oneM := fun r hr h => by
  simp only [oneM, List.mem_singleton] at hr
  subst hr; cases h
def zW : List (List Int) := List.replicate 4096 [0]
theorem zW_len : zW.length = 4096 := List.length_replicate
def cr (q r : Nat) : CS := some (List.replicate q (List.replicate 256 0), List.replicate r 0)
theorem one_after : afterR oneM 0 [0] = 0 := by kernel_rfl
theorem pass1_app (m : Mach) : ∀ (a b : List (List Int)) (p : CS × List (List Int)), pass1 m (a ++ b) p = pass1 m b (pass1 m a p)
  | [], _, _ => rfl
  | w :: a, b, (s, o) => by
    rw [List.cons_append, pass1, pass1]
    split
    · exact pass1_app m a b _
    · exact pass1_app m a b _
theorem pass1_step (n : Nat) (s : CS) (o : List (List Int)) : pass1 oneM (List.replicate (n + 1) [0]) (s, o) = pass1 oneM (List.replicate n [0]) (putO true s [0], o) := by
  rw [List.replicate_succ, pass1, if_pos one_after]
theorem cr_put {q r : Nat} (h : r + 1 ≤ 256) : putO true (cr q r) [0] = cr q (r + 1) := by
  rw [cr, putO, if_pos (by rw [Bool.true_and, decide_eq_true_eq, List.length_replicate]; exact h), cr]
  rw [show ([0] : List Int) = List.replicate 1 0 from rfl, List.replicate_append_replicate]
theorem cr_next (q : Nat) : putO true (cr q 256) [0] = cr (q + 1) 1 := by
  rw [cr, putO, if_neg (by rw [Bool.true_and, decide_eq_true_eq, List.length_replicate]; decide), cr]
  rw [List.replicate_succ' (n := q)]; rfl
theorem cr_fill (q : Nat) (o : List (List Int)) : ∀ (n r : Nat), r + n ≤ 256 → pass1 oneM (List.replicate n [0]) (cr q r, o) = (cr q (r + n), o)
  | 0, _, _ => rfl
  | n + 1, r, h => by
    rw [pass1_step, cr_put (by omega), cr_fill q o n (r + 1) (by omega), show r + 1 + n = r + (n + 1) by omega]
theorem cr_first (o : List (List Int)) : pass1 oneM (List.replicate 256 [0]) (none, o) = (cr 0 256, o) := by
  rw [show 256 = 255 + 1 from rfl, pass1_step, show putO true none [0] = cr 0 1 from rfl, cr_fill 0 o 255 1 (by omega)]
theorem cr_more (q : Nat) (o : List (List Int)) : pass1 oneM (List.replicate 256 [0]) (cr q 256, o) = (cr (q + 1) 256, o) := by
  rw [show 256 = 255 + 1 from rfl, pass1_step, cr_next, cr_fill (q + 1) o 255 1 (by omega)]
theorem cr_all (o : List (List Int)) : ∀ j : Nat, pass1 oneM (List.replicate (256 * (j + 1)) [0]) (none, o) = (cr j 256, o)
  | 0 => cr_first o
  | j + 1 => by
    rw [show 256 * (j + 1 + 1) = 256 * (j + 1) + 256 by omega, ← List.replicate_append_replicate, pass1_app, cr_all o j, cr_more]
theorem zW_chains : chainsL oneM zW = List.replicate 16 (List.replicate 256 0) := by
  have h := cr_all [] 15
  rw [show 256 * (15 + 1) = 4096 from rfl] at h
  rw [chainsL, zW, h]
  show List.replicate 15 (List.replicate 256 0) ++ [List.replicate 256 0] = _
  rw [← List.replicate_succ']
theorem zW_err : wordsE oneM.ins zW = 0 := by
  refine wordsErr_of fun w hw => ?_
  obtain ⟨v, hv, rfl⟩ := List.mem_map.1 hw
  rw [(List.mem_replicate.1 hv).2]
  kernel_rfl
theorem zW_R : chainsR oneM zW = .tu [.sl false ((List.replicate 16 (List.replicate 256 (0 : Int))).map fun w => [.sl w.isEmpty (w.map intC) .full]) .full, .sc (.int .i64 0)] := by
  rw [chainsR, if_neg (by rw [zW_len]; omega), if_neg (fun h => h zW_err), zW_chains]; rfl
end Go.Avl
namespace Go.Avl
open Go Go.Proofs.Tryd
set_option maxRecDepth 10000
set_option linter.unusedSimpArgs false

/-- A refusal needs no memory. -/
theorem PureIs.frBad {P : Program} {f : FuncId} {args : List AV} {v : Value} {c : Cp} (h : PureIs P f args (.tu [.sl true [] c, .sc v])) : PureFr P f args (.tu [.sl true [] c, .sc v]) :=
  ⟨h.1, fun F w vals hF hi => (h.2 F w vals hF hi).mono fun _ w' ⟨u, F', he, hv, g⟩ => by
    have hu : Imm (fun b o => F' b o ∧ w.heap.size ≤ b) w' u (.tu [.sl true [] c, .sc v]) := by
      cases hv with
      | tu vs cs hl hvs =>
        refine .tu vs _ hl fun i h1 h2 => ?_
        have := hvs i h1 h2
        match i, h2 with
        | 0, _ =>
          have this : Imm F' w' vs[0] (.sl true [] c) := this
          show Imm _ _ vs[0] (.sl true [] c)
          generalize vs[0] = z at this
          cases this with
          | nil _ hc => exact .nil _ hc
        | 1, _ =>
          have this : Imm F' w' vs[1] (.sc v) := this
          show Imm _ _ vs[1] (.sc v)
          generalize vs[1] = z at this
          cases this with
          | sc _ => exact .sc _
    exact ⟨u, fun b o => F' b o ∧ w.heap.size ≤ b, he, hu, fun b o h => ⟨h.2, g.inF b o h.1⟩,
      ⟨g.size, g.old, fun b o h => .inl h, fun b o h => h.elim .inl fun h => .inr h.2, fun b o h => h.elim (fun h => Nat.lt_of_lt_of_le (hF.1 b o h) g.size) fun h => g.inF b o h.1, g.kept⟩⟩⟩
theorem ints_unks2 (l : List Int) : AV.unkss (l.map intC) = l.map intC := unkss_map intC (fun _ => rfl) l
theorem itemU_unks2 (l : List Item) : AV.unkss (l.map itemU) = l.map itemC := by
  rw [unkss_eq, List.map_map]
  refine List.map_congr_left fun x _ => ?_
  show AV.unks (itemU x) = itemC x
  simp only [itemU, AV.unks, AV.unk, ints_unks2]; rfl
theorem itemC_unks2 (l : List Item) : AV.unkss (l.map itemC) = l.map itemC := unkss_map itemC (fun x => by simp only [itemC, AV.unks, AV.unk, ints_unks2]) l
theorem knL_small {n : Nat} : ∀ y ∈ knL n, y.kills.length < 1000000 := fun y hy => by
  obtain ⟨i, _, rfl⟩ := List.mem_map.1 hy
  show 1 < 1000000
  decide
theorem kn_order : PureIs prog 15 [.sl false ((knL 256).map itemU) .unk] (.tu [.sl false ((iota 256).map intC) .full, .sc (.int .i64 0)]) := by
  have q := order_is false (knL 256) .unk knL_small (by rw [knL_len]; decide)
  rw [orderR, if_pos (knL_check (Nat.le_refl _)), knL_order (Nat.le_refl _)] at q
  refine PureIs.weak ?_
  simp only [List.map_cons, List.map_nil, AV.unk, itemU_unks2]
  exact q
theorem kn_late : PureIs prog 17 [.sl false ((knL 256).map itemU) .unk, .sl false ((iota 256).map intC) .full] (.tu [.sc (.int .i64 32896000000), .sc (.int .i64 0)]) := by
  have q := late_is false (knL 256) .unk false (iota 256) .unk knL_small (by rw [iota_len]; decide)
  rw [lateR, if_pos (knL_check (Nat.le_refl _)), if_pos (choiceB_ok.2 (iota_ok (Nat.le_refl _))), knL_late256] at q
  refine PureIs.weak ?_
  simp only [List.map_cons, List.map_nil, AV.unk, itemU_unks2, ints_unks2]
  exact q
theorem kn_best : PureIs prog 18 [.sl false ((knL 16).map itemU) .unk, .sc (.int .i64 3000000)] (.tu [.sl false [[.sc (.int .i64 0)], [.sc (.int .i64 1)], [.sc (.int .i64 2)]] .full, .sc (.int .i64 0)]) := by
  have q := best_is false (knL 16) .unk 3000000 knL_small (by rw [knL_len]; decide) (by decide)
  rw [bestR, if_pos (knL_check (by decide)), if_neg (by rw [knL_len]; decide), knL_best] at q
  refine PureIs.weak ?_
  simp only [List.map_cons, List.map_nil, AV.unk, itemU_unks2]
  exact q
theorem kn_best17 : PureIs prog 18 [.sl false ((knL 17).map itemU) .unk, .sc (.int .i64 0)] (.tu [.sl true [] .unk, .sc (.int .i64 3)]) := by
  have q := best_is false (knL 17) .unk 0 knL_small (by rw [knL_len]; decide) (by decide)
  rw [bestR, if_pos (knL_check (by decide)), if_pos (by rw [knL_len]; decide)] at q
  refine PureIs.weak ?_
  simp only [List.map_cons, List.map_nil, AV.unk, itemU_unks2]
  exact q
theorem kn_order257 : PureIs prog 15 [.sl false ((knL 256 ++ [knI 0]).map itemU) .unk] (.tu [.sl true [] .unk, .sc (.int .i64 3)]) := by
  have hl : (knL 256 ++ [knI 0]).length = 257 := by rw [List.length_append, knL_len]; rfl
  have q := order_is false (knL 256 ++ [knI 0]) .unk (fun y hy => by
    rcases List.mem_append.1 hy with hy | hy
    · exact knL_small y hy
    · rw [List.mem_singleton.1 hy]; show 1 < 1000000; decide) (by rw [hl]; decide)
  have hc : checkI (knL 256 ++ [knI 0]) = 3 := by rw [checkI, if_pos (by rw [hl]; decide)]
  rw [orderR, if_neg (by rw [hc]; decide), hc] at q
  refine PureIs.weak ?_
  simp only [List.map_cons, List.map_nil, AV.unk, itemU_unks2]
  exact q
/-- Rows of one symbol. -/
def zRow : List AV := [.sl false [[.sc (.int .i64 0)]] .full]
def zRows (n : Nat) : List (List AV) := List.replicate n zRow
theorem zRows_succ (n : Nat) : zRows n ++ [zRow] = zRows (n + 1) := by rw [zRows, zRows, List.replicate_succ']
theorem zRows_len (n : Nat) : (zRows n).length = n := List.length_replicate
theorem zRows_norefs (n : Nat) : (zRows n).all AV.norefs = true := by
  rw [List.all_eq_true]; intro c hc; rw [(List.mem_replicate.1 hc).2]; rfl
theorem zRows_unks (n : Nat) : AV.unkss (zRows n) = (List.replicate n ([0] : List Int)).map wC := by
  rw [unkss_eq, zRows, List.map_replicate, List.map_replicate]; rfl
theorem zRows_unksD (n : Nat) : AV.unkss (zRows n) = (List.replicate n (((false, [0])) : Wd)).map wdC := by
  rw [unkss_eq, zRows, List.map_replicate, List.map_replicate]; rfl
theorem zRows_take {k n : Nat} (h : k ≤ n) : List.take k (zRows n) = zRows k := by rw [zRows, List.take_replicate, Nat.min_eq_left h]; rfl
abbrev oneA : List AV := [.sc (.int .i64 1), .sc (.int .i64 1), .sl false [[.sl false [[.sc (.int .i64 0), .sc (.int .i64 0)]] .full]] .full]
theorem one_cells : AV.unks oneA = oneM.cells := rfl
/-- The chains of those words, as they lie in the answer. -/
def zCh : List (List AV) := (List.replicate 16 (List.replicate 256 (0 : Int))).map fun w => [.sl w.isEmpty (w.map intC) .full]
theorem zCh_len : zCh.length = 16 := by rw [zCh, List.length_map, List.length_replicate]
theorem zCh_norefs : zCh.all AV.norefs = true := by
  rw [List.all_eq_true]; intro c hc
  obtain ⟨w, _, rfl⟩ := List.mem_map.1 hc
  simp [AV.norefs, AV.noref]
theorem zCh_at : ∃ E : List (List AV), zCh[15]? = some [.sl false E .full] ∧ E.length = 256 ∧ E.all AV.norefs = true := by
  refine ⟨(List.replicate 256 (0 : Int)).map intC, ?_, by rw [List.length_map, List.length_replicate], norefs_ints _⟩
  rw [zCh, List.getElem?_map, List.getElem?_replicate, if_pos (by decide)]; rfl
theorem kn_chains : PureIs prog 36 [.ag oneA, .sl false (zRows 4096) .unk] (.tu [.sl false zCh .full, .sc (.int .i64 0)]) := by
  have q := chains36_is oneM_valid oneM_check false zW .unk (by rw [zW_len]; decide) (fun w hw => by rw [(List.mem_replicate.1 hw).2]; decide)
  rw [zW_R] at q
  refine PureIs.weak ?_
  simp only [List.map_cons, List.map_nil, AV.unk, zRows_unks, one_cells]
  exact q
theorem kn_chains2 : PureIs prog 36 [.ag oneA, .sl false (zRows 4096 ++ [[.sl true [] .zer]]) .unk] (.tu [.sl true [] .unk, .sc (.int .i64 3)]) := by
  have hl : (zW ++ [[]]).length = 4097 := by rw [List.length_append, zW_len]; rfl
  have q := chains36_is oneM_valid oneM_check false (zW ++ [[]]) .unk (by rw [hl]; decide) (fun w hw => by
    rcases List.mem_append.1 hw with hw | hw
    · rw [(List.mem_replicate.1 hw).2]; decide
    · rw [List.mem_singleton.1 hw]; decide)
  rw [chainsR, if_pos (by rw [hl]; decide)] at q
  refine PureIs.weak ?_
  have e : AV.unkss (zRows 4096 ++ [[.sl true [] .zer]]) = (zW ++ [[]]).map wC := by
    rw [unkss_eq, List.map_append, ← unkss_eq, zRows_unks, List.map_append]; rfl
  simp only [List.map_cons, List.map_nil, AV.unk, e, one_cells]
  exact q
def zIt : List (List AV) := ((List.replicate 256 (((false, [0])) : Wd)).map (itemF oneM [] 1000 1000)).map itemU
theorem zIt_len : zIt.length = 256 := by rw [zIt, List.length_map, List.length_map, List.length_replicate]
theorem zIt_norefs : zIt.all AV.norefs = true := norefs_itemU _
theorem zIt_at : zIt[0]? = some [.sc (.int .i64 2000), .sl true [] .full] := by
  rw [zIt, List.getElem?_map, List.getElem?_map, List.getElem?_replicate, if_pos (by decide)]; rfl
theorem kn_words {n : Nat} : ∀ w ∈ List.replicate n (((false, [0])) : Wd), w.2.length < 1000000 := fun w hw => by rw [(List.mem_replicate.1 hw).2]; decide
theorem kn_items : PureIs prog 21 [.ag oneA, .sl true [] .zer, .sl false (zRows 256) .unk, .sc (.int .i64 1000), .sc (.int .i64 1000)] (.tu [.sl false zIt .full, .sc (.int .i64 0)]) := by
  have q := items21_is oneM_valid oneM_check oneM_noNil true [] .unk (by decide) false (List.replicate 256 (((false, [0])) : Wd)) .unk (by rw [List.length_replicate]; decide) kn_words 1000 1000
  have hw : wordsErr oneM.ins (List.replicate 256 (((false, [0])) : Wd)) = 0 := wordsErr_of fun w hw => by rw [(List.mem_replicate.1 hw).2]; kernel_rfl
  have hz : costZ 1000 1000 (List.replicate 256 (((false, [0])) : Wd)) = false := by
    unfold costZ
    rw [List.any_eq_false]
    intro w hw
    rw [(List.mem_replicate.1 hw).2]; decide
  rw [itemsR, if_neg (by rw [List.length_replicate]; decide), if_neg (fun h => h rfl), if_neg (fun h => h hw), if_neg (by rw [show pricesBad 1000 1000 = false by kernel_rfl]; simp), if_neg (by rw [hz]; simp)] at q
  refine PureIs.weak ?_
  simp only [List.map_cons, List.map_nil, AV.unk, zRows_unksD, one_cells, AV.unkss]
  exact q
theorem kn_items257 : PureIs prog 21 [.ag oneA, .sl true [] .zer, .sl false (zRows 257) .unk, .sc (.int .i64 0), .sc (.int .i64 1)] (.tu [.sl true [] .unk, .sc (.int .i64 3)]) := by
  have q := items21_is oneM_valid oneM_check oneM_noNil true [] .unk (by decide) false (List.replicate 257 (((false, [0])) : Wd)) .unk (by rw [List.length_replicate]; decide) kn_words 0 1
  rw [itemsR, if_pos (.inr (by rw [List.length_replicate]; decide))] at q
  refine PureIs.weak ?_
  simp only [List.map_cons, List.map_nil, AV.unk, zRows_unksD, one_cells, AV.unkss]
  exact q
theorem kn_itemsNil : PureIs prog 21 [.ag oneA, .sl true [] .zer, .sl false [[.sl true [] .zer]] .full, .sc (.int .i64 0), .sc (.int .i64 1)] (.tu [.sl true [] .unk, .sc (.int .i64 1)]) := by
  have q := items21_is oneM_valid oneM_check oneM_noNil true [] .unk (by decide) false [((true, []) : Wd)] .unk (by decide) (by simp) 0 1
  have hw : wordsErr oneM.ins [((true, []) : Wd)] = 0 := by kernel_rfl
  have hz : costZ 0 1 [((true, []) : Wd)] = true := by kernel_rfl
  rw [itemsR, if_neg (by simp), if_neg (fun h => h rfl), if_neg (fun h => h hw), if_neg (by rw [show pricesBad 0 1 = false by kernel_rfl]; simp), if_pos hz] at q
  exact .weak q
def kn4 : Nat → Item
  | 0 => ⟨0, true, []⟩
  | 1 => ⟨1000001, true, []⟩
  | 2 => ⟨1, false, [256]⟩
  | _ => ⟨1, false, [3, 3]⟩
theorem kn_check0 : PureIs prog 13 [.sl false [[.sc (.int .i64 0), .sl true [] .zer]] .full] (.sc (.int .i64 1)) := .weak (by
  have q := check_items_is false [(⟨0, true, []⟩ : Item)] .unk (by simp)
  rwa [show checkI [(⟨0, true, []⟩ : Item)] = 1 by kernel_rfl] at q)
theorem kn_check1 : PureIs prog 13 [.sl false [[.sc (.int .i64 1000001), .sl true [] .zer]] .full] (.sc (.int .i64 1)) := .weak (by
  have q := check_items_is false [(⟨1000001, true, []⟩ : Item)] .unk (by simp)
  rwa [show checkI [(⟨1000001, true, []⟩ : Item)] = 1 by kernel_rfl] at q)
theorem kn_check2 : PureIs prog 13 [.sl false [[.sc (.int .i64 1), .sl false [[.sc (.int .i64 256)]] .full]] .full] (.sc (.int .i64 1)) := .weak (by
  have q := check_items_is false [(⟨1, false, [256]⟩ : Item)] .unk (by simp)
  rwa [show checkI [(⟨1, false, [256]⟩ : Item)] = 1 by kernel_rfl] at q)
theorem kn_check3 : PureIs prog 13 [.sl false [[.sc (.int .i64 1), .sl false [[.sc (.int .i64 3)], [.sc (.int .i64 3)]] .full]] .full] (.sc (.int .i64 1)) := .weak (by
  have q := check_items_is false [(⟨1, false, [3, 3]⟩ : Item)] .unk (by simp)
  rwa [show checkI [(⟨1, false, [3, 3]⟩ : Item)] = 1 by kernel_rfl] at q)
theorem kn_same : PureIs prog 25 [.sl false [[.sc (.int .i64 0)], [.sc (.int .i64 1)], [.sc (.int .i64 2)]] .full, .sl false [[.sc (.int .i64 0)], [.sc (.int .i64 1)], [.sc (.int .i64 2)]] .full] (.sc (.bool true)) := by
  have q := same_is false [0, 1, 2] .full false [0, 1, 2] .full (by decide)
  rwa [decide_eq_true rfl] at q
set_option maxHeartbeats 8000000 in
theorem plansKnown_is : PureIs prog 11 [] (.sc (.bool true)) := by
  refine PureIs.of (nv := 7) (hid := [8, 9, 10, 12, 13, 14, 15, 16, 17, 18, 19, 21, 99, 101, 118, 124, 164]) func11 rfl (by kernel_rfl) (by simp [ntmps11]) fun _ => ?_
  rw [ntmps11, results11]
  refine EvC.seq (EvC.rg (by (simp only [go_sem]) <;> rfl) (by simp) ?_)
  refine EvC.seq (EvC.rg (by (simp only [go_sem]) <;> rfl) (by simp) ?_)
  refine EvC.seq ?_
  refine EvC.seq (EvC.rg (by (simp only [go_sem]) <;> rfl) (by simp) ?_)
  refine EvC.block ?_  -- 0
  refine EvC.loopS (σ := Nat) (fun i => ⟨[(1, .tl 0 (knL i).length (knL i).isEmpty), (2, .sc (.int .i64 i))], [], [(0, .arr 2 ((knL i).map itemU) true)], 1⟩) (fun i => 256 - i) (fun i => i ≤ 256) [1, 2] 1 ?_ ?_
  · exact ⟨[(1, 0)], 0, rfl, (by (simp only [go_sem, Int.natCast_zero, knL, List.range_zero, List.map_nil, List.length_nil, List.isEmpty_nil]) <;> rfl), Nat.zero_le _⟩
  intro i hi
  refine EvC.seq ?_
  refine EvC.seq (EvC.rg (by (simp only [go_sem]) <;> rfl) (by simp) ?_)
  refine EvC.cond (by (simp only [go_sem]) <;> rfl) (fun hc => ?_) (fun hc => ?_)
  rotate_left
  · -- else
    refine EvC.exit ?_  -- 0
    obtain rfl : i = 256 := by have : ¬ (i : Int) < 256 := (by simpa using hc); omega
    clear hc
    have hl := knL_len 256
    have he : (knL 256).isEmpty = false := by cases h : knL 256 with
      | nil => rw [h] at hl; cases hl
      | cons => rfl
    have hg0 : ((knL 256).map itemU)[0]? = some [.sc (.int .i64 1000000), .sl false [[.sc (.int .i64 255)]] .full] := by rw [List.getElem?_map, knL, List.getElem?_map, List.getElem?_range (by decide)]; rfl
    have ht16 : List.take 16 ((knL 256).map itemU) = (knL 16).map itemU := by rw [← List.map_take, knL, ← List.map_take, List.take_range]; rfl
    have ht17 : List.take 17 ((knL 256).map itemU) = (knL 17).map itemU := by rw [← List.map_take, knL, ← List.map_take, List.take_range]; rfl
    have q1 := kn_order
    have q2 := kn_late
    have q3 := kn_order257
    have q4 := kn_best
    have q5 := kn_best17
    rw [List.map_append, show List.map itemU [knI 0] = [[.sc (.int .i64 1000000), .sl false [[.sc (.int .i64 255)]] .full]] from rfl] at q3
    have hl2 : ((knL 256).map itemU).length = 256 := by rw [List.length_map]; exact hl
    have hn2 := norefs_itemU (knL 256)
    have hn16 := norefs_itemU (knL 16)
    have hn17 := norefs_itemU (knL 17)
    have hp : ∀ c ∈ (knL 256).map itemU, c.length = 2 := fun c hc => by
      obtain ⟨x, _, rfl⟩ := List.mem_map.1 hc; rfl
    have hrA : room 256 32 = true := by simp only [room_eq, decide_eq_true_eq]; omega
    have hrB : room 257 32 = true := by simp only [room_eq, decide_eq_true_eq]; omega
    rw [hl, he]
    refine EvC.frz 0 (by (simp only [go_sem, hl2]) <;> rfl) ?_
    have hi0 : (iota 256).isEmpty = false := rfl
    have hil := iota_len 256
    have hi255 : ((iota 256).map intC)[255]? = some [.sc (.int .i64 255)] := by rw [List.getElem?_map, iota, List.getElem?_map, List.getElem?_range (by decide)]; rfl
    have hin := norefs_ints (iota 256)
    have hil2 : ((iota 256).map intC).length = 256 := by rw [List.length_map]; exact hil
    generalize (iota 256).map intC = IO at *
    generalize (knL 256).map itemU = KL at *
    generalize (knL 16).map itemU = K16 at *
    generalize (knL 17).map itemU = K17 at *
    apply EvC.seq
    apply EvC.tr
    · apply Tr.run
      · (simp only [go_sem]) <;> rfl
      · simp
      apply Tr.cons
      · exact .call rfl rfl (by (simp only [go_sem]) <;> rfl) (by (simp only [go_sem]) <;> rfl) (by (simp only [go_sem]) <;> rfl) (by (simp only [go_sem]) <;> rfl) (by (simp only [go_sem]) <;> rfl) (q1)
      apply Tr.done
      · (simp only [go_sem, hin]) <;> rfl
      · simp
    apply EvC.seq
    apply EvC.tr
    · apply Tr.run
      · (simp only [go_sem]) <;> rfl
      · simp
      apply Tr.cons
      · exact .call rfl rfl (by (simp only [go_sem]) <;> rfl) (by (simp only [go_sem]) <;> rfl) (by (simp only [go_sem]) <;> rfl) (by (simp only [go_sem]) <;> rfl) (by (simp only [go_sem]) <;> rfl) (q2)
      apply Tr.done
      · (simp only [go_sem, hin]) <;> rfl
      · simp
    have hK1 : (KL ++ [[AV.sc (.int .i64 1000000), .sl false [[.sc (.int .i64 255)]] .full]]).length = 257 := by rw [List.length_append, hl2]; rfl
    have hKn : (KL ++ [[AV.sc (.int .i64 1000000), .sl false [[.sc (.int .i64 255)]] .full]]).all AV.norefs = true := by rw [List.all_append, hn2]; rfl
    apply EvC.seq
    apply EvC.drwA mixed  -- R8
    · apply Tr.run
      · (simp only [go_sem, hg0, hl2, hK1]) <;> rfl
      · simp [hrA, hrB]; exact hp
      apply Tr.cons
      · exact .callD (xs := [.sl false (KL ++ [[.sc (.int .i64 1000000), .sl false [[.sc (.int .i64 255)]] .full]]) .unk]) 20 rfl rfl (by (simp only [go_sem]) <;> rfl) (by (simp only [go_sem]) <;> rfl) (by (simp only [go_sem, hK1, hl2, hn2]) <;> rfl) (by (simp only [go_sem, hK1, hKn, hl2, hn2]) <;> rfl) (by (simp only [go_sem]) <;> rfl) (PureIs.frBad q3)
      apply Tr.done
      · (simp only [go_sem]) <;> rfl
      · simp
    · kernel_rfl
    apply EvC.seq
    apply EvC.tr
    · apply Tr.run
      · (simp only [go_sem, ht16, hl2, hn16]) <;> rfl
      · simp [hl2]; exact hp
      apply Tr.cons
      · exact .call rfl rfl (by (simp only [go_sem]) <;> rfl) (by (simp only [go_sem]) <;> rfl) (by (simp only [go_sem]) <;> rfl) (by (simp only [go_sem]) <;> rfl) (by (simp only [go_sem]) <;> rfl) (q4)
      apply Tr.done
      · (simp only [go_sem, hn16]) <;> rfl
      · simp
    apply EvC.seq
    apply EvC.tr
    · apply Tr.run
      · (simp only [go_sem, ht17, hl2, hn17]) <;> rfl
      · simp [hl2]; exact hp
      apply Tr.cons
      · exact .call rfl rfl (by (simp only [go_sem]) <;> rfl) (by (simp only [go_sem]) <;> rfl) (by (simp only [go_sem]) <;> rfl) (by (simp only [go_sem]) <;> rfl) (by (simp only [go_sem]) <;> rfl) (q5)
      apply Tr.done
      · (simp only [go_sem, hn17]) <;> rfl
      · simp
    refine EvC.seq ?_
    apply EvC.seq
    apply EvC.tr
    · apply Tr.run
      · (simp only [go_sem, hi255, hin, hil2]) <;> rfl
      · simp
      apply Tr.cons
      · exact .callG rfl rfl (by (simp only [go_sem]) <;> rfl) rfl (by (simp only [go_sem]) <;> rfl) (by (simp only [go_sem]) <;> rfl) (by (simp only [go_sem]) <;> rfl) (by (simp only [go_sem]) <;> rfl) (by (simp only [go_sem]) <;> rfl) (kn_same)
      apply Tr.done
      · (simp only [go_sem, hi255, hin, hil2]) <;> rfl
      · simp
    refine EvC.cond_false (by (simp only [go_sem]) <;> rfl) ?_
    refine EvC.skip ?_
    refine EvC.seq ?_
    refine EvC.seq (EvC.rg (by (simp only [go_sem]) <;> rfl) (by simp) ?_)
    refine EvC.block ?_  -- 2
    refine EvC.loopS (σ := Nat) (fun k => ⟨[(13, .sc (.int .i64 k))], [], [], 0⟩) (fun k => 4 - k) (fun k => k ≤ 4) [13] 0 ?_ ?_
    · exact ⟨[], 0, rfl, (by (simp only [go_sem, Int.natCast_zero]) <;> rfl), Nat.zero_le _⟩
    intro k hk
    refine EvC.seq ?_
    refine EvC.seq (EvC.rg (by (simp only [go_sem]) <;> rfl) (by simp) ?_)
    refine EvC.cond (by (simp only [go_sem]) <;> rfl) (fun hc => ?_) (fun hc => ?_)
    rotate_left
    · -- else
      refine EvC.exit ?_  -- 2
      clear hc hk
      clear q1 q2 q3 q4 q5
      have w1 := kn_chains
      have w2 := kn_chains2
      have w3 := kn_items
      have w4 := kn_items257
      have w5 := kn_itemsNil
      refine EvC.seq (EvC.rg (by (simp only [go_sem]) <;> rfl) (by simp) ?_)
      refine EvC.frzB 6 (by (simp only [go_sem]) <;> rfl) ?_
      refine EvC.seq (EvC.rg (by (simp only [go_sem]) <;> rfl) (by simp) ?_)
      refine EvC.seq ?_
      refine EvC.seq (EvC.rg (by (simp only [go_sem]) <;> rfl) (by simp) ?_)
      refine EvC.block ?_  -- 4
      refine EvC.loopS (σ := Nat) (fun n => ⟨[(15, .ia oneA), (16, .tl 0 (zRows n).length (zRows n).isEmpty), (17, .sc (.int .i64 n))], [], [(0, .arr 1 (zRows n) true)], 1⟩) (fun n => 4096 - n) (fun n => n ≤ 4096) [15, 16, 17] 1 ?_ ?_
      · exact ⟨[(8, 0)], 0, rfl, (by rw [show zRows 0 = [] from rfl]; (simp only [go_sem, Int.natCast_zero, List.length_nil, List.isEmpty_nil]) <;> rfl), Nat.zero_le _⟩
      intro n hn
      refine EvC.seq ?_
      refine EvC.seq (EvC.rg (by (simp only [go_sem]) <;> rfl) (by simp) ?_)
      refine EvC.cond (by (simp only [go_sem]) <;> rfl) (fun hc => ?_) (fun hc => ?_)
      rotate_left
      · -- else
        refine EvC.exit ?_  -- 4
        obtain rfl : n = 4096 := by have : ¬ (n : Int) < 4096 := (by simpa using hc); omega
        clear hc hn
        have hz1 := zRows_len 4096
        have hz2 : (zRows 4096).isEmpty = false := by cases h : zRows 4096 with
          | nil => rw [h] at hz1; cases hz1
          | cons => rfl
        have hz3 := zRows_norefs 4096
        have hz4 := zRows_norefs 256
        have hz5 := zRows_norefs 257
        have hz6 : List.take 256 (zRows 4096) = zRows 256 := zRows_take (by decide)
        have hz7 : List.take 257 (zRows 4096) = zRows 257 := zRows_take (by decide)
        have hz8 : ∀ c ∈ zRows 4096, c.length = 1 := fun c hc => by rw [(List.mem_replicate.1 hc).2]; rfl
        obtain ⟨E, hE1, hE2, hE3⟩ := zCh_at
        have hc1 := zCh_len
        have hc2 := zCh_norefs
        have hi1 := zIt_len
        have hi2 := zIt_norefs
        have hi3 := zIt_at
        rw [hz1, hz2]
        generalize zRows 4096 = Z at *
        generalize zRows 256 = Z1 at *
        generalize zRows 257 = Z2 at *
        generalize zCh = CH at *
        generalize zIt = IT at *
        refine EvC.frz 0 (by (simp only [go_sem, hz1, hz3]) <;> rfl) ?_
        apply EvC.seq
        apply EvC.tr
        · apply Tr.run
          · (simp only [go_sem, hz3]) <;> rfl
          · simp
          apply Tr.cons
          · exact .call rfl rfl (by (simp only [go_sem]) <;> rfl) (by (simp only [go_sem]) <;> rfl) (by (simp only [go_sem]) <;> rfl) (by (simp only [go_sem]) <;> rfl) (by (simp only [go_sem]) <;> rfl) (w1)
          apply Tr.done
          · (simp only [go_sem, hc2, hz3]) <;> rfl
          · simp
        have hrA : room 4096 24 = true := by simp only [room_eq, decide_eq_true_eq]; omega
        have hrB : room 4097 24 = true := by simp only [room_eq, decide_eq_true_eq]; omega
        have hZ1 : (Z ++ [[AV.sl true [] .zer]]).length = 4097 := by rw [List.length_append, hz1]; rfl
        have hZn : (Z ++ [[AV.sl true [] .zer]]).all AV.norefs = true := by rw [List.all_append, hz3]; rfl
        apply EvC.seq
        apply EvC.drwA mixed  -- R26
        · apply Tr.run
          · (simp only [go_sem, hz1, hz3, hZ1]) <;> rfl
          · simp [hrA, hrB]; exact hz8
          apply Tr.cons
          · exact .callD (xs := [.ag oneA, .sl false (Z ++ [[.sl true [] .zer]]) .unk]) 14 rfl rfl (by (simp only [go_sem]) <;> rfl) (by (simp only [go_sem]) <;> rfl) (by (simp only [go_sem, hz1, hz3, hZ1, hZn]) <;> rfl) (by (simp only [go_sem, hz1, hz3, hZ1, hZn]) <;> rfl) (by (simp only [go_sem]) <;> rfl) (PureIs.frBad w2)
          apply Tr.done
          · (simp only [go_sem]) <;> rfl
          · simp
        · kernel_rfl
        refine EvC.seq ?_
        apply EvC.seq
        apply EvC.trd
        · (simp only [go_sem, hc1, hc2, hE1, hE2, hE3]) <;> rfl
        · simp
        refine EvC.cond_false (by (simp only [go_sem]) <;> rfl) ?_
        refine EvC.skip ?_
        apply EvC.seq
        apply EvC.drw mixed
        · apply Tr.run
          · (simp only [go_sem, hz6, hz1, hz3, hz4]) <;> rfl
          · simp [hz1]; exact hz8
          apply Tr.cons
          · exact .call rfl rfl (by (simp only [go_sem]) <;> rfl) (by (simp only [go_sem]) <;> rfl) (by (simp only [go_sem]) <;> rfl) (by (simp only [go_sem]) <;> rfl) (by (simp only [go_sem]) <;> rfl) (w3)
          apply Tr.done
          · (simp only [go_sem, hi1, hi2]) <;> rfl
          · simp
        · kernel_rfl
        apply EvC.seq
        apply EvC.drw mixed
        · apply Tr.run
          · (simp only [go_sem, hz7, hz1, hz3, hz5]) <;> rfl
          · simp [hz1]; exact hz8
          apply Tr.cons
          · exact .call rfl rfl (by (simp only [go_sem]) <;> rfl) (by (simp only [go_sem]) <;> rfl) (by (simp only [go_sem]) <;> rfl) (by (simp only [go_sem]) <;> rfl) (by (simp only [go_sem]) <;> rfl) (w4)
          apply Tr.done
          · (simp only [go_sem]) <;> rfl
          · simp
        · kernel_rfl
        apply EvC.seq
        apply EvC.tr
        · apply Tr.run
          · (simp only [go_sem]) <;> rfl
          · simp
          apply Tr.cons
          · exact .call rfl rfl (by (simp only [go_sem]) <;> rfl) (by (simp only [go_sem]) <;> rfl) (by (simp only [go_sem]) <;> rfl) (by (simp only [go_sem]) <;> rfl) (by (simp only [go_sem]) <;> rfl) (w5)
          apply Tr.done
          · (simp only [go_sem]) <;> rfl
          · simp
        apply EvC.seq
        apply EvC.tr
        · apply Tr.run
          · (simp only [go_sem, hi1, hi2, hi3]) <;> rfl
          · simp
          apply Tr.cons
          · exact .callG rfl rfl (by (simp only [go_sem]) <;> rfl) rfl (by (simp only [go_sem]) <;> rfl) (by (simp only [go_sem]) <;> rfl) (by (simp only [go_sem]) <;> rfl) (by (simp only [go_sem]) <;> rfl) (by (simp only [go_sem]) <;> rfl) (lives_is)
          apply Tr.done
          · (simp only [go_sem, hi1, hi2, hi3]) <;> rfl
          · simp
        refine EvC.ret ⟨.inl rfl, _, (by (simp only [go_sem]) <;> rfl), ?_, rfl⟩
        simp only [go_sem]
        simp
      have hnl : n < 4096 := by have : (n : Int) < 4096 := (by simpa using hc); omega
      clear hc
      have hzl := zRows_len n
      have hzs := zRows_succ n
      have hzs1 : zRows n ++ [[.sl false [[.sc (.int .i64 0)]] .full]] = zRows (n + 1) := hzs
      have hzl1 : (zRows n).length + 1 = (zRows (n + 1)).length := by rw [← hzs]; simp
      have hze : (zRows (n + 1)).isEmpty = false := by rw [← hzs]; simp
      have hzn := zRows_norefs (n + 1)
      have hr2 : room ((zRows n).length + 1) 24 = true := by simp only [room_eq, decide_eq_true_eq]; omega
      rw [hzl1] at hr2
      generalize hT' : zRows (n + 1) = T' at hzs1 hzl1 hze hzn hr2
      generalize zRows n = T at hzs1 hzl1
      refine EvC.skip ?_
      refine EvC.seq ?_
      refine EvC.block ?_  -- 5
      refine EvC.rg (by (simp only [go_sem, hzs1, hzl1]) <;> rfl) (by simp [hr2]) ?_
      refine EvC.rg (by (simp only [go_sem]) <;> rfl) (by exact inI64_of (by omega) (by omega)) ?_
      exact ⟨[(0, 0)], n + 1, rfl, (by rw [hT']; (simp only [go_sem, hze, hzn, Int.natCast_add, Int.natCast_one]) <;> rfl), hnl, by omega⟩
    have hkl : k < 4 := by have : (k : Int) < 4 := (by simpa using hc); omega
    clear hc
    refine EvC.skip ?_
    refine EvC.seq ?_
    refine EvC.block ?_  -- 3
    have n0 : ((0 : Nat) : Int) = 0 := rfl
    have n1 : ((1 : Nat) : Int) = 1 := rfl
    have n2 : ((2 : Nat) : Int) = 2 := rfl
    have n3 : ((3 : Nat) : Int) = 3 := rfl
    have m1 : (1 : Int).toNat = 1 := rfl
    have m2 : (2 : Int).toNat = 2 := rfl
    have m3 : (3 : Int).toNat = 3 := rfl
    have hk4 : k = 0 ∨ k = 1 ∨ k = 2 ∨ k = 3 := by omega
    rcases hk4 with rfl | rfl | rfl | rfl
    · apply EvC.seq
      apply EvC.drd mixed
      · (simp only [go_sem, n0]) <;> rfl
      · simp
      · kernel_rfl
      apply EvC.seq
      apply EvC.tr
      · apply Tr.run
        · (simp only [go_sem]) <;> rfl
        · simp
        apply Tr.cons
        · exact .call rfl rfl (by (simp only [go_sem]) <;> rfl) (by (simp only [go_sem]) <;> rfl) (by (simp only [go_sem]) <;> rfl) (by (simp only [go_sem]) <;> rfl) (by (simp only [go_sem]) <;> rfl) (kn_check0)
        apply Tr.done
        · (simp only [go_sem]) <;> rfl
        · simp
      refine EvC.cond_false (by (simp only [go_sem]) <;> rfl) ?_
      refine EvC.skip ?_
      refine EvC.rg (by (simp only [go_sem, n0]) <;> rfl) (by exact inI64_of (by omega) (by omega)) ?_
      exact ⟨[], 1, rfl, (by (simp only [go_sem, Int.reduceAdd]) <;> rfl), by omega, by omega⟩
    · apply EvC.seq
      apply EvC.drd mixed
      · (simp only [go_sem, n1, m1]) <;> rfl
      · simp
      · kernel_rfl
      apply EvC.seq
      apply EvC.tr
      · apply Tr.run
        · (simp only [go_sem]) <;> rfl
        · simp
        apply Tr.cons
        · exact .call rfl rfl (by (simp only [go_sem]) <;> rfl) (by (simp only [go_sem]) <;> rfl) (by (simp only [go_sem]) <;> rfl) (by (simp only [go_sem]) <;> rfl) (by (simp only [go_sem]) <;> rfl) (kn_check1)
        apply Tr.done
        · (simp only [go_sem]) <;> rfl
        · simp
      refine EvC.cond_false (by (simp only [go_sem]) <;> rfl) ?_
      refine EvC.skip ?_
      refine EvC.rg (by (simp only [go_sem, n1]) <;> rfl) (by exact inI64_of (by omega) (by omega)) ?_
      exact ⟨[], 2, rfl, (by (simp only [go_sem, Int.reduceAdd]) <;> rfl), by omega, by omega⟩
    · apply EvC.seq
      apply EvC.drd mixed
      · (simp only [go_sem, n2, m2]) <;> rfl
      · simp
      · kernel_rfl
      apply EvC.seq
      apply EvC.tr
      · apply Tr.run
        · (simp only [go_sem]) <;> rfl
        · simp
        apply Tr.cons
        · exact .call rfl rfl (by (simp only [go_sem]) <;> rfl) (by (simp only [go_sem]) <;> rfl) (by (simp only [go_sem]) <;> rfl) (by (simp only [go_sem]) <;> rfl) (by (simp only [go_sem]) <;> rfl) (kn_check2)
        apply Tr.done
        · (simp only [go_sem]) <;> rfl
        · simp
      refine EvC.cond_false (by (simp only [go_sem]) <;> rfl) ?_
      refine EvC.skip ?_
      refine EvC.rg (by (simp only [go_sem, n2]) <;> rfl) (by exact inI64_of (by omega) (by omega)) ?_
      exact ⟨[], 3, rfl, (by (simp only [go_sem, Int.reduceAdd]) <;> rfl), by omega, by omega⟩
    · apply EvC.seq
      apply EvC.drd mixed
      · (simp only [go_sem, n3, m3]) <;> rfl
      · simp
      · kernel_rfl
      apply EvC.seq
      apply EvC.tr
      · apply Tr.run
        · (simp only [go_sem]) <;> rfl
        · simp
        apply Tr.cons
        · exact .call rfl rfl (by (simp only [go_sem]) <;> rfl) (by (simp only [go_sem]) <;> rfl) (by (simp only [go_sem]) <;> rfl) (by (simp only [go_sem]) <;> rfl) (by (simp only [go_sem]) <;> rfl) (kn_check3)
        apply Tr.done
        · (simp only [go_sem]) <;> rfl
        · simp
      refine EvC.cond_false (by (simp only [go_sem]) <;> rfl) ?_
      refine EvC.skip ?_
      refine EvC.rg (by (simp only [go_sem, n3]) <;> rfl) (by exact inI64_of (by omega) (by omega)) ?_
      exact ⟨[], 4, rfl, (by (simp only [go_sem, Int.reduceAdd]) <;> rfl), by omega, by omega⟩
  have hil : i < 256 := by have : (i : Int) < 256 := (by simpa using hc); omega
  clear hc
  have hks : knL (i + 1) = knL i ++ [knI i] := by simp [knL, List.range_succ]
  have hkl := knL_len i
  have hsn : (knL i).map itemU ++ [[.sc (.int .i64 1000000), .sl false [[.sc (.int .i64 (255 - (i : Int)))]] .full]] = (knL (i + 1)).map itemU := by rw [hks, List.map_append]; rfl
  have hsl : (knL i).length + 1 = (knL (i + 1)).length := by rw [hks]; simp
  have hse : (knL (i + 1)).isEmpty = false := by rw [hks]; simp
  have hr2 : room ((knL i).length + 1) 32 = true := by simp only [room_eq, decide_eq_true_eq]; omega
  rw [hsl] at hr2
  have hnT := norefs_itemU (knL (i + 1))
  generalize hT' : knL (i + 1) = T' at hsn hsl hse hr2 hnT
  generalize knL i = T at hsn hsl hkl
  refine EvC.skip ?_
  refine EvC.seq ?_
  refine EvC.block ?_  -- 1
  refine EvC.rg (by (simp only [go_sem, hsn, hsl, List.length_map]) <;> rfl) (by simp [hr2]; exact inI64_of (by omega) (by omega)) ?_
  refine EvC.rg (by (simp only [go_sem]) <;> rfl) (by exact inI64_of (by omega) (by omega)) ?_
  exact ⟨[(0, 0)], i + 1, rfl, (by rw [hT']; (simp only [go_sem, hse, hnT, Int.natCast_add, Int.natCast_one]) <;> rfl), hil, by omega⟩
end Go.Avl
namespace Go.Proofs.YthdaggogdocmfaaDoor
open Go Go.Avl Go.Proofs Go.ChangeShapes Go.RowKit

set_option maxRecDepth 100000 in
theorem plansKnown_lifted (os : Os) (started : os.Started) (H : Type) (enc : TypeId × Value → H) :
    ReturnsInHanded {} Tryd.checked os 11 .any (fun w args => (Rows.plansKnownSpec.pre enc Tryd.prog Tryd.f11 Rows.plansKnownRow.domain false w args ∧ laidMetH Tryd.prog laidT w) ∧ sizedMet enc Tryd.prog Tryd.f11 (OpenSpec.ofChange Rows.plansKnownSpec) false w args)
      (Rows.plansKnownSpec.post enc Tryd.prog Tryd.f11 false true false false) := by
  refine returnsInHanded_of_change_and (C := Tryd.checked) (X := fun w _ => laidMetH Tryd.prog laidT w) (fun _ _ _ hh h => h.of_heap hh) Tryd.own started (by kernel_rfl) Tryd.func11
    (ChangeSpec.witness_shaped (enc := enc) (C := Tryd.checked) (os := os) (X := fun w _ => laidMetH Tryd.prog laidT w) false (World.doorLaid Tryd.prog 400 os) #[] 8 rfl (World.shaped_of_RefB (by kernel_rfl) (by kernel_rfl)) (by kernel_rfl) (by kernel_rfl) (by kernel_rfl) (door_met os _)) ?_
  intro W base args ds gs before hval hW _ hz hL _
  have hgl := globs_of hL
  have hW' := hW
  obtain ⟨p, q, hA, hV, rfl, _, _⟩ := hW'
  obtain ⟨rfl, rfl⟩ := trodVars_none hV
  have hA' : DataW.TrodAll enc Tryd.prog W 0 (fun _ => true) true [] args.toList ds p := by rw [← show Tryd.f11.params.toList = [] from rfl]; exact hA
  obtain ⟨rfl, rfl, rfl⟩ := trodAll_none hA'
  have hz' : (DataW.weightsEach Tryd.prog [] []).all (· ≤ reachBytes) = true := hz
  have hf := fits_each (P := Tryd.prog) (ts := []) (l := []) fun n hn => by simpa using List.all_eq_true.1 hz' n hn
  exact law_calls Tryd.laidOut (by kernel_rfl) rfl (by kernel_rfl) rfl rfl plansKnown_is ⟨rfl, fun _ h => absurd h (Nat.not_lt_zero _)⟩ hW hgl

theorem plansKnown_said : Rows.PlansKnownSaid :=
  OpenClaim.holds_of_wide 11 Tryd.f11 rfl rfl rfl rfl rfl rfl rfl ⟨rfl, rfl, rfl, rfl, rfl⟩ rfl rfl rfl rfl rfl (by kernel_rfl) Tryd.func11 (by kernel_rfl)
    (of_decide_eq_true (by kernel_rfl)) (by unfold Func.isWrapper; first | (rw [if_pos (by decide +kernel)]; kernel_rfl) | (rw [if_neg (by decide +kernel)]; exact ⟨rfl, rfl⟩))
    (fun os started H enc _ => plansKnown_lifted os started H enc)

theorem plansKnown_holds : Rows.PlansKnownCardSaid :=
  Claim7.holds_tied_plain_at .later [] [.widerDeep] true (true, "6d3ff7fe0d9779fedb791cf0751605ad5cd5bfdc42f52104730e367675225e7a") false
    plansKnown_said (fun _ h => by cases h) (by kernel_rfl) (fun _ h => by cases h) plansKnown_row_tie rfl ⟨rfl, rfl⟩ (by kernel_rfl) rfl
    (fun f fn hf hfn => by
      obtain rfl : f = 11 := (Option.some.inj ((show Tryd.prog.funcNamed "gauntlet/gauntletlaw43.PlansKnown" = some 11 by kernel_rfl).symm.trans hf)).symm
      obtain rfl : fn = Tryd.f11 := (Option.some.inj (Tryd.func11.symm.trans hfn)).symm
      refine ⟨by kernel_rfl, fun j t ht => ?_⟩
      have key : (Tryd.f11.params.toList.all fun t => Tryd.prog.wantsStandIn t == false) = true := by kernel_rfl
      have hm : t ∈ Tryd.f11.params.toList := by
        rw [← Array.getElem?_toList] at ht
        exact List.mem_of_getElem? ht
      exact eq_of_beq (List.all_eq_true.1 key t hm))
    (by kernel_rfl)
#print axioms plansKnown_holds
end Go.Proofs.YthdaggogdocmfaaDoor
