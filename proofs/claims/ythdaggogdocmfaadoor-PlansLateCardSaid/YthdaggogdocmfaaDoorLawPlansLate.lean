/-
  Lemmas.
  Lemmas.
  Lemmas.
  Lemmas.
  Lemmas.
  Lemmas.
  PlansLate returns true at every input, and each argument reads behind the call as it read before; the table of the kinds of faults is tied to the program's text.
  Conditions: those of the given row and card alone (no others).
-/
import Derived.Test.YthdaggogdocmfaaDoorPart9
set_option linter.unusedSimpArgs false
set_option linter.unusedVariables false
set_option linter.unnecessarySimpa false
set_option linter.deprecated false
namespace Go.Avl
open Go Go.Proofs.Tryd
set_option maxRecDepth 10000
set_option linter.unusedSimpArgs false

/-! ### Lists of items by bits are valid -/
theorem killBad_of : ∀ {ks : List Int} {p : Option Int}, (∀ n ∈ ks, 0 ≤ n ∧ n < 256) → ks.Pairwise (· < ·) → (∀ q, p = some q → ∀ n ∈ ks, q < n) → killBad p ks = false
  | [], _, _, _, _ => rfl
  | n :: r, p, hb, hs, hp => by
    have hn := hb n List.mem_cons_self
    have hs := List.pairwise_cons.1 hs
    have ih : killBad (some n) r = false := killBad_of (fun m hm => hb m (List.mem_cons_of_mem _ hm)) hs.2 (fun q hq m hm => by cases hq; exact hs.1 m hm)
    have e1 : decide (n < 0) = false := decide_eq_false (by omega)
    have e2 : decide (256 ≤ n) = false := decide_eq_false (by omega)
    cases p with
    | none => simp only [killBad, ih, e1, e2, Bool.or_false]
    | some q =>
      have e3 : decide (n ≤ q) = false := decide_eq_false (by have := hp q rfl n List.mem_cons_self; omega)
      simp only [killBad, ih, e1, e2, e3, Bool.or_false]
theorem killsTo_bd (K : Int) : ∀ {k : Nat}, ∀ n ∈ killsTo K k, 0 ≤ n ∧ n < 10 * (k : Int)
  | 0, n, h => by cases h
  | k + 1, n, h => by
    rw [killsTo] at h
    split at h
    · rcases List.mem_append.1 h with h | h
      · have := killsTo_bd K n h; omega
      · rw [List.mem_singleton.1 h]; omega
    · have := killsTo_bd K n h; omega
theorem killsTo_inc (K : Int) : ∀ k, (killsTo K k).Pairwise (· < ·)
  | 0 => .nil
  | k + 1 => by
    rw [killsTo]
    split
    · refine List.pairwise_append.2 ⟨killsTo_inc K k, List.pairwise_singleton _ _, fun a ha b hb => ?_⟩
      have := killsTo_bd K a ha
      rw [List.mem_singleton.1 hb]; omega
    · exact killsTo_inc K k
theorem LI.good {x : LI} (h : x.Ok) : itemBad x.item = false := by
  obtain ⟨h1, h2⟩ := h
  have e1 : costBad x.item = false := by
    unfold costBad LI.item
    have a : decide (1 + x.cost < 1) = false := decide_eq_false (by omega)
    have b : decide (1000000 < 1 + x.cost) = false := decide_eq_false (by omega)
    simp [a, b]
  rw [itemBad, e1, Bool.false_or]
  exact killBad_of (fun n hn => by have := killsTo_bd x.kills (k := 24) n hn; omega) (killsTo_inc _ _) (fun q hq => by cases hq)
theorem listOf_len (xs : List LI) (most : Nat) : (listOf xs most).length ≤ most := by simp only [listOf, List.length_map, List.length_take]; omega
theorem listOf_check {xs : List LI} {most : Nat} (hx : ∀ x ∈ xs, x.Ok) (hm : most ≤ 256) : checkI (listOf xs most) = 0 := by
  have hl := listOf_len xs most
  refine checkI_ok (by omega) ?_
  rw [List.any_eq_false]
  intro y hy
  obtain ⟨x, hx', rfl⟩ := List.mem_map.1 hy
  rw [LI.good (hx x (List.mem_of_mem_take hx'))]; simp
theorem listOf_kills {xs : List LI} {most : Nat} : ∀ y ∈ listOf xs most, y.kills.length ≤ 24 := fun y hy => by
  obtain ⟨x, _, rfl⟩ := List.mem_map.1 hy
  exact killsTo_len _ _
theorem listOf_costs {xs : List LI} {most : Nat} (hx : ∀ x ∈ xs, x.Ok) : ∀ y ∈ listOf xs most, 1 ≤ y.cost ∧ y.cost ≤ 256 := fun y hy => by
  obtain ⟨x, hx', rfl⟩ := List.mem_map.1 hy
  have := (hx x (List.mem_of_mem_take hx')).1
  simp only [LI.item]; omega

end Go.Avl
namespace Go.Avl
open Go Go.Proofs.Tryd
set_option maxRecDepth 10000
set_option linter.unusedSimpArgs false

/-! ### No order has a lesser lateness, if no number is killed twice -/
def wI (x : Item) : Int := ((cnt (inL x.kills) 256 : Nat) : Int)
theorem wI_nn (x : Item) : 0 ≤ wI x := by unfold wI; omega
/-- No number is killed by two items. -/
def DisjI (l : List Item) : Prop := ∀ i j : Int, 0 ≤ i ∧ i < l.length → 0 ≤ j ∧ j < l.length → i ≠ j → ∀ n, inL (itemAt l i).kills n = true → inL (itemAt l j).kills n = true → False
theorem cnt_or {P Q : Nat → Bool} (h : ∀ n, P n = true → Q n = true → False) : ∀ k, cnt (fun n => P n || Q n) k = cnt P k + cnt Q k
  | 0 => rfl
  | k + 1 => by
    have ih := cnt_or h k
    have e : ∀ R : Nat → Bool, cnt R (k + 1) = cnt R k + (R k).toNat := fun _ => rfl
    rw [e, e, e, ih]
    have : (P k || Q k).toNat = (P k).toNat + (Q k).toNat := by
      cases hp : P k <;> cases hq : Q k
      · rfl
      · rfl
      · rfl
      · exact (h k hp hq).elim
    omega
theorem frA_disj {l : List Item} (hd : DisjI l) {os : List Int} (ho : InCh l os) {x : Int} (hx : 0 ≤ x ∧ x < l.length) (hn : x ∉ os) : frA l os x = wI (itemAt l x) := by
  unfold frA freshN wI
  rw [cnt_or (fun n h1 h2 => ?_)]
  · omega
  · obtain ⟨i, hi, hk⟩ := List.any_eq_true.1 h1
    exact hd i x (ho i hi) hx (fun e => hn (e ▸ hi)) n hk h2
/-- The lateness as a sum over what comes behind. -/
def wS (l : List Item) : List Int → Int
  | [] => 0
  | x :: r => wI (itemAt l x) + wS l r
def lS (l : List Item) : List Int → Int
  | [] => 0
  | x :: r => (itemAt l x).cost * (wI (itemAt l x) + wS l r) + lS l r
theorem wS_app (l : List Item) : ∀ a b : List Int, wS l (a ++ b) = wS l a + wS l b
  | [], b => by simp [wS]
  | x :: a, b => by simp only [List.cons_append, wS, wS_app l a b]; omega
theorem lS_snoc (l : List Item) : ∀ (a : List Int) (x : Int), lS l (a ++ [x]) = lS l a + (costN l a + (itemAt l x).cost) * wI (itemAt l x)
  | [], x => by simp [lS, wS, costN]
  | y :: a, x => by
    simp only [List.cons_append, lS, lS_snoc l a x, wS_app, wS, costN_one, Int.mul_add, Int.add_mul]
    omega
theorem lateTo_sum {l : List Item} (hd : DisjI l) {ch : List Int} (ho : OkA l ch) : ∀ {k : Nat}, k ≤ ch.length → lateTo l ch k = lS l (ch.take k)
  | 0, _ => rfl
  | k + 1, hk => by
    have hil : k < ch.length := hk
    have ih := lateTo_sum hd ho (k := k) (by omega)
    rw [lateTo, ih, List.take_succ_eq_append_getElem hil, lS_snoc, costN_app, costN_one]
    have h0 : costN l [] = 0 := rfl
    have hfr : frA l (ch.take k) ch[k] = wI (itemAt l ch[k]) := by
      refine frA_disj hd (fun i hi => ho.rng i (List.mem_of_mem_take hi)) (ho.rng _ (List.getElem_mem hil)) fun hm => ?_
      have hnd := ho.nd
      rw [← List.take_append_drop k ch, List.drop_eq_getElem_cons hil, List.nodup_append] at hnd
      exact hnd.2.2 _ hm _ List.mem_cons_self rfl
    have hkn : ((killedN l (ch.take k ++ [ch[k]]) : Nat) : Int) - ((killedN l (ch.take k) : Nat) : Int) = wI (itemAt l ch[k]) := by
      rw [← hfr]
      unfold frA freshN killedN
      rw [killedP_snoc]
    rw [hkn, h0, Int.add_zero]
theorem lateOf_sum {l : List Item} (hd : DisjI l) {ch : List Int} (ho : OkA l ch) : lateOf l ch = lS l ch := by
  rw [lateOf, lateTo_sum hd ho (Nat.le_refl _), List.take_length]

/-- Item a goes ahead of item b in the order. -/
def rA (l : List Item) (a b : Int) : Prop := wI (itemAt l b) * (itemAt l a).cost ≤ wI (itemAt l a) * (itemAt l b).cost
theorem lS_front {l : List Item} {a : Int} {q : List Int} : ∀ {p : List Int}, (∀ x ∈ p, rA l a x) → lS l (a :: (p ++ q)) ≤ lS l (p ++ a :: q)
  | [], _ => Int.le_refl _
  | x :: p, h => by
    have ih := lS_front (q := q) (p := p) fun y hy => h y (List.mem_cons_of_mem _ hy)
    have hx := h x List.mem_cons_self
    unfold rA at hx
    simp only [List.cons_append, lS, wS, wS_app, Int.mul_add] at ih ⊢
    rw [Int.mul_comm (wI (itemAt l x)), Int.mul_comm (wI (itemAt l a))] at hx
    omega
theorem wS_front {l : List Item} {a : Int} {q : List Int} (p : List Int) : wS l (p ++ a :: q) = wI (itemAt l a) + wS l (p ++ q) := by
  rw [wS_app, wS_app, wS]; omega
theorem lS_least {l : List Item} : ∀ {s t : List Int}, s.Pairwise (rA l) → s.Nodup → t.Nodup → (∀ x, x ∈ t ↔ x ∈ s) → lS l s ≤ lS l t ∧ wS l s = wS l t
  | [], t, _, _, _, hm => by
    have : t = [] := List.eq_nil_iff_forall_not_mem.2 fun x hx => by cases (hm x).1 hx
    subst this; exact ⟨Int.le_refl _, rfl⟩
  | a :: s, t, hp, hs, ht, hm => by
    obtain ⟨p, q, rfl⟩ := List.append_of_mem ((hm a).2 List.mem_cons_self)
    have hp := List.pairwise_cons.1 hp
    have hs := List.nodup_cons.1 hs
    have hnd : (a :: (p ++ q)).Nodup := (List.perm_middle).nodup_iff.1 ht
    have hnd := List.nodup_cons.1 hnd
    have hm' : ∀ x, x ∈ p ++ q ↔ x ∈ s := fun x => by
      constructor
      · intro hx
        have : x ∈ a :: s := (hm x).1 (by
          rcases List.mem_append.1 hx with h | h
          · exact List.mem_append_left _ h
          · exact List.mem_append_right _ (List.mem_cons_of_mem _ h))
        rcases List.mem_cons.1 this with rfl | h
        · exact absurd hx hnd.1
        · exact h
      · intro hx
        have := (hm x).2 (List.mem_cons_of_mem _ hx)
        rcases List.mem_append.1 this with h | h
        · exact List.mem_append_left _ h
        · rcases List.mem_cons.1 h with rfl | h
          · exact absurd hx hs.1
          · exact List.mem_append_right _ h
    obtain ⟨i1, i2⟩ := lS_least hp.2 hs.2 hnd.2 hm'
    have hf := lS_front (l := l) (a := a) (q := q) (p := p) fun x hx => hp.1 x ((hm' x).1 (List.mem_append_left _ hx))
    refine ⟨?_, by rw [wS_front, wS, i2]⟩
    simp only [lS] at hf ⊢
    rw [i2]
    omega

/-! The greedy order is such a one. -/
theorem pickK_best {l : List Item} (hc : ∀ x ∈ l, 1 ≤ x.cost) {os : List Int} : ∀ {k : Nat}, k ≤ l.length →
    match pickK l os k with
    | none => ∀ i : Nat, i < k → os.contains (i : Int) = false → frA l os i ≤ 0
    | some b => 0 < frA l os b ∧ ∀ i : Nat, i < k → os.contains (i : Int) = false → frA l os i * (itemAt l b).cost ≤ frA l os b * (itemAt l i).cost
  | 0, _ => fun i h => by omega
  | k + 1, hk => by
    have ih := pickK_best hc (os := os) (k := k) (by omega)
    have hpos : ∀ j : Nat, j < l.length → 1 ≤ (itemAt l j).cost := fun j hj => hc _ (List.mem_of_getElem? (itemAt_get (l := l) (i := (j : Int)) ⟨by omega, by omega⟩))
    have hck := hpos k (by omega)
    rw [pickK]
    by_cases ht : takes l os (pickK l os k) k = true
    · rw [if_pos ht]
      obtain ⟨t1, t2⟩ := Bool.and_eq_true_iff.1 ht
      obtain ⟨t2, t3⟩ := Bool.and_eq_true_iff.1 t2
      have t2 : 0 < frA l os k := by simpa using t2
      refine ⟨t2, fun i hi hin => ?_⟩
      by_cases hik : i = k
      · subst hik; exact Int.le_refl _
      have hci := hpos i (by omega)
      cases hp : pickK l os k with
      | none =>
        rw [hp] at ih
        have h1 := ih i (by omega) hin
        have h2 : frA l os i * (itemAt l k).cost ≤ 0 := Int.mul_nonpos_of_nonpos_of_nonneg h1 (by omega)
        have h3 : 0 ≤ frA l os k * (itemAt l i).cost := Int.mul_nonneg (by omega) (by omega)
        omega
      | some b =>
        rw [hp] at ih t3
        obtain ⟨ih0, ih⟩ := ih
        have h1 := ih i (by omega) hin
        have h3 : frA l os b * (itemAt l k).cost < frA l os k * (itemAt l b).cost := by simpa [ahead] using t3
        have hb := hpos b (by have := pickK_lt hp; omega)
        refine Int.le_of_mul_le_mul_left (a := (itemAt l b).cost) ?_ (by omega)
        have a1 := Int.mul_le_mul_of_nonneg_right h1 (show 0 ≤ (itemAt l k).cost by omega)
        have a2 := Int.mul_le_mul_of_nonneg_right (Int.le_of_lt h3) (show 0 ≤ (itemAt l i).cost by omega)
        calc (itemAt l b).cost * (frA l os i * (itemAt l k).cost) = frA l os i * (itemAt l b).cost * (itemAt l k).cost := by rw [Int.mul_comm, Int.mul_assoc, Int.mul_assoc, Int.mul_comm (itemAt l b).cost]
          _ ≤ frA l os b * (itemAt l i).cost * (itemAt l k).cost := a1
          _ = frA l os b * (itemAt l k).cost * (itemAt l i).cost := by rw [Int.mul_assoc, Int.mul_assoc, Int.mul_comm (itemAt l i).cost]
          _ ≤ frA l os k * (itemAt l b).cost * (itemAt l i).cost := a2
          _ = (itemAt l b).cost * (frA l os k * (itemAt l i).cost) := by rw [Int.mul_comm (frA l os k), Int.mul_assoc]
    · rw [if_neg ht]
      have hlast : os.contains (k : Int) = false → match pickK l os k with | none => frA l os k ≤ 0 | some b => 0 < frA l os b → frA l os k * (itemAt l b).cost ≤ frA l os b * (itemAt l k).cost := fun hin => by
        have h : ¬ (0 < frA l os k ∧ ahead l os (pickK l os k) k = true) := fun h => ht (by
          unfold takes; rw [hin, decide_eq_true h.1, h.2]; rfl)
        cases hp : pickK l os k with
        | none =>
          rw [hp] at h
          by_cases h0 : 0 < frA l os k
          · exact absurd ⟨h0, rfl⟩ h
          · simp only; omega
        | some b =>
          rw [hp] at h
          intro hb0
          have hb := hpos b (by have := pickK_lt hp; omega)
          by_cases h0 : 0 < frA l os k
          · have : ¬ frA l os b * (itemAt l k).cost < frA l os k * (itemAt l b).cost := fun h' => h ⟨h0, decide_eq_true h'⟩
            omega
          · have h2 : frA l os k * (itemAt l b).cost ≤ 0 := Int.mul_nonpos_of_nonpos_of_nonneg (by omega) (by omega)
            have h3 : 0 ≤ frA l os b * (itemAt l k).cost := Int.mul_nonneg (by omega) (by omega)
            omega
      cases hp : pickK l os k with
      | none =>
        rw [hp] at ih hlast
        intro i hi hin
        by_cases hik : i = k
        · subst hik; exact hlast hin
        · exact ih i (by omega) hin
      | some b =>
        rw [hp] at ih hlast
        refine ⟨ih.1, fun i hi hin => ?_⟩
        by_cases hik : i = k
        · subst hik; exact hlast hin ih.1
        · exact ih.2 i (by omega) hin
/-- What the first part of the order keeps: it is in order, and what is left may stand behind it. -/
structure SrtA (l : List Item) (os : List Int) : Prop where
  ok : OkA l os
  pw : os.Pairwise (rA l)
  rest : ∀ a ∈ os, ∀ i : Int, 0 ≤ i ∧ i < l.length → i ∉ os → rA l a i
theorem SrtA.pick {l : List Item} (hc : ∀ x ∈ l, 1 ≤ x.cost) (hd : DisjI l) {os : List Int} (h : SrtA l os) {b : Nat} (hb : pickA l os = some b) : SrtA l (os ++ [(b : Int)]) := by
  have hbl := pickA_lt hb
  have hbn := pickA_new hb
  have hbest := pickK_best hc (os := os) (k := l.length) (Nat.le_refl _)
  have hb' : pickK l os l.length = some b := hb
  rw [hb'] at hbest
  refine ⟨h.ok.pick hb, List.pairwise_append.2 ⟨h.pw, List.pairwise_singleton _ _, fun a ha c hcm => ?_⟩, fun a ha i hi hin => ?_⟩
  · rw [List.mem_singleton.1 hcm]
    exact h.rest a ha b ⟨by omega, by omega⟩ hbn
  · have hio : i ∉ os := fun h' => hin (List.mem_append_left _ h')
    rcases List.mem_append.1 ha with ha | ha
    · exact h.rest a ha i hi hio
    · rw [List.mem_singleton.1 ha]
      obtain ⟨j, rfl⟩ : ∃ j : Nat, i = j := ⟨i.toNat, by omega⟩
      have := hbest.2 j (by omega) (by simpa using hio)
      rw [frA_disj hd h.ok.rng hi hio, frA_disj hd h.ok.rng ⟨by omega, by omega⟩ hbn] at this
      exact this
theorem OkA.full {l : List Item} {os : List Int} (h : OkA l os) (hl : l.length ≤ os.length) {i : Nat} (hi : i < l.length) : (i : Int) ∈ os := by
  by_cases hn : (i : Int) ∈ os
  · exact hn
  · have := (h.snoc hi hn).len
    simp only [List.length_append, List.length_singleton] at this
    omega
theorem chainA_srt {l : List Item} (hc : ∀ x ∈ l, 1 ≤ x.cost) (hd : DisjI l) : ∀ (f : Nat) {os : List Int}, SrtA l os → l.length ≤ f + os.length →
    SrtA l (chainA l f os) ∧ ∀ i : Nat, i < l.length → (i : Int) ∉ chainA l f os → wI (itemAt l i) = 0
  | 0, os, h, hf => ⟨h, fun i hi hn => absurd (h.ok.full (by omega) hi) hn⟩
  | f + 1, os, h, hf => by
    rw [chainA]
    cases hp : pickA l os with
    | none =>
      refine ⟨h, fun i hi hn => ?_⟩
      have hb := pickK_best hc (os := os) (k := l.length) (Nat.le_refl _)
      have hp' : pickK l os l.length = none := hp
      rw [hp'] at hb
      have := hb i hi (by simpa using hn)
      rw [frA_disj hd h.ok.rng ⟨by omega, by omega⟩ hn] at this
      have := wI_nn (itemAt l i)
      omega
    | some b => exact chainA_srt hc hd f (h.pick hc hd hp) (by simp only [List.length_append, List.length_singleton]; omega)
theorem restA_sub {os : List Int} : ∀ k, ∀ x ∈ os, x ∈ restA os k
  | 0, _, h => h
  | k + 1, x, h => by
    have := restA_sub k x h
    rw [restA]; split
    · exact this
    · exact List.mem_append_left _ this
theorem restA_has {os : List Int} : ∀ {k i : Nat}, i < k → (i : Int) ∈ restA os k
  | k + 1, i, h => by
    rw [restA]
    by_cases hik : i = k
    · subst hik
      split
      · rename_i hc; simpa using hc
      · exact List.mem_append_right _ (by simp)
    · have := restA_has (os := os) (k := k) (i := i) (by omega)
      split
      · exact this
      · exact List.mem_append_left _ this
theorem restA_srt {l : List Item} {os : List Int} (hc : ∀ x ∈ l, 1 ≤ x.cost) (h : SrtA l os) (hz : ∀ i : Nat, i < l.length → (i : Int) ∉ os → wI (itemAt l i) = 0) : ∀ {k : Nat}, k ≤ l.length → (restA os k).Pairwise (rA l)
  | 0, _ => h.pw
  | k + 1, hk => by
    have ih := restA_srt hc h hz (k := k) (by omega)
    rw [restA]
    split
    · exact ih
    · rename_i hn
      refine List.pairwise_append.2 ⟨ih, List.pairwise_singleton _ _, fun a ha c hcm => ?_⟩
      rw [List.mem_singleton.1 hcm]
      have hno : (k : Int) ∉ os := fun h' => hn (by simpa using restA_sub k _ h')
      unfold rA
      rw [hz k (by omega) hno, Int.zero_mul]
      have := hc _ (List.mem_of_getElem? (itemAt_get (l := l) (i := (k : Int)) ⟨by omega, by omega⟩))
      exact Int.mul_nonneg (wI_nn _) (by omega)
theorem orderA_srt {l : List Item} (hc : ∀ x ∈ l, 1 ≤ x.cost) (hd : DisjI l) : (orderA l).Pairwise (rA l) := by
  obtain ⟨h1, h2⟩ := chainA_srt hc hd l.length (os := []) ⟨OkA.nil l, .nil, fun a ha => by cases ha⟩ (by simp)
  exact restA_srt hc h1 h2 (Nat.le_refl _)
/-- THE THEOREM: of all orders of all items, that one is the least late. -/
theorem late_least {l : List Item} (hc : ∀ x ∈ l, 1 ≤ x.cost) (hd : DisjI l) (ch : List Int) (ho : OkA l ch) : lateOf l (orderA l) ≤ lateOf l (restA ch l.length) := by
  have ho1 := orderA_ok l
  have ho2 := restA_ok ho (Nat.le_refl l.length)
  rw [lateOf_sum hd ho1, lateOf_sum hd ho2]
  refine (lS_least (orderA_srt hc hd) ho1.nd ho2.nd fun x => ⟨fun hx => ?_, fun hx => ?_⟩).1
  · have := ho2.rng x hx
    obtain ⟨j, rfl⟩ : ∃ j : Nat, x = j := ⟨x.toNat, by omega⟩
    exact restA_has (by omega)
  · have := ho1.rng x hx
    obtain ⟨j, rfl⟩ : ∃ j : Nat, x = j := ⟨x.toNat, by omega⟩
    exact restA_has (by omega)
theorem restA_len {l : List Item} {ch : List Int} (ho : OkA l ch) : (restA ch l.length).length = l.length := by
  have h1 := (restA_ok ho (Nat.le_refl l.length)).len
  have h2 : (List.range l.length).length ≤ ((restA ch l.length).map Int.toNat).length := sub_len _ _ List.nodup_range fun i hi => by
    rw [List.mem_range] at hi
    exact List.mem_map.2 ⟨i, restA_has hi, by omega⟩
  simp only [List.length_range, List.length_map] at h2
  omega
end Go.Avl
namespace Go.Avl
open Go Go.Proofs.Tryd
set_option maxRecDepth 10000
set_option linter.unusedSimpArgs false

set_option maxHeartbeats 1000000 in
theorem list24_new (nl : Bool) (xs : List LI) (c : Cp) (most : Nat) (hx : ∀ x ∈ xs, x.Ok) (hm : most < 100) (h0 : (listOf xs most).length ≠ 0) :
    PureNew prog 24 [.sl nl (xs.map liC) c, .sc (.int .i64 most)] 2 ((listOf xs most).map itemC) := by
  refine PureNew.of (nv := 2) (hid := [4, 5, 6, 7, 8, 17, 29, 40]) func24 rfl (by kernel_rfl) (by simp [ntmps24]) fun _ => ?_
  rw [ntmps24, results24]
  refine EvC.seq (EvC.rg (by (simp only [go_sem]) <;> rfl) (by simp) ?_)
  refine EvC.seq (EvC.rg (by (simp only [go_sem]) <;> rfl) (by simp) ?_)
  refine EvC.seq ?_
  refine EvC.seq (EvC.rg (by (simp only [go_sem]) <;> rfl) (by simp) ?_)
  refine EvC.thaw 1 (by (simp only [go_sem]) <;> rfl) ?_
  refine EvC.block ?_  -- 0
  refine EvC.loopS (σ := Nat) (fun i => ⟨[(0, .sl nl (xs.map liC) c), (1, .sc (.int .i64 most)), (5, .tl 0 (listOf xs i).length (listOf xs i).isEmpty), (6, .sc (.int .i64 i))], [], [(0, .arr 2 ((listOf xs i).map itemC) false)], 1⟩) (fun i => most - i) (fun i => i ≤ most ∧ i ≤ xs.length) [0, 1, 5, 6] 1 ?_ ?_
  · exact ⟨[(1, 0)], 0, rfl, (by (simp only [go_sem, Int.natCast_zero, listOf, List.take_zero, List.map_nil, List.length_nil, List.isEmpty_nil]) <;> rfl), Nat.zero_le _, Nat.zero_le _⟩
  rintro i ⟨hi, hi2⟩
  refine EvC.seq ?_
  by_cases hend : i < xs.length ∧ i < most
  rotate_left
  · -- else
    have hcond : decide ((i : Int) < xs.length) = false ∨ (decide ((i : Int) < xs.length) = true ∧ decide ((i : Int) < most) = false) := by
      by_cases h : i < xs.length
      · exact .inr ⟨decide_eq_true (by omega), decide_eq_false (by omega)⟩
      · exact .inl (decide_eq_false (by omega))
    have htk : listOf xs most = listOf xs i := by
      unfold listOf
      congr 1
      rcases Nat.lt_or_ge i xs.length with h | h
      · rw [show most = i by omega]
      · rw [List.take_of_length_le (by omega), List.take_of_length_le (by omega)]
    rw [htk] at h0 ⊢
    generalize listOf xs i = L at h0 ⊢
    have hLe : L.isEmpty = false := by cases L with
      | nil => exact absurd rfl h0
      | cons a l => rfl
    rcases hcond with h | ⟨h, h'⟩
    · apply EvC.seq
      apply EvC.trd
      · (simp only [go_sem, List.length_map, h]) <;> rfl
      · simp
      refine EvC.cond_false (by (simp only [go_sem]) <;> rfl) ?_
      refine EvC.exit ?_  -- 0
      refine EvC.seq (EvC.rg (by (simp only [go_sem, List.length_map]) <;> rfl) (by simp) ?_)
      refine EvC.ret ⟨.inl rfl, _, 0, (by (simp only [go_sem, List.length_map]) <;> rfl), .inl ?_, ?_, by simpa using h0, norefs_items L⟩
      · simp only [List.length_map, hLe]
      · rfl
    · apply EvC.seq
      apply EvC.trd
      · (simp only [go_sem, List.length_map, h, h']) <;> rfl
      · simp
      refine EvC.cond_false (by (simp only [go_sem]) <;> rfl) ?_
      refine EvC.exit ?_  -- 0
      refine EvC.seq (EvC.rg (by (simp only [go_sem, List.length_map]) <;> rfl) (by simp) ?_)
      refine EvC.ret ⟨.inl rfl, _, 0, (by (simp only [go_sem, List.length_map]) <;> rfl), .inl ?_, ?_, by simpa using h0, norefs_items L⟩
      · simp only [List.length_map, hLe]
      · rfl
  obtain ⟨h1, h2⟩ := hend
  have d1 : decide ((i : Int) < xs.length) = true := decide_eq_true (by omega)
  have d2 : decide ((i : Int) < most) = true := decide_eq_true (by omega)
  apply EvC.seq
  apply EvC.trd
  · (simp only [go_sem, List.length_map, d1, d2]) <;> rfl
  · simp
  refine EvC.cond_true (by (simp only [go_sem]) <;> rfl) ?_
  refine EvC.skip ?_
  refine EvC.seq ?_
  refine EvC.block ?_  -- 1
  have he : xs[i]? = some (xs[i]'h1) := List.getElem?_eq_getElem h1
  have hok := hx _ (List.getElem_mem h1)
  have hnext : listOf xs (i + 1) = listOf xs i ++ [(xs[i]'h1).item] := by
    unfold listOf
    rw [List.take_succ_eq_append_getElem h1, List.map_append]; rfl
  have hli : (listOf xs i).length ≤ i := by unfold listOf; simp; omega
  generalize xs[i]'h1 = x at he hok hnext
  generalize listOf xs i = L at hnext hli
  obtain ⟨⟨k1, k2⟩, k3⟩ := hok
  have hin : (i : Int).toNat = i := Int.toNat_natCast i
  refine EvC.seq (EvC.rg (by (simp only [go_sem, he, liC, hin, List.length_map]) <;> rfl) (by simp [inI64_of (x := x.cost) (by omega) (by omega), inI64_of (x := 1 + x.cost) (by omega) (by omega)]) ?_)
  refine EvC.ownC 18 1 1 (by (simp only [go_sem]) <;> rfl) ?_
  refine EvC.seq ?_
  refine EvC.seq (EvC.rg (by (simp only [go_sem]) <;> rfl) (by simp) ?_)
  refine EvC.block ?_  -- 2
  refine EvC.loopS (σ := Nat) (fun k => ⟨[(0, .sl nl (xs.map liC) c), (1, .sc (.int .i64 most)), (5, .tl 0 L.length L.isEmpty), (6, .sc (.int .i64 i)), (7, .rf 1 0), (8, .sc (.int .i64 k))], [], [(0, .arr 2 (L.map itemC) false), (1, .cells [.sc (.int .i64 (1 + x.cost)), .tl 2 (killsTo x.kills k).length (killsTo x.kills k).isEmpty]), (2, .arr 1 ((killsTo x.kills k).map intC) true)], 3⟩) (fun k => 24 - k) (fun k => k ≤ 24) [0, 1, 5, 6, 7, 8] 3 ?_ ?_
  · exact ⟨[(0, 0), (18, 1), (20, 2)], 0, rfl, (by (simp only [go_sem, Int.natCast_zero, killsTo, List.map_nil, List.length_nil, List.isEmpty_nil]) <;> rfl), Nat.zero_le _⟩
  intro k hk
  refine EvC.seq ?_
  refine EvC.seq (EvC.rg (by (simp only [go_sem]) <;> rfl) (by simp) ?_)
  refine EvC.cond (by (simp only [go_sem]) <;> rfl) (fun hc => ?_) (fun hc => ?_)
  rotate_left
  · -- else
    refine EvC.exit ?_  -- 2
    obtain rfl : k = 24 := by have : ¬ (k : Int) < 24 := by simpa using hc
                              omega
    clear hc
    refine EvC.frzD 2 (by (simp only [go_sem, List.length_map]) <;> rfl) ?_
    have hkl := killsTo_len x.kills 24
    have hsn : L.map itemC ++ [[.sc (.int .i64 (1 + x.cost)), .sl (killsTo x.kills 24).isEmpty ((killsTo x.kills 24).map intC) .unk]] = (listOf xs (i + 1)).map itemC := by rw [hnext]; simp [itemC, LI.item]
    have hsl : L.length + 1 = (listOf xs (i + 1)).length := by rw [hnext]; simp
    have hse : (listOf xs (i + 1)).isEmpty = false := by rw [hnext]; simp
    have hr2 : room (L.length + 1) 32 = true := by simp only [room_eq, decide_eq_true_eq]; omega
    rw [hsl] at hr2
    generalize hL' : listOf xs (i + 1) = L' at hsn hsl hse hr2
    refine EvC.rg (by (simp only [go_sem, hsn, hsl, List.length_map]) <;> rfl) (by simp [hr2]) ?_
    refine EvC.rg (by (simp only [go_sem]) <;> rfl) (by exact inI64_of (by omega) (by omega)) ?_
    exact ⟨[(0, 0)], i + 1, rfl, (by rw [hL']; (simp only [go_sem, hse, Int.natCast_add, Int.natCast_one]) <;> rfl), ⟨by omega, by omega⟩, by omega⟩
  have hk2 : k < 24 := by have : (k : Int) < 24 := by simpa using hc
                          omega
  clear hc
  have hst : killsTo x.kills (k + 1) = if bitK x.kills k = true then killsTo x.kills k ++ [10 * (k : Int)] else killsTo x.kills k := rfl
  have hkl := killsTo_len x.kills k
  have hkn : (k : Int).toNat = k := Int.toNat_natCast k
  have hnn := shr32_nn k3 k
  unfold bitK at hst
  have hT : ∀ T : List Int, T ++ [10 * (k : Int)] = T ++ [10 * (k : Int)] := fun _ => rfl
  generalize killsTo x.kills k = T at hst hkl
  refine EvC.skip ?_
  refine EvC.seq ?_
  refine EvC.block ?_  -- 3
  refine EvC.seq (EvC.rg (by (simp only [go_sem, he, liC, hin, hkn, List.length_map]) <;> rfl) (by simp [hnn]; try omega) ?_)
  refine EvC.cond (by (simp only [go_sem]) <;> rfl) (fun hc => ?_) (fun hc => ?_)
  · -- then
    have hc' : decide (shiftOf .shr .u32 x.kills k % 2 = 1) = true := by simpa using hc
    rw [if_pos hc'] at hst
    have hsn : T.map intC ++ [[.sc (.int .i64 (10 * (k : Int)))]] = (T ++ [10 * (k : Int)]).map intC := by simp [intC]
    have hsl : T.length + 1 = (T ++ [10 * (k : Int)]).length := by simp
    have hse : (T ++ [10 * (k : Int)]).isEmpty = false := by simp
    have hr2 : room (T.length + 1) 8 = true := by simp only [room_eq, decide_eq_true_eq]; omega
    rw [hsl] at hr2
    rw [← hst] at hsn hsl hse hr2
    generalize hT' : killsTo x.kills (k + 1) = T' at hsn hsl hse hr2
    refine EvC.rg (by (simp only [go_sem, hsn, hsl, List.length_map]) <;> rfl) (by simp [hr2, inI64_of (x := 10 * (k : Int)) (by omega) (by omega)]) ?_
    refine EvC.rg (by (simp only [go_sem]) <;> rfl) (by exact inI64_of (by omega) (by omega)) ?_
    exact ⟨[(0, 0), (1, 1), (2, 2)], k + 1, rfl, (by rw [hT']; (simp only [go_sem, hse, Int.natCast_add, Int.natCast_one]) <;> rfl), hk2, by omega⟩
  have hc' : ¬ decide (shiftOf .shr .u32 x.kills k % 2 = 1) = true := by simpa using hc
  rw [if_neg hc'] at hst
  refine EvC.skip ?_
  refine EvC.rg (by (simp only [go_sem]) <;> rfl) (by exact inI64_of (by omega) (by omega)) ?_
  exact ⟨[(0, 0), (1, 1), (2, 2)], k + 1, rfl, (by rw [hst]; (simp only [go_sem, Int.natCast_add, Int.natCast_one]) <;> rfl), hk2, by omega⟩
end Go.Avl
namespace Go.Avl
open Go Go.Proofs.Tryd
set_option maxRecDepth 10000
set_option linter.unusedSimpArgs false

/-! ### Each number counts for the first item that kills it -/
def fltK (gone ks : List Int) : List Int := ks.filter fun n => !gone.contains n
def goneTo (l : List Item) : Nat → List Int
  | 0 => []
  | i + 1 => goneTo l i ++ fltK (goneTo l i) (itemAt l (i : Int)).kills
def newI (l : List Item) (i : Nat) : Item := ⟨(itemAt l (i : Int)).cost, (fltK (goneTo l i) (itemAt l (i : Int)).kills).isEmpty, fltK (goneTo l i) (itemAt l (i : Int)).kills⟩
def mixI (l : List Item) (i : Nat) : List Item := (List.range i).map (newI l) ++ l.drop i
def soloI (l : List Item) : List Item := (List.range l.length).map (newI l)
theorem mixI_end (l : List Item) : mixI l l.length = soloI l := by rw [mixI, List.drop_length, List.append_nil, soloI]
theorem mixI_len {l : List Item} {i : Nat} (h : i ≤ l.length) : (mixI l i).length = l.length := by simp [mixI]; omega
theorem mixI_get {l : List Item} {i : Nat} (h : i < l.length) : (mixI l i)[i]? = some (itemAt l (i : Int)) := by
  have he := itemAt_get (l := l) (i := (i : Int)) ⟨by omega, by omega⟩
  rw [Int.toNat_natCast] at he
  rw [mixI, List.getElem?_append_right (by simp), List.length_map, List.length_range, Nat.sub_self, List.getElem?_drop, Nat.add_zero, he]
theorem mixI_set {l : List Item} {i : Nat} (h : i < l.length) : (mixI l i).set i (newI l i) = mixI l (i + 1) := by
  rw [mixI, mixI, List.drop_eq_getElem_cons h, List.set_append_right _ _ (by simp), List.length_map, List.length_range, Nat.sub_self, List.set_cons_zero, List.range_succ, List.map_append, List.append_assoc]; rfl
theorem soloI_len (l : List Item) : (soloI l).length = l.length := by simp [soloI]
theorem soloI_at {l : List Item} {i : Int} (h : 0 ≤ i ∧ i < l.length) : itemAt (soloI l) i = newI l i.toNat := by
  have h1 := itemAt_get (l := soloI l) (i := i) (by rw [soloI_len]; exact h)
  have hr : (List.range l.length)[i.toNat]? = some i.toNat := by rw [List.getElem?_range (by omega)]
  rw [soloI, List.getElem?_map, hr] at h1
  exact (Option.some.inj h1).symm
theorem goneTo_has {l : List Item} {n : Int} : ∀ {i j : Nat}, j < i → n ∈ fltK (goneTo l j) (itemAt l (j : Int)).kills → n ∈ goneTo l i
  | i + 1, j, h, hn => by
    rw [goneTo]
    by_cases hj : j = i
    · subst hj; exact List.mem_append_right _ hn
    · exact List.mem_append_left _ (goneTo_has (by omega) hn)
theorem soloI_disj (l : List Item) : DisjI (soloI l) := by
  have key : ∀ i j : Nat, i < j → ∀ n : Nat, inL (newI l i).kills n = true → inL (newI l j).kills n = true → False := fun i j hij n h1 h2 => by
    unfold inL at h1 h2
    rw [List.contains_iff_mem] at h1 h2
    have h3 := goneTo_has hij h1
    have h4 := (List.mem_filter.1 h2).2
    rw [Bool.not_eq_true', ← Bool.not_eq_true, List.contains_iff_mem] at h4
    exact h4 h3
  intro i j hi hj hij n h1 h2
  rw [soloI_len] at hi hj
  rw [soloI_at hi] at h1
  rw [soloI_at hj] at h2
  rcases Nat.lt_or_gt_of_ne (show i.toNat ≠ j.toNat by omega) with h | h
  · exact key _ _ h n h1 h2
  · exact key _ _ h n h2 h1
theorem soloI_mem {l : List Item} {x : Item} (h : x ∈ soloI l) : ∃ y ∈ l, x.cost = y.cost ∧ x.kills.Sublist y.kills := by
  obtain ⟨i, hi, rfl⟩ := List.mem_map.1 h
  rw [List.mem_range] at hi
  exact ⟨itemAt l i, List.mem_of_getElem? (itemAt_get (l := l) (i := (i : Int)) ⟨by omega, by omega⟩), rfl, List.filter_sublist⟩
/-- Items whose numbers rise are as valid with fewer numbers. -/
structure GoodI (x : Item) : Prop where
  c : 1 ≤ x.cost ∧ x.cost ≤ 256
  k : ∀ n ∈ x.kills, 0 ≤ n ∧ n < 256
  s : x.kills.Pairwise (· < ·)
  l : x.kills.length ≤ 24
theorem soloI_good {l : List Item} (h : ∀ x ∈ l, GoodI x) : ∀ x ∈ soloI l, GoodI x := fun x hx => by
  obtain ⟨y, hy, hc, hs⟩ := soloI_mem hx
  have g := h y hy
  exact ⟨by rw [hc]; exact g.c, fun n hn => g.k n (hs.subset hn), g.s.sublist hs, Nat.le_trans hs.length_le g.l⟩
theorem goodI_check {l : List Item} (h : ∀ x ∈ l, GoodI x) (hl : l.length ≤ 256) : checkI l = 0 := by
  refine checkI_ok (by omega) ?_
  rw [List.any_eq_false]
  intro x hx
  have g := h x hx
  have hc := g.c
  have a : decide (x.cost < 1) = false := decide_eq_false (by omega)
  have b : decide (1000000 < x.cost) = false := decide_eq_false (by omega)
  have e : killBad none x.kills = false := killBad_of g.k g.s fun q hq => by cases hq
  simp [itemBad, costBad, a, b, e]
theorem listOf_good {xs : List LI} {most : Nat} (hx : ∀ x ∈ xs, x.Ok) : ∀ y ∈ listOf xs most, GoodI y := fun y hy => by
  obtain ⟨x, hx', rfl⟩ := List.mem_map.1 hy
  have h1 := (hx x (List.mem_of_mem_take hx')).1
  exact ⟨by simp only [LI.item]; omega, fun n hn => by have := killsTo_bd x.kills (k := 24) n hn; omega, killsTo_inc _ _, killsTo_len _ _⟩
theorem fltK_take {gone ks : List Int} {k : Nat} {n : Int} (h : ks[k]? = some n) : fltK gone (ks.take (k + 1)) = if gone.contains n = true then fltK gone (ks.take k) else fltK gone (ks.take k) ++ [n] := by
  obtain ⟨hi, he⟩ := List.getElem?_eq_some_iff.1 h
  rw [List.take_succ_eq_append_getElem hi, he, fltK, List.filter_append]
  by_cases hc : gone.contains n = true
  · rw [if_pos hc]
    have : [n].filter (fun m => !gone.contains m) = [] := by rw [List.filter_cons, hc]; rfl
    rw [this, List.append_nil]; rfl
  · rw [if_neg hc]
    have : [n].filter (fun m => !gone.contains m) = [n] := by rw [List.filter_cons, Bool.eq_false_iff.2 hc]; rfl
    rw [this]; rfl
theorem fltK_new {gone ks : List Int} {k : Nat} {n : Int} (h : ks[k]? = some n) (hs : ks.Pairwise (· < ·)) : (gone ++ fltK gone (ks.take k)).contains n = gone.contains n := by
  obtain ⟨hi, he⟩ := List.getElem?_eq_some_iff.1 h
  rw [Bool.eq_iff_iff, List.contains_iff_mem, List.contains_iff_mem, List.mem_append]
  refine ⟨fun h => h.elim id fun h => ?_, .inl⟩
  have hm := (List.mem_filter.1 h).1
  rw [← List.take_append_drop k ks, List.drop_eq_getElem_cons hi, he, List.pairwise_append] at hs
  have := hs.2.2 _ hm n List.mem_cons_self
  omega
theorem fltK_len (gone ks : List Int) : (fltK gone ks).length ≤ ks.length := List.length_filter_le _ _
theorem goneTo_len {l : List Item} (h : ∀ x ∈ l, GoodI x) : ∀ {i : Nat}, i ≤ l.length → (goneTo l i).length ≤ 24 * i
  | 0, _ => Nat.le_refl _
  | i + 1, hi => by
    have ih := goneTo_len h (i := i) (by omega)
    have h1 := fltK_len (goneTo l i) (itemAt l (i : Int)).kills
    have h2 := (h _ (List.mem_of_getElem? (itemAt_get (l := l) (i := (i : Int)) ⟨by omega, by omega⟩))).l
    rw [goneTo, List.length_append]; omega
theorem choice_snoc {l : List Item} {os : List Int} (h : OkA l os) {i : Nat} (hi : i < l.length) : choiceB l (os ++ [(i : Int)]) = !os.contains (i : Int) := by
  cases hc : os.contains (i : Int) with
  | false =>
    exact choiceB_ok.2 (h.snoc hi (by simpa using hc))
  | true =>
    refine Bool.eq_false_iff.2 fun h' => ?_
    have := (choiceB_ok.1 h').nd
    rw [List.nodup_append] at this
    exact this.2.2 _ (by simpa using hc) _ List.mem_cons_self rfl
end Go.Avl
namespace Go.Avl
open Go Go.Proofs.Tryd
set_option maxRecDepth 10000
set_option linter.unusedSimpArgs false

/-- The numbers that are gone after k of an item's numbers. -/
def gK (g ks : List Int) (k : Nat) : List Int := g ++ fltK g (ks.take k)
theorem gK_zero (g ks : List Int) : gK g ks 0 = g := by
  have e0 : fltK g (ks.take 0) = [] := rfl
  rw [gK, e0, List.append_nil]
set_option maxHeartbeats 8000000 in
theorem plansLate_is (nl : Bool) (xs : List LI) (c : Cp) (hx : ∀ x ∈ xs, x.Ok) (bn : Bool) (bs : List Int) (cb : Cp) (hb : ∀ b ∈ bs, 0 ≤ b ∧ b < 256) (hbl : (bs.length : Int) ≤ 140737488355328) (h0 : (listOf xs 12).length ≠ 0) :
    PureIs prog 7 [.sl nl (xs.map liC) c, .sl bn (bs.map u8C) cb] (.sc (.bool true)) := by
  have q1 := list24_new nl xs c 12 hx (by decide) h0
  have hl := listOf_len xs 12
  have hg := listOf_good (most := 12) hx
  generalize listOf xs 12 = l at q1 hl hg h0
  have h12 : (((12 : Nat)) : Int) = 12 := rfl
  refine PureIs.of (nv := 2) (hid := [4, 5, 6, 7, 8, 9, 10, 11, 12, 13, 14, 15, 16, 17, 18, 19, 20, 21, 27, 37, 51, 64, 95, 106]) func7 rfl (by kernel_rfl) (by simp [ntmps7]) fun _ => ?_
  rw [ntmps7, results7]
  refine EvC.seq (EvC.rg (by (simp only [go_sem]) <;> rfl) (by simp) ?_)
  apply EvC.seq  -- R1
  apply EvC.tr
  · apply Tr.run
    · (simp only [go_sem]) <;> rfl
    · simp
    apply Tr.cons
    · exact .callN rfl rfl (by (simp only [go_sem]) <;> rfl) (by (simp only [go_sem]) <;> rfl) (by (simp only [go_sem, h12]) <;> rfl) (by (simp only [go_sem]) <;> rfl) (by (simp only [go_sem]) <;> rfl) q1
    apply Tr.done
    · (simp only [go_sem]) <;> rfl
    · simp
  refine EvC.seq (EvC.rg (by (simp only [go_sem]) <;> rfl) (by simp) ?_)
  refine EvC.seq ?_
  refine EvC.seq (EvC.rg (by (simp only [go_sem]) <;> rfl) (by simp) ?_)
  refine EvC.thaw 4 (by (simp only [go_sem]) <;> rfl) ?_
  refine EvC.block ?_  -- 0
  refine EvC.loopS (σ := Nat) (fun i => ⟨[(1, .sl bn (bs.map u8C) cb), (5, .tl 0 l.length false), (6, .tl 1 (goneTo l i).length (goneTo l i).isEmpty), (7, .sc (.int .i64 i))], [], [(0, .arr 2 ((mixI l i).map itemC) false), (1, .arr 1 ((goneTo l i).map intC) false)], 2⟩) (fun i => l.length - i) (fun i => i ≤ l.length) [1, 5, 6, 7] 2 ?_ ?_
  · exact ⟨[(2, 0), (4, 1)], 0, rfl, (by (simp only [go_sem, Int.natCast_zero, goneTo, List.map_nil, List.length_nil, List.isEmpty_nil, mixI, List.range_zero, List.nil_append, List.drop_zero]) <;> rfl), Nat.zero_le _⟩
  rintro i hi
  have hml := mixI_len hi
  refine EvC.seq ?_
  refine EvC.seq (EvC.rg (by (simp only [go_sem, List.length_map, hml]) <;> rfl) (by simp) ?_)
  refine EvC.cond (by (simp only [go_sem]) <;> rfl) (fun hc => ?_) (fun hc => ?_)
  rotate_left
  · -- else
    refine EvC.exit ?_  -- 0
    obtain rfl : i = l.length := by have : ¬ i < l.length := by simpa using hc
                                    omega
    clear hc
    rw [mixI_end]
    have hd := soloI_disj l
    have hsg := soloI_good hg
    have hsl := soloI_len l
    have hz := goodI_check hsg (by omega)
    have hln := hml
    clear hml q1 hg
    generalize goneTo l l.length = G
    generalize soloI l = S at hd hsg hsl hz
    rw [← hsl] at hl ⊢
    have hk : ∀ y ∈ S, y.kills.length < 1000000 := fun y hy => by have := (hsg y hy).l; omega
    have hcs : ∀ y ∈ S, (0 ≤ y.cost ∧ y.cost ≤ 1000000) ∧ y.kills.length < 1000000 := fun y hy => by
      have := (hsg y hy).c
      have := hk y hy
      omega
    have hc1 : ∀ y ∈ S, 1 ≤ y.cost := fun y hy => (hsg y hy).c.1
    refine EvC.frz 0 (by (simp only [go_sem, List.length_map]) <;> rfl) ?_
    have q2 := order_is false S .unk hk (by omega)
    rw [orderR, if_pos hz] at q2
    have hoo := orderA_ok S
    have hol := hoo.len
    have q3 := late_is false S .unk false (orderA S) .full hk (by omega)
    rw [lateR, if_pos hz, if_pos (choiceB_ok.2 hoo)] at q3
    have q6 := refLate_is false S .unk false (orderA S) .full hcs hoo.rng (by omega)
    have q4 := choice27_is false S .unk bn bs cb hb (by omega) hbl
    have hch := choiceOf_ok S bs
    have hll := late_least hc1 hd _ hch
    generalize choiceOf S bs = ch at q4 hch hll
    generalize orderA S = oo at q2 q3 q6 hoo hol hll
    apply EvC.seq
    apply EvC.tr
    · apply Tr.run
      · (simp only [go_sem]) <;> rfl
      · simp
      apply Tr.cons
      · exact .call rfl rfl (by (simp only [go_sem]) <;> rfl) (by (simp only [go_sem]) <;> rfl) (by (simp only [go_sem]) <;> rfl) (by (simp only [go_sem]) <;> rfl) (by (simp only [go_sem]) <;> rfl) (q2)
      apply Tr.done
      · (simp only [go_sem]) <;> rfl
      · simp
    apply EvC.seq
    apply EvC.tr
    · apply Tr.run
      · (simp only [go_sem]) <;> rfl
      · simp
      apply Tr.cons
      · exact .call rfl rfl (by (simp only [go_sem]) <;> rfl) (by (simp only [go_sem]) <;> rfl) (by (simp only [go_sem]) <;> rfl) (by (simp only [go_sem]) <;> rfl) (by (simp only [go_sem]) <;> rfl) (q3)
      apply Tr.done
      · (simp only [go_sem]) <;> rfl
      · simp
    apply EvC.seq
    apply EvC.tr
    · apply Tr.run
      · (simp only [go_sem]) <;> rfl
      · simp
      apply Tr.cons
      · exact .call rfl rfl (by (simp only [go_sem]) <;> rfl) (by (simp only [go_sem]) <;> rfl) (by (simp only [go_sem]) <;> rfl) (by (simp only [go_sem]) <;> rfl) (by (simp only [go_sem]) <;> rfl) (q4)
      apply Tr.done
      · (simp only [go_sem]) <;> rfl
      · simp
    refine EvC.seq ?_
    refine EvC.seq (EvC.rg (by (simp only [go_sem]) <;> rfl) (by simp) ?_)
    refine EvC.block ?_  -- 6
    refine EvC.loopS (σ := Nat) (fun i => ⟨[(5, .sl false (S.map itemC) .unk), (13, .sl false (oo.map intC) .full), (14, .sc (.int .i64 0)), (15, .sc (.int .i64 (lateOf S oo))), (16, .sc (.int .i64 0)), (17, .sl (restA ch i).isEmpty ((restA ch i).map intC) .unk), (18, .sc (.int .i64 i))], [], [], 0⟩) (fun i => S.length - i) (fun i => i ≤ S.length) [5, 13, 14, 15, 16, 17, 18] 0 ?_ ?_
    · exact ⟨[], 0, rfl, (by (simp only [go_sem, Int.natCast_zero, restA]) <;> rfl), Nat.zero_le _⟩
    rintro i hi
    refine EvC.seq ?_
    refine EvC.seq (EvC.rg (by (simp only [go_sem, List.length_map]) <;> rfl) (by simp) ?_)
    refine EvC.cond (by (simp only [go_sem]) <;> rfl) (fun hc => ?_) (fun hc => ?_)
    rotate_left
    · -- else
      refine EvC.exit ?_  -- 6
      obtain rfl : i = S.length := by have : ¬ i < S.length := by simpa using hc
                                      omega
      clear hc
      have hrl := restA_len hch
      have hrk := restA_ok hch (Nat.le_refl S.length)
      generalize restA ch S.length = T at hrl hrk hll
      have q5 := late_is false S .unk T.isEmpty T .unk hk (by omega)
      rw [lateR, if_pos hz, if_pos (choiceB_ok.2 hrk)] at q5
      generalize lateOf S T = b at q5 hll
      generalize lateOf S oo = a at q6 hll
      apply EvC.seq
      apply EvC.tr
      · apply Tr.run
        · (simp only [go_sem]) <;> rfl
        · simp
        apply Tr.cons
        · exact .call rfl rfl (by (simp only [go_sem]) <;> rfl) (by (simp only [go_sem]) <;> rfl) (by (simp only [go_sem]) <;> rfl) (by (simp only [go_sem]) <;> rfl) (by (simp only [go_sem]) <;> rfl) (q5)
        apply Tr.done
        · (simp only [go_sem]) <;> rfl
        · simp
      apply EvC.seq
      apply EvC.tr
      · apply Tr.run
        · (simp only [go_sem, List.length_map, hrl, decide_true, decide_eq_true hll]) <;> rfl
        · simp
        apply Tr.cons
        · exact .callG rfl rfl (by (simp only [go_sem]) <;> rfl) rfl (by (simp only [go_sem]) <;> rfl) (by (simp only [go_sem]) <;> rfl) (by (simp only [go_sem]) <;> rfl) (by (simp only [go_sem]) <;> rfl) (by (simp only [go_sem]) <;> rfl) (q6)
        apply Tr.run
        · (simp only [go_sem, List.length_map, hrl, decide_true, decide_eq_true hll]) <;> rfl
        · simp
        apply Tr.cons
        · exact .callG rfl rfl (by (simp only [go_sem]) <;> rfl) rfl (by (simp only [go_sem]) <;> rfl) (by (simp only [go_sem]) <;> rfl) (by (simp only [go_sem]) <;> rfl) (by (simp only [go_sem]) <;> rfl) (by (simp only [go_sem]) <;> rfl) (lives_is)
        apply Tr.done
        · (simp only [go_sem]) <;> rfl
        · simp
      refine EvC.ret ⟨.inl rfl, _, (by (simp only [go_sem]) <;> rfl), ?_, rfl⟩
      simp only [go_sem]
    have hil : i < S.length := by have : (i : Int) < S.length := by simpa using hc
                                  omega
    clear hc
    have hri := restA_ok hch (k := i) hi
    have hrl := hri.len
    have hcs2 := choice_snoc hri hil
    have hnx : restA ch (i + 1) = if (restA ch i).contains (i : Int) then restA ch i else restA ch i ++ [(i : Int)] := rfl
    generalize restA ch i = T at hri hcs2 hnx hrl
    have hin : (i : Int).toNat = i := Int.toNat_natCast i
    have hsn : T.map intC ++ [[.sc (.int .i64 (i : Int))]] = (T ++ [(i : Int)]).map intC := by simp [intC]
    have hsl2 : T.length + 1 = (T ++ [(i : Int)]).length := by simp
    have hse : (T ++ [(i : Int)]).isEmpty = false := by simp
    have hr1 : room T.length 8 = true := by simp only [room_eq, decide_eq_true_eq]; omega
    have hr2 : room (T.length + 1) 8 = true := by simp only [room_eq, decide_eq_true_eq]; omega
    have hr3 : ∀ x ∈ T, (intC x).length = 1 := fun _ _ => rfl
    rw [hsl2] at hr2
    have q := choice31_is false S .unk false (T ++ [(i : Int)]) .unk (by rw [← hsl2]; omega)
    rw [hcs2] at q
    generalize T ++ [(i : Int)] = L' at hsn hsl2 hse hr2 hnx q
    refine EvC.skip ?_
    refine EvC.seq ?_
    refine EvC.block ?_  -- 7
    refine EvC.seq (EvC.rg (by (simp only [go_sem, List.length_map, hsn, hsl2]) <;> rfl) (by simp [hr1, hr2]; try exact hr3) ?_)
    refine EvC.frz 6 (by (simp only [go_sem, List.length_map]) <;> rfl) ?_
    apply EvC.seq
    apply EvC.tr
    · apply Tr.run
      · (simp only [go_sem]) <;> rfl
      · simp
      apply Tr.cons
      · exact .call rfl rfl (by (simp only [go_sem]) <;> rfl) (by (simp only [go_sem]) <;> rfl) (by (simp only [go_sem]) <;> rfl) (by (simp only [go_sem]) <;> rfl) (by (simp only [go_sem]) <;> rfl) (q)
      apply Tr.done
      · (simp only [go_sem]) <;> rfl
      · simp
    by_cases hcc : T.contains (i : Int) = true
    · rw [hcc]
      rw [if_pos hcc] at hnx
      refine EvC.cond_false (by (simp only [go_sem]) <;> rfl) ?_
      refine EvC.skip ?_
      refine EvC.rg (by (simp only [go_sem]) <;> rfl) (by exact inI64_of (by omega) (by omega)) ?_
      exact ⟨[], i + 1, rfl, (by rw [hnx]; (simp only [go_sem, Int.natCast_add, Int.natCast_one]) <;> rfl), hil, by omega⟩
    rw [Bool.eq_false_iff.2 hcc]
    rw [if_neg hcc] at hnx
    refine EvC.cond_true (by (simp only [go_sem]) <;> rfl) ?_
    refine EvC.rg (by (simp only [go_sem]) <;> rfl) (by simp) ?_
    refine EvC.rg (by (simp only [go_sem]) <;> rfl) (by exact inI64_of (by omega) (by omega)) ?_
    exact ⟨[], i + 1, rfl, (by rw [hnx, hse]; (simp only [go_sem, Int.natCast_add, Int.natCast_one]) <;> rfl), hil, by omega⟩
  have hil : i < l.length := by have : (i : Int) < l.length := by simpa using hc
                                omega
  clear hc
  have he := mixI_get hil
  have hgx := hg _ (List.mem_of_getElem? (itemAt_get (l := l) (i := (i : Int)) ⟨by omega, by omega⟩))
  have hset := mixI_set hil
  have hgl := goneTo_len hg hi
  have hgn : goneTo l (i + 1) = goneTo l i ++ fltK (goneTo l i) (itemAt l (i : Int)).kills := rfl
  unfold newI at hset
  generalize mixI l i = M at he hml hset
  generalize goneTo l i = g0 at hset hgl hgn
  generalize itemAt l (i : Int) = x at he hset hgx hgn
  have hin : (i : Int).toNat = i := Int.toNat_natCast i
  obtain ⟨_, hxk, hxs, hxl⟩ := hgx
  refine EvC.skip ?_
  refine EvC.seq ?_
  refine EvC.block ?_  -- 1
  refine EvC.seq (EvC.rg (by (simp only [go_sem]) <;> rfl) (by simp) ?_)
  refine EvC.seq ?_
  refine EvC.seq (EvC.rg (by (simp only [go_sem]) <;> rfl) (by simp) ?_)
  refine EvC.block ?_  -- 2
  refine EvC.loopS (σ := Nat) (fun k => ⟨[(1, .sl bn (bs.map u8C) cb), (5, .tl 0 l.length false), (6, .tl 1 (gK g0 x.kills k).length (gK g0 x.kills k).isEmpty), (7, .sc (.int .i64 i)), (8, .tl 2 (fltK g0 (x.kills.take k)).length (fltK g0 (x.kills.take k)).isEmpty), (9, .sc (.int .i64 k))], [], [(0, .arr 2 (M.map itemC) false), (1, .arr 1 ((gK g0 x.kills k).map intC) false), (2, .arr 1 ((fltK g0 (x.kills.take k)).map intC) true)], 3⟩) (fun k => x.kills.length - k) (fun k => k ≤ x.kills.length) [1, 5, 6, 7, 8, 9] 3 ?_ ?_
  · have e0 : fltK g0 (x.kills.take 0) = [] := rfl
    exact ⟨[(0, 0), (1, 1), (6, 2)], 0, rfl, (by rw [e0, gK_zero]; (simp only [go_sem, Int.natCast_zero, List.map_nil, List.length_nil, List.isEmpty_nil]) <;> rfl), Nat.zero_le _⟩
  rintro k hk
  refine EvC.seq ?_
  refine EvC.seq (EvC.rg (by (simp only [go_sem, he, hin, itemC, List.length_map, hml]) <;> rfl) (by simp; omega) ?_)
  refine EvC.cond (by (simp only [go_sem]) <;> rfl) (fun hc => ?_) (fun hc => ?_)
  rotate_left
  · -- else
    refine EvC.exit ?_  -- 2
    obtain rfl : k = x.kills.length := by have : ¬ k < x.kills.length := by simpa using hc
                                          omega
    clear hc
    have hgk : gK g0 x.kills x.kills.length = goneTo l (i + 1) := by rw [gK, List.take_length, hgn]
    rw [List.take_length, hgk]
    have hset2 : (M.map itemC).set i [.sc (.int .i64 x.cost), .sl (fltK g0 x.kills).isEmpty ((fltK g0 x.kills).map intC) .unk] = (mixI l (i + 1)).map itemC := by rw [← hset, List.map_set]; rfl
    refine EvC.frzD 2 (by (simp only [go_sem, List.length_map]) <;> rfl) ?_
    refine EvC.rg (by (simp only [go_sem, he, hin, itemC, List.length_map, hml, hset2]) <;> rfl) (by simp; omega) ?_
    have hme := mixI_len (l := l) (i := i + 1) hil
    refine EvC.rg (by (simp only [go_sem]) <;> rfl) (by exact inI64_of (by omega) (by omega)) ?_
    exact ⟨[(0, 0), (1, 1)], i + 1, rfl, (by (simp only [go_sem, Int.natCast_add, Int.natCast_one]) <;> rfl), hil, by omega⟩
  have hkl : k < x.kills.length := by have : (k : Int) < x.kills.length := by simpa using hc
                                      omega
  clear hc
  have hn : x.kills[k]? = some (x.kills[k]'hkl) := List.getElem?_eq_getElem hkl
  have hst := fltK_take (gone := g0) hn
  have hnw := fltK_new (gone := g0) hn hxs
  have hfl := fltK_len g0 (x.kills.take k)
  rw [List.length_take] at hfl
  generalize x.kills[k]'hkl = n at hn hst hnw
  have hgs : gK g0 x.kills (k + 1) = if g0.contains n = true then gK g0 x.kills k else gK g0 x.kills k ++ [n] := by
    simp only [gK, hst]
    split
    · rfl
    · rw [List.append_assoc]
  have hgl' : (gK g0 x.kills k).length = g0.length + (fltK g0 (x.kills.take k)).length := by rw [gK, List.length_append]
  rw [← gK] at hnw
  generalize gK g0 x.kills k = D at hgs hnw hgl'
  generalize fltK g0 (x.kills.take k) = C at hst hfl hgl'
  have hkn : (k : Int).toNat = k := Int.toNat_natCast k
  refine EvC.skip ?_
  refine EvC.seq ?_
  refine EvC.block ?_  -- 3
  refine EvC.seq (EvC.rg (by (simp only [go_sem, he, hin, itemC, List.length_map, hml, hn, hkn, intC]) <;> rfl) (by simp; omega) ?_)
  refine EvC.seq (EvC.rg (by (simp only [go_sem]) <;> rfl) (by simp) ?_)
  refine EvC.seq ?_
  refine EvC.seq (EvC.rg (by (simp only [go_sem]) <;> rfl) (by simp) ?_)
  refine EvC.block ?_  -- 4
  refine EvC.loopS (σ := Nat) (fun j => ⟨[(1, .sl bn (bs.map u8C) cb), (5, .tl 0 l.length false), (6, .tl 1 D.length D.isEmpty), (7, .sc (.int .i64 i)), (8, .tl 2 C.length C.isEmpty), (9, .sc (.int .i64 k)), (10, .sc (.int .i64 n)), (11, .sc (.bool ((D.take j).contains n))), (12, .sc (.int .i64 j))], [], [(0, .arr 2 (M.map itemC) false), (1, .arr 1 (D.map intC) false), (2, .arr 1 (C.map intC) true)], 3⟩) (fun j => D.length - j) (fun j => j ≤ D.length) [1, 5, 6, 7, 8, 9, 10, 11, 12] 3 ?_ ?_
  · have e0 : (D.take 0).contains n = false := rfl
    exact ⟨[(0, 0), (1, 1), (2, 2)], 0, rfl, (by rw [e0]; (simp only [go_sem, Int.natCast_zero]) <;> rfl), Nat.zero_le _⟩
  rintro j hj
  refine EvC.seq ?_
  refine EvC.seq (EvC.rg (by (simp only [go_sem, List.length_map]) <;> rfl) (by simp) ?_)
  refine EvC.cond (by (simp only [go_sem]) <;> rfl) (fun hc => ?_) (fun hc => ?_)
  rotate_left
  · -- else
    refine EvC.exit ?_  -- 4
    obtain rfl : j = D.length := by have : ¬ j < D.length := by simpa using hc
                                    omega
    clear hc
    rw [List.take_length, hnw]
    refine EvC.seq (EvC.rg (by (simp only [go_sem]) <;> rfl) (by simp) ?_)
    by_cases hgc : g0.contains n = true
    · rw [hgc]
      rw [if_pos hgc] at hst hgs
      refine EvC.cond_false (by (simp only [go_sem]) <;> rfl) ?_
      refine EvC.skip ?_
      refine EvC.rg (by (simp only [go_sem]) <;> rfl) (by exact inI64_of (by omega) (by omega)) ?_
      exact ⟨[(0, 0), (1, 1), (2, 2)], k + 1, rfl, (by rw [hst, hgs]; (simp only [go_sem, Int.natCast_add, Int.natCast_one]) <;> rfl), hkl, by omega⟩
    rw [Bool.eq_false_iff.2 hgc]
    rw [if_neg hgc] at hst hgs
    have s1 : C.map intC ++ [[.sc (.int .i64 n)]] = (C ++ [n]).map intC := by simp [intC]
    have s2 : D.map intC ++ [[.sc (.int .i64 n)]] = (D ++ [n]).map intC := by simp [intC]
    have l1 : C.length + 1 = (C ++ [n]).length := by simp
    have l2 : D.length + 1 = (D ++ [n]).length := by simp
    have b1 : (C ++ [n]).isEmpty = false := by simp
    have b2 : (D ++ [n]).isEmpty = false := by simp
    have r1 : room (C.length + 1) 8 = true := by simp only [room_eq, decide_eq_true_eq]; omega
    have r2 : room (D.length + 1) 8 = true := by simp only [room_eq, decide_eq_true_eq]; omega
    rw [l1] at r1
    rw [l2] at r2
    rw [← hst] at s1 l1 b1 r1
    rw [← hgs] at s2 l2 b2 r2
    generalize hC' : fltK g0 (x.kills.take (k + 1)) = C' at s1 l1 b1 r1
    generalize hD' : gK g0 x.kills (k + 1) = D' at s2 l2 b2 r2
    refine EvC.cond_true (by (simp only [go_sem]) <;> rfl) ?_
    refine EvC.seq (EvC.rg (by (simp only [go_sem, s1, l1, List.length_map]) <;> rfl) (by simp [r1]) ?_)
    refine EvC.rg (by (simp only [go_sem, s2, l2, List.length_map]) <;> rfl) (by simp [r2]) ?_
    refine EvC.rg (by (simp only [go_sem]) <;> rfl) (by exact inI64_of (by omega) (by omega)) ?_
    exact ⟨[(0, 0), (1, 1), (2, 2)], k + 1, rfl, (by rw [hC', hD']; (simp only [go_sem, b1, b2, Int.natCast_add, Int.natCast_one]) <;> rfl), hkl, by omega⟩
  have hjl : j < D.length := by have : (j : Int) < D.length := by simpa using hc
                                omega
  clear hc
  have hdj : D[j]? = some (D[j]'hjl) := List.getElem?_eq_getElem hjl
  have hct : (D.take (j + 1)).contains n = ((D.take j).contains n || decide (D[j]'hjl = n)) := by
    rw [List.take_succ_eq_append_getElem hjl, List.contains_eq_any_beq, List.contains_eq_any_beq, List.any_append]
    congr 1
    simp only [List.any_cons, List.any_nil, Bool.or_false]
    rw [Bool.eq_iff_iff, beq_iff_eq, decide_eq_true_eq]
    exact eq_comm
  generalize D[j]'hjl = y at hdj hct
  have hjn : (j : Int).toNat = j := Int.toNat_natCast j
  refine EvC.skip ?_
  refine EvC.seq ?_
  refine EvC.block ?_  -- 5
  cases hb0 : (D.take j).contains n with
  | true =>
    rw [hb0, Bool.true_or] at hct
    apply EvC.trd
    · (simp only [go_sem, hdj, hjn, List.length_map, intC]) <;> rfl
    · simp
    refine EvC.rg (by (simp only [go_sem]) <;> rfl) (by exact inI64_of (by omega) (by omega)) ?_
    exact ⟨[(0, 0), (1, 1), (2, 2)], j + 1, rfl, (by rw [hct]; (simp only [go_sem, Int.natCast_add, Int.natCast_one]) <;> rfl), hjl, by omega⟩
  | false =>
    rw [hb0, Bool.false_or] at hct
    apply EvC.trd
    · (simp only [go_sem, hdj, hjn, List.length_map, intC]) <;> rfl
    · simp; omega
    refine EvC.rg (by (simp only [go_sem]) <;> rfl) (by exact inI64_of (by omega) (by omega)) ?_
    exact ⟨[(0, 0), (1, 1), (2, 2)], j + 1, rfl, (by rw [hct]; (simp only [go_sem, Int.natCast_add, Int.natCast_one]) <;> rfl), hjl, by omega⟩
end Go.Avl
namespace Go.Avl
open Go Go.Proofs.Tryd
set_option maxRecDepth 10000
set_option linter.unusedSimpArgs false

set_option maxHeartbeats 8000000 in
theorem plansLate_none (nl : Bool) (xs : List LI) (c : Cp) (hx : ∀ x ∈ xs, x.Ok) (bn : Bool) (bs : List Int) (cb : Cp) (hb : ∀ b ∈ bs, 0 ≤ b ∧ b < 256) (hbl : (bs.length : Int) ≤ 140737488355328) (h0 : (listOf xs 12).length = 0) :
    PureIs prog 7 [.sl nl (xs.map liC) c, .sl bn (bs.map u8C) cb] (.sc (.bool true)) := by
  have q1 := list24_is nl xs c 12 hx (by decide)
  have he : listOf xs 12 = [] := List.eq_nil_of_length_eq_zero h0
  rw [he] at q1
  clear h0 he
  obtain ⟨S, hS⟩ : ∃ S : List Item, S = [] := ⟨_, rfl⟩
  have hs0 : S.length = 0 := by rw [hS]; rfl
  have hl : S.length ≤ 12 := by omega
  have q1 : PureIs prog 24 [.sl nl (xs.map liC) c, .sc (.int .i64 (12 : Nat))] (.sl true (S.map itemC) .unk) := by rw [hS]; exact q1
  have hd : DisjI S := fun i j hi => by omega
  have hsg : ∀ y ∈ S, GoodI y := fun y hy => by rw [hS] at hy; cases hy
  have hz := goodI_check hsg (by omega)
  have hk : ∀ y ∈ S, y.kills.length < 1000000 := fun y hy => by have := (hsg y hy).l; omega
  have hcs : ∀ y ∈ S, (0 ≤ y.cost ∧ y.cost ≤ 1000000) ∧ y.kills.length < 1000000 := fun y hy => by
    have := (hsg y hy).c
    have := hk y hy
    omega
  have hc1 : ∀ y ∈ S, 1 ≤ y.cost := fun y hy => (hsg y hy).c.1
  clear hS
  have h12 : (((12 : Nat)) : Int) = 12 := rfl
  refine PureIs.of (nv := 2) (hid := [4, 5, 6, 7, 8, 9, 10, 11, 12, 13, 14, 15, 16, 17, 18, 19, 20, 21, 27, 37, 51, 64, 95, 106]) func7 rfl (by kernel_rfl) (by simp [ntmps7]) fun _ => ?_
  rw [ntmps7, results7]
  refine EvC.seq (EvC.rg (by (simp only [go_sem]) <;> rfl) (by simp) ?_)
  apply EvC.seq
  apply EvC.tr
  · apply Tr.run
    · (simp only [go_sem, h12]) <;> rfl
    · simp
    apply Tr.cons
    · exact .call rfl rfl (by (simp only [go_sem]) <;> rfl) (by (simp only [go_sem]) <;> rfl) (by (simp only [go_sem]) <;> rfl) (by (simp only [go_sem]) <;> rfl) (by (simp only [go_sem]) <;> rfl) (q1)
    apply Tr.done
    · (simp only [go_sem]) <;> rfl
    · simp
  refine EvC.seq (EvC.rg (by (simp only [go_sem]) <;> rfl) (by simp) ?_)
  refine EvC.seq ?_
  refine EvC.seq (EvC.rg (by (simp only [go_sem]) <;> rfl) (by simp) ?_)
  refine EvC.block ?_  -- 0
  refine EvC.loopS (σ := Nat) (fun i => ⟨[(1, .sl bn (bs.map u8C) cb), (5, .sl true (S.map itemC) .unk), (7, .sc (.int .i64 i))], [], [], 0⟩) (fun i => S.length - i) (fun i => i ≤ S.length) [1, 5, 7] 0 ?_ ?_
  · exact ⟨[], 0, rfl, (by (simp only [go_sem, Int.natCast_zero]) <;> rfl), Nat.zero_le _⟩
  rintro i hi
  refine EvC.seq ?_
  refine EvC.seq (EvC.rg (by (simp only [go_sem, List.length_map]) <;> rfl) (by simp) ?_)
  refine EvC.cond (by (simp only [go_sem]) <;> rfl) (fun hc => ?_) (fun hc => ?_)
  rotate_left
  · -- else
    refine EvC.exit ?_  -- 0
    clear hc hi q1
    have q2 := order_is true S .unk hk (by omega)
    rw [orderR, if_pos hz] at q2
    have hoo := orderA_ok S
    have hol := hoo.len
    have q3 := late_is true S .unk false (orderA S) .full hk (by omega)
    rw [lateR, if_pos hz, if_pos (choiceB_ok.2 hoo)] at q3
    have q6 := refLate_is true S .unk false (orderA S) .full hcs hoo.rng (by omega)
    have q4 := choice27_is true S .unk bn bs cb hb (by omega) hbl
    have hch := choiceOf_ok S bs
    have hll := late_least hc1 hd _ hch
    generalize choiceOf S bs = ch at q4 hch hll
    generalize orderA S = oo at q2 q3 q6 hoo hol hll
    apply EvC.seq
    apply EvC.tr
    · apply Tr.run
      · (simp only [go_sem]) <;> rfl
      · simp
      apply Tr.cons
      · exact .call rfl rfl (by (simp only [go_sem]) <;> rfl) (by (simp only [go_sem]) <;> rfl) (by (simp only [go_sem]) <;> rfl) (by (simp only [go_sem]) <;> rfl) (by (simp only [go_sem]) <;> rfl) (q2)
      apply Tr.done
      · (simp only [go_sem]) <;> rfl
      · simp
    apply EvC.seq
    apply EvC.tr
    · apply Tr.run
      · (simp only [go_sem]) <;> rfl
      · simp
      apply Tr.cons
      · exact .call rfl rfl (by (simp only [go_sem]) <;> rfl) (by (simp only [go_sem]) <;> rfl) (by (simp only [go_sem]) <;> rfl) (by (simp only [go_sem]) <;> rfl) (by (simp only [go_sem]) <;> rfl) (q3)
      apply Tr.done
      · (simp only [go_sem]) <;> rfl
      · simp
    apply EvC.seq
    apply EvC.tr
    · apply Tr.run
      · (simp only [go_sem]) <;> rfl
      · simp
      apply Tr.cons
      · exact .call rfl rfl (by (simp only [go_sem]) <;> rfl) (by (simp only [go_sem]) <;> rfl) (by (simp only [go_sem]) <;> rfl) (by (simp only [go_sem]) <;> rfl) (by (simp only [go_sem]) <;> rfl) (q4)
      apply Tr.done
      · (simp only [go_sem]) <;> rfl
      · simp
    refine EvC.seq ?_
    refine EvC.seq (EvC.rg (by (simp only [go_sem]) <;> rfl) (by simp) ?_)
    refine EvC.block ?_  -- 6
    refine EvC.loopS (σ := Nat) (fun i => ⟨[(5, .sl true (S.map itemC) .unk), (13, .sl false (oo.map intC) .full), (14, .sc (.int .i64 0)), (15, .sc (.int .i64 (lateOf S oo))), (16, .sc (.int .i64 0)), (17, .sl (restA ch i).isEmpty ((restA ch i).map intC) .unk), (18, .sc (.int .i64 i))], [], [], 0⟩) (fun i => S.length - i) (fun i => i ≤ S.length) [5, 13, 14, 15, 16, 17, 18] 0 ?_ ?_
    · exact ⟨[], 0, rfl, (by (simp only [go_sem, Int.natCast_zero, restA]) <;> rfl), Nat.zero_le _⟩
    rintro i hi
    refine EvC.seq ?_
    refine EvC.seq (EvC.rg (by (simp only [go_sem, List.length_map]) <;> rfl) (by simp) ?_)
    refine EvC.cond (by (simp only [go_sem]) <;> rfl) (fun hc => ?_) (fun hc => ?_)
    rotate_left
    · -- else
      refine EvC.exit ?_  -- 6
      obtain rfl : i = S.length := by have : ¬ i < S.length := by simpa using hc
                                      omega
      clear hc
      have hrl := restA_len hch
      have hrk := restA_ok hch (Nat.le_refl S.length)
      generalize restA ch S.length = T at hrl hrk hll
      have q5 := late_is true S .unk T.isEmpty T .unk hk (by omega)
      rw [lateR, if_pos hz, if_pos (choiceB_ok.2 hrk)] at q5
      generalize lateOf S T = b at q5 hll
      generalize lateOf S oo = a at q6 hll
      apply EvC.seq
      apply EvC.tr
      · apply Tr.run
        · (simp only [go_sem]) <;> rfl
        · simp
        apply Tr.cons
        · exact .call rfl rfl (by (simp only [go_sem]) <;> rfl) (by (simp only [go_sem]) <;> rfl) (by (simp only [go_sem]) <;> rfl) (by (simp only [go_sem]) <;> rfl) (by (simp only [go_sem]) <;> rfl) (q5)
        apply Tr.done
        · (simp only [go_sem]) <;> rfl
        · simp
      apply EvC.seq
      apply EvC.tr
      · apply Tr.run
        · (simp only [go_sem, List.length_map, hrl, decide_true, decide_eq_true hll]) <;> rfl
        · simp
        apply Tr.cons
        · exact .callG rfl rfl (by (simp only [go_sem]) <;> rfl) rfl (by (simp only [go_sem]) <;> rfl) (by (simp only [go_sem]) <;> rfl) (by (simp only [go_sem]) <;> rfl) (by (simp only [go_sem]) <;> rfl) (by (simp only [go_sem]) <;> rfl) (q6)
        apply Tr.run
        · (simp only [go_sem, List.length_map, hrl, decide_true, decide_eq_true hll]) <;> rfl
        · simp
        apply Tr.cons
        · exact .callG rfl rfl (by (simp only [go_sem]) <;> rfl) rfl (by (simp only [go_sem]) <;> rfl) (by (simp only [go_sem]) <;> rfl) (by (simp only [go_sem]) <;> rfl) (by (simp only [go_sem]) <;> rfl) (by (simp only [go_sem]) <;> rfl) (lives_is)
        apply Tr.done
        · (simp only [go_sem]) <;> rfl
        · simp
      refine EvC.ret ⟨.inl rfl, _, (by (simp only [go_sem]) <;> rfl), ?_, rfl⟩
      simp only [go_sem]
    have hil : i < S.length := by have : (i : Int) < S.length := by simpa using hc
                                  omega
    clear hc
    have hri := restA_ok hch (k := i) hi
    have hrl := hri.len
    have hcs2 := choice_snoc hri hil
    have hnx : restA ch (i + 1) = if (restA ch i).contains (i : Int) then restA ch i else restA ch i ++ [(i : Int)] := rfl
    generalize restA ch i = T at hri hcs2 hnx hrl
    have hin : (i : Int).toNat = i := Int.toNat_natCast i
    have hsn : T.map intC ++ [[.sc (.int .i64 (i : Int))]] = (T ++ [(i : Int)]).map intC := by simp [intC]
    have hsl2 : T.length + 1 = (T ++ [(i : Int)]).length := by simp
    have hse : (T ++ [(i : Int)]).isEmpty = false := by simp
    have hr1 : room T.length 8 = true := by simp only [room_eq, decide_eq_true_eq]; omega
    have hr2 : room (T.length + 1) 8 = true := by simp only [room_eq, decide_eq_true_eq]; omega
    have hr3 : ∀ x ∈ T, (intC x).length = 1 := fun _ _ => rfl
    rw [hsl2] at hr2
    have q := choice31_is true S .unk false (T ++ [(i : Int)]) .unk (by rw [← hsl2]; omega)
    rw [hcs2] at q
    generalize T ++ [(i : Int)] = L' at hsn hsl2 hse hr2 hnx q
    refine EvC.skip ?_
    refine EvC.seq ?_
    refine EvC.block ?_  -- 7
    refine EvC.seq (EvC.rg (by (simp only [go_sem, List.length_map, hsn, hsl2]) <;> rfl) (by simp [hr1, hr2]; try exact hr3) ?_)
    refine EvC.frz 6 (by (simp only [go_sem, List.length_map]) <;> rfl) ?_
    apply EvC.seq
    apply EvC.tr
    · apply Tr.run
      · (simp only [go_sem]) <;> rfl
      · simp
      apply Tr.cons
      · exact .call rfl rfl (by (simp only [go_sem]) <;> rfl) (by (simp only [go_sem]) <;> rfl) (by (simp only [go_sem]) <;> rfl) (by (simp only [go_sem]) <;> rfl) (by (simp only [go_sem]) <;> rfl) (q)
      apply Tr.done
      · (simp only [go_sem]) <;> rfl
      · simp
    by_cases hcc : T.contains (i : Int) = true
    · rw [hcc]
      rw [if_pos hcc] at hnx
      refine EvC.cond_false (by (simp only [go_sem]) <;> rfl) ?_
      refine EvC.skip ?_
      refine EvC.rg (by (simp only [go_sem]) <;> rfl) (by exact inI64_of (by omega) (by omega)) ?_
      exact ⟨[], i + 1, rfl, (by rw [hnx]; (simp only [go_sem, Int.natCast_add, Int.natCast_one]) <;> rfl), hil, by omega⟩
    rw [Bool.eq_false_iff.2 hcc]
    rw [if_neg hcc] at hnx
    refine EvC.cond_true (by (simp only [go_sem]) <;> rfl) ?_
    refine EvC.rg (by (simp only [go_sem]) <;> rfl) (by simp) ?_
    refine EvC.rg (by (simp only [go_sem]) <;> rfl) (by exact inI64_of (by omega) (by omega)) ?_
    exact ⟨[], i + 1, rfl, (by rw [hnx, hse]; (simp only [go_sem, Int.natCast_add, Int.natCast_one]) <;> rfl), hil, by omega⟩
  exact absurd (show (i : Int) < S.length by simpa using hc) (by omega)
theorem plansLate_all (nl : Bool) (xs : List LI) (c : Cp) (hx : ∀ x ∈ xs, x.Ok) (bn : Bool) (bs : List Int) (cb : Cp) (hb : ∀ b ∈ bs, 0 ≤ b ∧ b < 256) (hbl : (bs.length : Int) ≤ 140737488355328) :
    PureIs prog 7 [.sl nl (xs.map liC) c, .sl bn (bs.map u8C) cb] (.sc (.bool true)) := by
  by_cases h0 : (listOf xs 12).length = 0
  · exact plansLate_none nl xs c hx bn bs cb hb hbl h0
  · exact plansLate_is nl xs c hx bn bs cb hb hbl h0
end Go.Avl
namespace Go.Proofs.YthdaggogdocmfaaDoor
open Go Go.Avl Go.Proofs Go.ChangeShapes Go.RowKit

set_option maxRecDepth 100000 in
theorem plansLate_lifted (os : Os) (started : os.Started) (H : Type) (enc : TypeId × Value → H) :
    ReturnsInHanded {} Tryd.checked os 7 .any (fun w args => (Rows.plansLateSpec.pre enc Tryd.prog Tryd.f7 Rows.plansLateRow.domain false w args ∧ laidMetH Tryd.prog laidT w) ∧ sizedMet enc Tryd.prog Tryd.f7 (OpenSpec.ofChange Rows.plansLateSpec) false w args)
      (Rows.plansLateSpec.post enc Tryd.prog Tryd.f7 false true false false) := by
  refine returnsInHanded_of_change_and (C := Tryd.checked) (X := fun w _ => laidMetH Tryd.prog laidT w) (fun _ _ _ hh h => h.of_heap hh) Tryd.own started (by kernel_rfl) Tryd.func7
    (ChangeSpec.witness_shaped (enc := enc) (C := Tryd.checked) (os := os) (X := fun w _ => laidMetH Tryd.prog laidT w) false (World.doorLaid Tryd.prog 400 os) #[.slice none 0 0, .slice none 0 0] 8 rfl (World.shaped_of_RefB (by kernel_rfl) (by kernel_rfl)) (by kernel_rfl) (by kernel_rfl) (by kernel_rfl) (door_met os _)) ?_
  intro W base args ds gs before hval hW _ hz hL _
  have hgl := globs_of hL
  have hW' := hW
  obtain ⟨p, q, hA, hV, rfl, _, _⟩ := hW'
  obtain ⟨rfl, rfl⟩ := trodVars_none hV
  have hA' : DataW.TrodAll enc Tryd.prog W 0 (fun _ => true) true [60, 54] args.toList ds p := by rw [← show Tryd.f7.params.toList = [60, 54] from rfl]; exact hA
  obtain ⟨v0, v1, d0, d1, p0, p1, rfl, rfl, rfl, h0, h1⟩ := trodAll_two hA'
  have hz' : (DataW.weightsEach Tryd.prog [60, 54] [d0, d1]).all (· ≤ reachBytes) = true := hz
  have hf := fits_each (P := Tryd.prog) (ts := [60, 54]) (l := [d0, d1]) fun n hn => by simpa using List.all_eq_true.1 hz' n hn
  obtain ⟨x, hx, i0⟩ := rd_lis.imm_slice Tryd.underlying60 (hval 0 60 v0 rfl rfl) (hf 0 60 d0 rfl rfl) h0
  obtain ⟨b, hb, i1⟩ := rd_bytes.imm_slice Tryd.underlying54 (hval 1 54 v1 rfl rfl) (hf 1 54 d1 rfl rfl) h1
  exact law_calls Tryd.laidOut (by kernel_rfl) rfl (by kernel_rfl) rfl rfl (plansLate_all x.1 x.2 .unk hx b.1 b.2 .unk hb.1 hb.2) (Imms.append (.one i0) (.one i1)) hW hgl

theorem plansLate_said : Rows.PlansLateSaid :=
  OpenClaim.holds_of_wide 7 Tryd.f7 rfl rfl rfl rfl rfl rfl rfl ⟨rfl, rfl, rfl, rfl, rfl⟩ rfl rfl rfl rfl rfl (by kernel_rfl) Tryd.func7 (by kernel_rfl)
    (of_decide_eq_true (by kernel_rfl)) (by unfold Func.isWrapper; first | (rw [if_pos (by decide +kernel)]; kernel_rfl) | (rw [if_neg (by decide +kernel)]; exact ⟨rfl, rfl⟩))
    (fun os started H enc _ => plansLate_lifted os started H enc)

theorem plansLate_holds : Rows.PlansLateCardSaid :=
  Claim7.holds_tied_plain_at .later [] [.widerDeep] true (true, "6d3ff7fe0d9779fedb791cf0751605ad5cd5bfdc42f52104730e367675225e7a") false
    plansLate_said (fun _ h => by cases h) (by kernel_rfl) (fun _ h => by cases h) plansLate_row_tie rfl ⟨rfl, rfl⟩ (by kernel_rfl) rfl
    (fun f fn hf hfn => by
      obtain rfl : f = 7 := (Option.some.inj ((show Tryd.prog.funcNamed "gauntlet/gauntletlaw43.PlansLate" = some 7 by kernel_rfl).symm.trans hf)).symm
      obtain rfl : fn = Tryd.f7 := (Option.some.inj (Tryd.func7.symm.trans hfn)).symm
      refine ⟨by kernel_rfl, fun j t ht => ?_⟩
      have key : (Tryd.f7.params.toList.all fun t => Tryd.prog.wantsStandIn t == false) = true := by kernel_rfl
      have hm : t ∈ Tryd.f7.params.toList := by
        rw [← Array.getElem?_toList] at ht
        exact List.mem_of_getElem? ht
      exact eq_of_beq (List.all_eq_true.1 key t hm))
    (by kernel_rfl)
#print axioms plansLate_holds
end Go.Proofs.YthdaggogdocmfaaDoor
