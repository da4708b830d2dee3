/-
  Lemmas.
  Lemmas.
  Lemmas.
  Lemmas.
  Lemmas.
  Lemmas.
  Lemmas.
  Lemmas.
  Lemmas.
  Lemmas.
  Lemmas.
  Lemmas.
-/
import Derived.Test.YthdaggogdocmfaaDoorPart6
set_option linter.unusedSimpArgs false
set_option linter.unusedVariables false
set_option linter.unnecessarySimpa false
set_option linter.deprecated false
namespace Go.Avl
open Go Go.Proofs.Tryd
set_option maxRecDepth 10000
set_option linter.unusedSimpArgs false

/-! ### The order both programs make -/
/-- What the next item of the order would add to the ones already there. -/
def frA (l : List Item) (os : List Int) (i : Int) : Int := freshN (killedP l os) (itemAt l i).kills
/-- Item i goes ahead of the best one so far. -/
def ahead (l : List Item) (os : List Int) : Option Nat → Nat → Bool
  | none, _ => true
  | some b, i => decide (frA l os b * (itemAt l i).cost < frA l os i * (itemAt l b).cost)
def takes (l : List Item) (os : List Int) (b : Option Nat) (i : Nat) : Bool := !os.contains (i : Int) && (decide (0 < frA l os i) && ahead l os b i)
def pickK (l : List Item) (os : List Int) : Nat → Option Nat
  | 0 => none
  | k + 1 => if takes l os (pickK l os k) k = true then some k else pickK l os k
/-- The best of all, if any adds a number. -/
def pickA (l : List Item) (os : List Int) : Option Nat := pickK l os l.length
def chainA (l : List Item) : Nat → List Int → List Int
  | 0, os => os
  | f + 1, os => match pickA l os with | none => os | some b => chainA l f (os ++ [(b : Int)])
/-- What is left, in the items' order. -/
def restA (os : List Int) : Nat → List Int
  | 0 => os
  | k + 1 => if (restA os k).contains (k : Int) then restA os k else restA os k ++ [(k : Int)]
def orderA (l : List Item) : List Int := restA (chainA l l.length []) l.length
def bestI : Option Nat → Int | none => -1 | some b => b
def mostI (l : List Item) (os : List Int) : Option Nat → Int | none => 0 | some b => frA l os b

theorem pickK_lt {l : List Item} {os : List Int} : ∀ {k b : Nat}, pickK l os k = some b → b < k
  | 0, b, h => by simp [pickK] at h
  | k + 1, b, h => by
    rw [pickK] at h
    split at h
    · cases h; omega
    · have := pickK_lt h; omega
theorem pickK_new {l : List Item} {os : List Int} : ∀ {k b : Nat}, pickK l os k = some b → os.contains (b : Int) = false
  | 0, b, h => by simp [pickK] at h
  | k + 1, b, h => by
    rw [pickK] at h
    split at h
    · rename_i ht
      cases h
      have := (Bool.and_eq_true_iff.1 ht).1
      simpa using this
    · exact pickK_new h
theorem pickA_lt {l : List Item} {os : List Int} {b : Nat} (h : pickA l os = some b) : b < l.length := pickK_lt h
theorem pickA_new {l : List Item} {os : List Int} {b : Nat} (h : pickA l os = some b) : ¬ (b : Int) ∈ os := by
  have := pickK_new h
  simpa using this
theorem killedP_snoc (l : List Item) (os : List Int) (b : Int) : killedP l (os ++ [b]) = fun n => killedP l os n || inL (itemAt l b).kills n := by
  funext n
  simp [killedP, inL]
theorem sub_len : ∀ (l r : List Nat), l.Nodup → l ⊆ r → l.length ≤ r.length
  | [], _, _, _ => Nat.zero_le _
  | a :: l, r, h, hs => by
    rw [List.nodup_cons] at h
    have ha : a ∈ r := hs List.mem_cons_self
    have h1 := sub_len l (r.erase a) h.2 fun x hx => (List.mem_erase_of_ne (fun he : x = a => h.1 (he ▸ hx))).2 (hs (List.mem_cons_of_mem _ hx))
    have h2 := List.length_erase_of_mem ha
    have h3 := List.length_pos_of_mem ha
    rw [List.length_cons]
    omega
theorem cnt_mono {P Q : Nat → Bool} (h : ∀ n, P n = true → Q n = true) : ∀ n, cnt P n ≤ cnt Q n
  | 0 => Nat.le_refl _
  | n + 1 => by
    have h1 := cnt_mono h n
    have e1 : cnt P (n + 1) = cnt P n + (P n).toNat := rfl
    have e2 : cnt Q (n + 1) = cnt Q n + (Q n).toNat := rfl
    have h2 : (P n).toNat ≤ (Q n).toNat := by
      cases hp : P n with
      | false => simp
      | true => simp [h n hp]
    omega
/-- A list of different numbers below n has n at the most. -/
theorem nodup_len : ∀ (n : Nat) (os : List Int), os.Nodup → (∀ i ∈ os, 0 ≤ i ∧ i < n) → os.length ≤ n := by
  intro n os hn hb
  have h1 : (os.map Int.toNat).Nodup := by
    rw [List.nodup_iff_pairwise_ne] at hn ⊢
    rw [List.pairwise_map]
    refine hn.imp_of_mem fun {a b} ha hb' h he => h ?_
    have := hb a ha; have := hb b hb'
    omega
  have h2 : (os.map Int.toNat) ⊆ List.range n := by
    intro x hx
    obtain ⟨i, hi, rfl⟩ := List.mem_map.1 hx
    have := hb i hi
    rw [List.mem_range]; omega
  have h3 := sub_len _ _ h1 h2
  simpa using h3
/-- What the order's first part keeps. -/
structure OkA (l : List Item) (os : List Int) : Prop where
  nd : os.Nodup
  rng : InCh l os
theorem OkA.nil (l : List Item) : OkA l [] := ⟨List.nodup_nil, fun _ h => by cases h⟩
theorem OkA.len {l : List Item} {os : List Int} (h : OkA l os) : os.length ≤ l.length := nodup_len _ _ h.nd h.rng
theorem OkA.snoc {l : List Item} {os : List Int} (h : OkA l os) {b : Nat} (hb : b < l.length) (hn : ¬ (b : Int) ∈ os) : OkA l (os ++ [(b : Int)]) := by
  refine ⟨?_, ?_⟩
  · rw [List.nodup_append]
    refine ⟨h.nd, by simp, ?_⟩
    intro a ha c hc he
    simp at hc
    subst hc; subst he
    exact hn ha
  · intro i hi
    rcases List.mem_append.1 hi with hi | hi
    · exact h.rng i hi
    · simp at hi; subst hi; omega
theorem OkA.pick {l : List Item} {os : List Int} (h : OkA l os) {b : Nat} (hb : pickA l os = some b) : OkA l (os ++ [(b : Int)]) := h.snoc (pickA_lt hb) (pickA_new hb)
/-- Once the fuel is at least the room left, more fuel says nothing new. -/
theorem chainA_stop {l : List Item} {os : List Int} (h : pickA l os = none) (f : Nat) : chainA l f os = os := by
  cases f with
  | zero => rfl
  | succ f => rw [chainA, h]
theorem chainA_step {l : List Item} {os : List Int} {b : Nat} (ho : OkA l os) (h : pickA l os = some b) : chainA l (l.length - os.length) os = chainA l (l.length - (os ++ [(b : Int)]).length) (os ++ [(b : Int)]) := by
  have h1 := (ho.pick h).len
  simp only [List.length_append, List.length_singleton] at h1 ⊢
  obtain ⟨f, hf⟩ : ∃ f, l.length - os.length = f + 1 := ⟨l.length - os.length - 1, by omega⟩
  have hf2 : l.length - (os.length + 1) = f := by omega
  rw [hf, hf2, chainA, h]
theorem restA_ok {l : List Item} {os : List Int} (h : OkA l os) : ∀ {k : Nat}, k ≤ l.length → OkA l (restA os k)
  | 0, _ => h
  | k + 1, hk => by
    have h1 := restA_ok h (k := k) (by omega)
    rw [restA]
    split
    · exact h1
    · rename_i hc
      exact h1.snoc (by omega) (by simpa using hc)
/-- What was left out of the first part is left out until its turn. -/
theorem restA_mem {os : List Int} : ∀ {k : Nat} {j : Nat}, k ≤ j → ((restA os k).contains (j : Int) = os.contains (j : Int))
  | 0, _, _ => rfl
  | k + 1, j, hj => by
    have h1 := restA_mem (os := os) (k := k) (j := j) (by omega)
    rw [restA]
    split
    · exact h1
    · rw [Bool.eq_iff_iff] at h1 ⊢
      simp only [List.contains_iff_mem, List.mem_append, List.mem_singleton] at h1 ⊢
      rw [h1]
      constructor
      · rintro (h | h)
        · exact h
        · omega
      · exact .inl
theorem chainA_ok {l : List Item} : ∀ (f : Nat) {os : List Int}, OkA l os → OkA l (chainA l f os)
  | 0, _, h => h
  | f + 1, os, h => by
    rw [chainA]
    cases hp : pickA l os with
    | none => exact h
    | some b => exact chainA_ok f (h.pick hp)
theorem orderA_ok (l : List Item) : OkA l (orderA l) := restA_ok (chainA_ok _ (OkA.nil l)) (Nat.le_refl _)
/-- How large the numbers compared may be. -/
theorem frA_bd (l : List Item) (os : List Int) (i : Int) : 0 ≤ frA l os i ∧ frA l os i ≤ 256 := by
  have h1 := cnt_le (fun n => killedP l os n || inL (itemAt l i).kills n) 256
  have h2 := cnt_mono (P := killedP l os) (Q := fun n => killedP l os n || inL (itemAt l i).kills n) (fun n h => by simp [h]) 256
  unfold frA freshN
  omega
end Go.Avl
namespace Go.Avl
open Go Go.Proofs.Tryd
set_option maxRecDepth 10000
set_option linter.unusedSimpArgs false

/-- Which items are in the order already. -/
def seenL (l : List Item) (os : List Int) : List (List AV) := (List.range l.length).map fun i : Nat => [.sc (.bool (os.contains (i : Int)))]
theorem seenL_len (l : List Item) (os : List Int) : (seenL l os).length = l.length := by simp [seenL]
theorem seenL_get {l : List Item} {i : Nat} (os : List Int) (h : i < l.length) : (seenL l os)[i]? = some [.sc (.bool (os.contains (i : Int)))] := by
  rw [seenL, List.getElem?_map, List.getElem?_range h]; rfl
@[go_sem] theorem norefs_seenL (l : List Item) (os : List Int) : (seenL l os).all AV.norefs = true := by simp [seenL, List.all_eq_true, AV.norefs, AV.noref]
theorem seenL_nil (l : List Item) : List.replicate l.length [AV.sc (.bool false)] = seenL l [] := by
  refine List.ext_getElem (by simp [seenL]) fun i h1 h2 => ?_
  simp [seenL]
theorem seenL_set (l : List Item) (os : List Int) (b : Nat) : (seenL l os).set b [.sc (.bool true)] = seenL l (os ++ [(b : Int)]) := by
  refine List.ext_getElem (by simp [seenL]) fun i h1 h2 => ?_
  rw [List.getElem_set]
  simp only [seenL, List.getElem_map, List.getElem_range]
  by_cases h : b = i
  · subst h; simp
  · have : ¬ (i : Int) = b := by omega
    rw [if_neg h, show (os ++ [(b : Int)]).contains (i : Int) = os.contains (i : Int) by simp [this]]
theorem setC_nil (l : List Item) : [AV.sc (.int .u64 0), .sc (.int .u64 0), .sc (.int .u64 0), .sc (.int .u64 0)] = setC (killedP l []) := inL_nil.symm
theorem setC_acell (P : Nat → Bool) (m : Mem) : ∀ x ∈ setC P, acell m x = true := by
  have h : (setC P).all (acell m) = true := rfl
  exact List.all_eq_true.1 h
/-- Numbers with room behind them. -/
def roomI (n : Nat) (os : List Int) : List (List AV) := roomL n [.sc (.int .i64 0)] (os.map intC)
theorem roomI_len {n : Nat} {os : List Int} (h : os.length ≤ n) : (roomI n os).length = n := roomL_len (by simpa using h)
theorem roomI_nil (n : Nat) : List.replicate n [AV.sc (.int .i64 0)] = roomI n [] := (roomL_nil n _).symm
theorem roomI_app {n : Nat} {os : List Int} (b : Int) (h : os.length < n) : (roomI n os).take os.length ++ [.sc (.int .i64 b)] :: (roomI n os).drop (os.length + 1) = roomI n (os ++ [b]) := by
  have := roomL_app (z := [AV.sc (.int .i64 0)]) (xs := os.map intC) (intC b) (m := n) (by simpa using h)
  rw [List.length_map] at this
  simpa [roomI, intC] using this
theorem roomI_full {n : Nat} {os : List Int} (h : os.length = n) : roomI n os = os.map intC := roomL_full (by simpa using h)
@[go_sem] theorem norefs_roomI (n : Nat) (os : List Int) : (roomI n os).all AV.norefs = true := roomL_norefs rfl (norefs_ints os)
/-- Every item is in the order. -/
theorem restA_all {os : List Int} : ∀ {k j : Nat}, j < k → (j : Int) ∈ restA os k
  | 0, _, h => by omega
  | k + 1, j, h => by
    rw [restA]
    by_cases hj : j < k
    · have := restA_all (os := os) hj
      split
      · exact this
      · exact List.mem_append_left _ this
    · obtain rfl : j = k := by omega
      split
      · rename_i hc; simpa using hc
      · simp
theorem orderA_len (l : List Item) : (orderA l).length = l.length := by
  refine Nat.le_antisymm (orderA_ok l).len ?_
  have h := sub_len ((List.range l.length)) ((orderA l).map Int.toNat) List.nodup_range fun j hj => by
    rw [List.mem_map]
    exact ⟨(j : Int), restA_all (List.mem_range.1 hj), by simp⟩
  simpa using h
/-- What plans.Order answers. -/
def orderR (l : List Item) : AV := if checkI l = 0 then .tu [.sl false ((orderA l).map intC) .full, .sc (.int .i64 0)] else .tu [.sl true [] .unk, .sc (.int .i64 (checkI l))]
theorem killBad_ok : ∀ {p : Option Int} {ks : List Int}, killBad p ks = false → ∀ n ∈ ks, 0 ≤ n ∧ n < 256
  | _, [], _, _, h => by cases h
  | p, m :: r, h, n, hn => by
    simp only [killBad, Bool.or_eq_false_iff] at h
    rcases List.mem_cons.1 hn with rfl | hn
    · have h1 := of_decide_eq_false h.1.1.1
      have h2 := of_decide_eq_false h.1.1.2
      omega
    · exact killBad_ok h.2 n hn
theorem checkI_sound {l : List Item} (h : checkI l = 0) : l.length ≤ 256 ∧ ∀ x ∈ l, (1 ≤ x.cost ∧ x.cost ≤ 1000000) ∧ ∀ n ∈ x.kills, 0 ≤ n ∧ n < 256 := by
  unfold checkI at h
  split at h
  · cases h
  · rename_i h1
    split at h
    · cases h
    · rename_i h2
      refine ⟨by omega, fun x hx => ?_⟩
      have hb : itemBad x = false := by
        cases hb : itemBad x with
        | false => rfl
        | true => exact absurd (List.any_eq_true.2 ⟨x, hx, hb⟩) h2
      rw [itemBad, Bool.or_eq_false_iff, costBad, Bool.or_eq_false_iff] at hb
      have h3 := of_decide_eq_false hb.1.1
      have h4 := of_decide_eq_false hb.1.2
      exact ⟨by omega, killBad_ok hb.2⟩
theorem orderR_noref (l : List Item) : (orderR l).noref = true := by unfold orderR; split <;> simp [AV.noref, AV.norefs]
set_option maxHeartbeats 4000000 in
theorem order_is (nl : Bool) (l : List Item) (c : Cp) (hk : ∀ x ∈ l, x.kills.length < 1000000) (hll : l.length < 1000000) :
    PureIs prog 15 [.sl nl (l.map itemC) c] (orderR l) := by
  refine PureIs.of (nv := 14) (hid := [17, 21, 27, 28, 29, 63, 68, 85, 86, 87, 93]) func15 rfl (by kernel_rfl) (by simp [ntmps15]) fun _ => ?_
  rw [ntmps15, results15]
  refine EvC.seq (EvC.rg (by (simp only [go_sem]) <;> rfl) (by simp) ?_)
  refine EvC.frzB 0 (by (simp only [go_sem]) <;> rfl) ?_
  refine EvC.seq ?_
  apply EvC.seq
  apply EvC.tr
  · apply Tr.run
    · (simp only [go_sem]) <;> rfl
    · simp
    apply Tr.cons
    · exact .call rfl rfl (by (simp only [go_sem]) <;> rfl) (by (simp only [go_sem]) <;> rfl) (by (simp only [go_sem]) <;> rfl) (by (simp only [go_sem]) <;> rfl) (by (simp only [go_sem]) <;> rfl) (check_items_is nl l c hk)
    apply Tr.done
    · (simp only [go_sem]) <;> rfl
    · simp
  refine EvC.seq (EvC.rg (by (simp only [go_sem]) <;> rfl) (by simp) ?_)
  refine EvC.cond (by (simp only [go_sem]) <;> rfl) (fun hc => ?_) (fun hc => ?_)
  · -- then
    have hc' : ¬ checkI l = 0 := by simpa using hc
    refine EvC.seq (EvC.rg (by (simp only [go_sem]) <;> rfl) (by simp) ?_)
    refine EvC.ret ⟨.inl rfl, _, (by (simp only [go_sem]) <;> rfl), ?_, orderR_noref l⟩
    simp only [go_sem]
    rw [orderR, if_neg hc']
  have hc' : checkI l = 0 := by simpa using hc
  clear hc
  refine EvC.skip ?_
  refine EvC.seq (EvC.rg (by (simp only [go_sem]) <;> rfl) (by simp) ?_)
  have hr1 : room l.length 8 = true := by simp only [room_eq, decide_eq_true_eq]; omega
  have hr2 : room l.length 1 = true := by simp only [room_eq, decide_eq_true_eq]; omega
  refine EvC.seq (EvC.rg (by (simp only [go_sem, List.length_map]) <;> rfl) (by simp [hr1, hr2]; try omega) ?_)
  refine EvC.seq (EvC.rg (by (simp only [go_sem, List.length_map]) <;> rfl) (by simp [hr1, hr2]; try omega) ?_)
  refine EvC.seq (EvC.rg (by (simp only [go_sem]) <;> rfl) (by simp) ?_)
  refine EvC.seq ?_
  refine EvC.block ?_  -- 0
  refine EvC.loopS (σ := List Int) (fun os => ⟨[(1, .ia [.sl nl (l.map itemC) c]), (5, .rf 0 0), (6, .tv 1 l.length 0 os.length (.val l.length)), (7, .tl 2 l.length false), (8, .fn 42 [.rf 0 0, .ia [.sl nl (l.map itemC) c]])], [], [(0, .cells (setC (killedP l os))), (1, .arr 1 (roomI l.length os) false), (2, .arr 1 (seenL l os) false)], 3⟩) (fun os => l.length - os.length) (fun os => OkA l os ∧ orderA l = restA (chainA l (l.length - os.length) os) l.length) [1, 5, 6, 7, 8] 3 ?_ ?_
  · exact ⟨[(8, 0), (11, 1), (15, 2)], [], rfl, (by rw [seenL_nil, setC_nil l, roomI_nil]; (simp only [go_sem, List.length_nil]) <;> rfl), OkA.nil l, rfl⟩
  rintro os ⟨ho, hinv⟩
  have hol := ho.len
  refine EvC.block ?_  -- 1
  refine EvC.seq (EvC.rg (by (simp only [go_sem]) <;> rfl) (by simp) ?_)
  refine EvC.seq ?_
  refine EvC.seq (EvC.rg (by (simp only [go_sem, List.length_map]) <;> rfl) (by simp) ?_)
  refine EvC.block ?_  -- 2
  refine EvC.loopS (σ := Nat) (fun k => ⟨[(1, .ia [.sl nl (l.map itemC) c]), (5, .rf 0 0), (6, .tv 1 l.length 0 os.length (.val l.length)), (7, .tl 2 l.length false), (8, .fn 42 [.rf 0 0, .ia [.sl nl (l.map itemC) c]]), (9, .sc (.int .i64 (bestI (pickK l os k)))), (10, .sc (.int .i64 (mostI l os (pickK l os k)))), (27, .sc (.int .i64 l.length)), (28, .sc (.int .i64 k))], [], [(0, .cells (setC (killedP l os))), (1, .arr 1 (roomI l.length os) false), (2, .arr 1 (seenL l os) false)], 3⟩) (fun k => l.length - k) (fun k => k ≤ l.length) [1, 5, 6, 7, 8, 9, 10, 27, 28] 3 ?_ ?_
  · exact ⟨[(0, 0), (1, 1), (2, 2)], 0, rfl, (by (simp only [go_sem, Int.natCast_zero, pickK, bestI, mostI]) <;> rfl), Nat.zero_le _⟩
  intro k hk1
  refine EvC.seq (EvC.rg (by (simp only [go_sem]) <;> rfl) (by simp) ?_)
  refine EvC.seq ?_
  refine EvC.cond (by (simp only [go_sem]) <;> rfl) (fun hc => ?_) (fun hc => ?_)
  rotate_left
  · -- else
    refine EvC.exit ?_  -- 2
    obtain rfl : l.length = k := by have : ¬ k < l.length := by simpa using hc
                                    omega
    clear hc
    refine EvC.seq ?_
    cases hp : pickA l os with
    | none =>
      have hp' : pickK l os l.length = none := hp
      rw [hp']
      simp only [bestI, mostI]
      refine EvC.seq (EvC.rg (by (simp only [go_sem]) <;> rfl) (by simp) ?_)
      refine EvC.cond (by (simp only [go_sem]) <;> rfl) (fun hc => ?_) (fun hc => ?_)
      rotate_left
      · simp at hc
      clear hc
      refine EvC.exit ?_  -- 0
      rw [chainA_stop hp] at hinv
      refine EvC.seq ?_
      refine EvC.seq (EvC.rg (by (simp only [go_sem, List.length_map]) <;> rfl) (by simp) ?_)
      refine EvC.block ?_  -- 4
      refine EvC.loopS (σ := Nat) (fun i => ⟨[(6, .tv 0 l.length 0 (restA os i).length (.val l.length)), (7, .tl 1 l.length false), (85, .sc (.int .i64 l.length)), (86, .sc (.int .i64 i))], [], [(0, .arr 1 (roomI l.length (restA os i)) false), (1, .arr 1 (seenL l os) false)], 2⟩) (fun i => l.length - i) (fun i => i ≤ l.length) [6, 7, 85, 86] 2 ?_ ?_
      · exact ⟨[(1, 0), (2, 1)], 0, rfl, (by (simp only [go_sem, Int.natCast_zero, restA]) <;> rfl), Nat.zero_le _⟩
      intro i hi
      have hok := restA_ok ho hi
      have hml := hok.len
      refine EvC.seq (EvC.rg (by (simp only [go_sem]) <;> rfl) (by simp) ?_)
      refine EvC.seq ?_
      refine EvC.cond (by (simp only [go_sem]) <;> rfl) (fun hc => ?_) (fun hc => ?_)
      rotate_left
      · -- else
        refine EvC.exit ?_  -- 4
        obtain rfl : l.length = i := by have : ¬ i < l.length := by simpa using hc
                                        omega
        rw [← hinv]
        rw [roomI_full (orderA_len l), orderA_len l]
        refine EvC.frz 0 (by (simp only [go_sem]) <;> rfl) ?_
        refine EvC.seq (EvC.rg (by (simp only [go_sem, List.length_map, orderA_len l]) <;> rfl) (by simp) ?_)
        refine EvC.ret ⟨.inl rfl, _, (by (simp only [go_sem, List.length_map, orderA_len l]) <;> rfl), ?_, orderR_noref l⟩
        simp only [go_sem, List.length_map, orderA_len l]
        rw [orderR, if_pos hc']
      have hil : i < l.length := by simpa using hc
      clear hc
      have hmm := restA_mem (os := os) (Nat.le_refl i)
      have hs1 : restA os (i + 1) = if (restA os i).contains (i : Int) then restA os i else restA os i ++ [(i : Int)] := rfl
      rw [hmm] at hs1
      have hsg := seenL_get os hil
      have hsl := seenL_len l os
      have hin : (i : Int).toNat = i := Int.toNat_natCast i
      generalize restA os i = T at *
      refine EvC.skip ?_
      refine EvC.seq ?_
      refine EvC.block ?_  -- 5
      refine EvC.seq (EvC.rg (by (simp only [go_sem]) <;> rfl) (by simp) ?_)
      refine EvC.seq (EvC.rg (by (simp only [go_sem, hsg, hsl, hin]) <;> rfl) (by simp; try omega) ?_)
      refine EvC.cond (by (simp only [go_sem]) <;> rfl) (fun hc => ?_) (fun hc => ?_)
      · -- then
        have hq : restA os (i + 1) = T ++ [(i : Int)] := by rw [hs1, if_neg]; simpa using hc
        have hsn : T.map intC ++ [[.sc (.int .i64 (i : Int))]] = (T ++ [(i : Int)]).map intC := by simp [intC]
        have hsl2 : T.length + 1 = (T ++ [(i : Int)]).length := by simp
        have hr2 : room (T.length + 1) 8 = true := by simp only [room_eq, decide_eq_true_eq]; omega
        have hml2 : T.length < l.length := by
          have h1 := (hok.snoc hil (by rw [← List.contains_iff_mem, hmm]; simpa using hc)).len
          simp only [List.length_append, List.length_singleton] at h1; omega
        have hap := roomI_app (n := l.length) (i : Int) hml2
        have hrl := roomI_len (n := l.length) (Nat.le_of_lt hml2)
        rw [hsl2] at hr2 hap
        have hle2 : (T ++ [(i : Int)]).length ≤ l.length := by rw [← hsl2]; omega
        generalize T ++ [(i : Int)] = L at hsn hsl2 hq hr2 hap hle2
        refine EvC.rg (by (simp only [go_sem, hsn, hsl2, hap, hrl]) <;> rfl) (by simp [hr2, hle2, hrl]) ?_
        refine EvC.rg (by (simp only [go_sem]) <;> rfl) (by exact inI64_of (by omega) (by omega)) ?_
        exact ⟨[(0, 0), (1, 1)], i + 1, rfl, (by rw [hq]; (simp only [go_sem, Int.natCast_add, Int.natCast_one]) <;> rfl), hil, by omega⟩
      have hq : restA os (i + 1) = T := by rw [hs1, if_pos]; simpa using hc
      refine EvC.skip ?_
      refine EvC.rg (by (simp only [go_sem]) <;> rfl) (by exact inI64_of (by omega) (by omega)) ?_
      exact ⟨[(0, 0), (1, 1)], i + 1, rfl, (by rw [hq]; (simp only [go_sem, Int.natCast_add, Int.natCast_one]) <;> rfl), hil, by omega⟩
    | some b =>
      have hp' : pickK l os l.length = some b := hp
      rw [hp']
      have hbl := pickA_lt hp
      have hst := chainA_step ho hp
      have hok := ho.pick hp
      have hol' := hok.len
      have hkp := killedP_snoc l os b
      have hxb : l[b]? = some (itemAt l (b : Int)) := itemAt_get (i := (b : Int)) ⟨by omega, by omega⟩
      have hxd := (checkI_sound hc').2 _ (List.mem_of_getElem? hxb)
      have hkl := hk _ (List.mem_of_getElem? hxb)
      have hbn : (b : Int).toNat = b := Int.toNat_natCast b
      have hss := seenL_set l os b
      have hsl := seenL_len l os
      have hsg := seenL_get os hbl
      simp only [bestI, mostI]
      refine EvC.seq (EvC.rg (by (simp only [go_sem]) <;> rfl) (by simp) ?_)
      refine EvC.cond (by (simp only [go_sem]) <;> rfl) (fun hc => ?_) (fun hc => ?_)
      · have : (b : Int) = -1 := by simpa using hc
        omega
      clear hc
      refine EvC.skip ?_
      have hsn : os.map intC ++ [[.sc (.int .i64 (b : Int))]] = (os ++ [(b : Int)]).map intC := by simp [intC]
      have hsl2 : os.length + 1 = (os ++ [(b : Int)]).length := by simp
      have hr2 : room (os.length + 1) 8 = true := by simp only [room_eq, decide_eq_true_eq]; omega
      rw [hst] at hinv
      have hml2 : os.length < l.length := by omega
      have hap := roomI_app (n := l.length) (b : Int) hml2
      have hrl := roomI_len (n := l.length) (Nat.le_of_lt hml2)
      rw [hsl2] at hr2 hap
      have o := of_is (itemAt l (b : Int)).nl (itemAt l (b : Int)).kills .unk hkl hxd.2
      have w := with_is (killedP l os) (inL (itemAt l (b : Int)).kills)
      generalize itemAt l (b : Int) = x at hxb hkp o w
      apply EvC.seq  -- R17
      apply EvC.drw mixed
      · apply Tr.run
        · (simp only [go_sem, hxb, itemC, List.length_map, hbn, setC_take]) <;> rfl
        · simp [setC_len]; try omega
        apply Tr.cons
        · exact .call rfl rfl (by (simp only [go_sem]) <;> rfl) (by (simp only [go_sem]) <;> rfl) (by (simp only [go_sem]) <;> rfl) (by (simp only [go_sem]) <;> rfl) (by (simp only [go_sem]) <;> rfl) o
        apply Tr.cons
        · exact .call rfl rfl (by (simp only [go_sem]) <;> rfl) (by (simp only [go_sem]) <;> rfl) (by (simp only [go_sem]) <;> rfl) (by (simp only [go_sem]) <;> rfl) (by (simp only [go_sem]) <;> rfl) w
        apply Tr.done
        · (simp only [go_sem, setC_len]) <;> rfl
        · simp [setC_len]
          try exact setC_acell _ _
      · exact confAll_slots (by simp [rdOk, slotsOf, opSlots, memless, Op.operands, Call.operands, setC_idss, odds]) (by kernel_rfl)
      rw [← hkp]
      generalize os ++ [(b : Int)] = L at hsn hsl2 hinv hok hol' hr2 hss hap
      refine EvC.seq (EvC.rg (by (simp only [go_sem, hsn, hsl2, hap, hrl]) <;> rfl) (by simp [hr2, hol', hrl]) ?_)
      refine EvC.rg (by (simp only [go_sem, hbn, hsg, hsl, hss]) <;> rfl) (by simp [hsl]; try omega) ?_
      exact ⟨[(0, 0), (1, 1), (2, 2)], L, rfl, (by (simp only [go_sem]) <;> rfl), ⟨hok, hinv⟩, by omega⟩
  have hkl : k < l.length := by simpa using hc
  clear hc
  have hxk : l[k]? = some (itemAt l (k : Int)) := itemAt_get (i := (k : Int)) ⟨by omega, by omega⟩
  have hxc := (checkI_sound hc').2 _ (List.mem_of_getElem? hxk)
  refine EvC.skip ?_
  refine EvC.seq ?_
  refine EvC.block ?_  -- 3
  refine EvC.seq (EvC.rg (by (simp only [go_sem]) <;> rfl) (by simp) ?_)
  apply EvC.seq  -- R12
  apply EvC.region
  apply XR.run
  · (simp only [go_sem]) <;> rfl
  · simp
  apply XR.callI rfl rfl (by (simp only [go_sem]) <;> rfl) (by (simp only [go_sem]) <;> rfl) (by (simp only [go_sem]) <;> rfl)
  refine order1_body nl l c k (itemAt l (k : Int)) (killedP l os) 0 _ _ hxk hxc.2 (hk _ (List.mem_of_getElem? hxk)) (by rfl) ?_
  apply XR.done
  · (simp only [go_sem]) <;> rfl
  · simp
  obtain ⟨F, hF⟩ : ∃ F, F = frA l os k := ⟨_, rfl⟩
  have hfb := frA_bd l os k
  rw [← hF] at hfb
  rw [show freshN (killedP l os) (itemAt l (k : Int)).kills = F from hF.symm]
  have hps : pickK l os (k + 1) = if (!os.contains (k : Int) && (decide (0 < F) && ahead l os (pickK l os k) k)) = true then some k else pickK l os k := by
    rw [hF]; rfl
  have hsg := seenL_get os hkl
  have hsl := seenL_len l os
  have hkn : (k : Int).toNat = k := Int.toNat_natCast k
  obtain ⟨hxc, -⟩ := hxc
  cases hp : pickK l os k with
  | none =>
    rw [hp] at hps
    simp only [ahead, Bool.and_true] at hps
    simp only [bestI, mostI]
    have hx0 : l[0]? = some (l[0]'(by omega)) := List.getElem?_eq_getElem (by omega)
    generalize l[0]'(by omega) = z at hx0
    generalize itemAt l (k : Int) = x at hxk hxc
    apply EvC.seq
    apply EvC.drd mixed
    · (simp only [go_sem, hx0, hxk, itemC, List.length_map, hsg, hsl]) <;> rfl
    · simp; try omega
    · kernel_rfl
    refine EvC.cond (by (simp only [go_sem]) <;> rfl) (fun hc => ?_) (fun hc => ?_)
    · -- then
      have hq : pickK l os (k + 1) = some k := by rw [hps, if_pos]; simpa using hc
      refine EvC.rg (by (simp only [go_sem]) <;> rfl) (by simp) ?_
      refine EvC.rg (by (simp only [go_sem]) <;> rfl) (by exact inI64_of (by omega) (by omega)) ?_
      exact ⟨[(0, 0), (1, 1), (2, 2)], k + 1, rfl, (by rw [hq]; (simp only [go_sem, bestI, mostI, ← hF, Int.natCast_add, Int.natCast_one]) <;> rfl), hkl, by omega⟩
    have hq : pickK l os (k + 1) = none := by rw [hps, if_neg]; simpa using hc
    refine EvC.skip ?_
    refine EvC.rg (by (simp only [go_sem]) <;> rfl) (by exact inI64_of (by omega) (by omega)) ?_
    exact ⟨[(0, 0), (1, 1), (2, 2)], k + 1, rfl, (by rw [hq]; (simp only [go_sem, bestI, mostI, Int.natCast_add, Int.natCast_one]) <;> rfl), hkl, by omega⟩
  | some b =>
    rw [hp] at hps
    simp only [ahead, ← hF] at hps
    have hbk := pickK_lt hp
    have hxb : l[b]? = some (itemAt l (b : Int)) := itemAt_get (i := (b : Int)) ⟨by omega, by omega⟩
    have hxd := ((checkI_sound hc').2 _ (List.mem_of_getElem? hxb)).1
    have hfd := frA_bd l os b
    simp only [bestI, mostI]
    generalize hB : frA l os b = B at hps hfd
    generalize itemAt l (b : Int) = y at hxb hxd hps
    generalize itemAt l (k : Int) = x at hxk hxc hps
    have hm1 : inI64 (F * y.cost) = true := inI64_of (by have := Int.mul_nonneg hfb.1 (show 0 ≤ y.cost by omega); omega) (by have := Int.mul_le_mul hfb.2 hxd.2 (by omega) (by omega); omega)
    have hm2 : inI64 (B * x.cost) = true := inI64_of (by have := Int.mul_nonneg hfd.1 (show 0 ≤ x.cost by omega); omega) (by have := Int.mul_le_mul hfd.2 hxc.2 (by omega) (by omega); omega)
    have hb0 : decide ((b : Int) = -1) = false := decide_eq_false (by omega)
    have hbn : (b : Int).toNat = b := Int.toNat_natCast b
    apply EvC.seq
    apply EvC.drd mixed
    · (simp only [go_sem, hxb, hxk, itemC, List.length_map, hb0, hbn, hsg, hsl]) <;> rfl
    · simp [hm1, hm2]; try omega
    · kernel_rfl
    refine EvC.cond (by (simp only [go_sem]) <;> rfl) (fun hc => ?_) (fun hc => ?_)
    · -- then
      have hq : pickK l os (k + 1) = some k := by rw [hps, if_pos]; simpa [and_assoc] using hc
      refine EvC.rg (by (simp only [go_sem]) <;> rfl) (by simp) ?_
      refine EvC.rg (by (simp only [go_sem]) <;> rfl) (by exact inI64_of (by omega) (by omega)) ?_
      exact ⟨[(0, 0), (1, 1), (2, 2)], k + 1, rfl, (by rw [hq]; (simp only [go_sem, bestI, mostI, ← hF, Int.natCast_add, Int.natCast_one]) <;> rfl), hkl, by omega⟩
    have hq : pickK l os (k + 1) = some b := by rw [hps, if_neg]; simpa using hc
    refine EvC.skip ?_
    refine EvC.rg (by (simp only [go_sem]) <;> rfl) (by exact inI64_of (by omega) (by omega)) ?_
    exact ⟨[(0, 0), (1, 1), (2, 2)], k + 1, rfl, (by rw [hq]; (simp only [go_sem, bestI, mostI, hB, Int.natCast_add, Int.natCast_one]) <;> rfl), hkl, by omega⟩
end Go.Avl
namespace Go.Avl
open Go Go.Proofs.Tryd
set_option maxRecDepth 10000
set_option linter.unusedSimpArgs false

/-! ### Choices -/
def chBad (n : Nat) (pre : List Int) (x : Int) : Bool := decide (x < 0) || (decide ((n : Int) ≤ x) || pre.contains x)
def chFrom (n : Nat) : List Int → List Int → Bool
  | _, [] => true
  | pre, x :: r => !chBad n pre x && chFrom n (pre ++ [x]) r
def choiceB (l : List Item) (ch : List Int) : Bool := chFrom l.length [] ch
theorem chFrom_step {n : Nat} {ch : List Int} {i : Nat} {x : Int} (h : ch[i]? = some x) : chFrom n (ch.take i) (ch.drop i) = (!chBad n (ch.take i) x && chFrom n (ch.take (i + 1)) (ch.drop (i + 1))) := by
  obtain ⟨hi, he⟩ := List.getElem?_eq_some_iff.1 h
  rw [List.drop_eq_getElem_cons hi, he, List.take_succ_eq_append_getElem hi, he]
  rfl
theorem chFrom_end {n : Nat} {ch : List Int} : chFrom n (ch.take ch.length) (ch.drop ch.length) = true := by rw [List.drop_length]; rfl
theorem chFrom_ok {l : List Item} : ∀ {r pre : List Int}, OkA l pre → (chFrom l.length pre r = true ↔ OkA l (pre ++ r))
  | [], pre, h => by simpa [chFrom] using h
  | x :: r, pre, h => by
    rw [chFrom]
    constructor
    · intro hc
      rw [Bool.and_eq_true] at hc
      obtain ⟨h1, h2⟩ := hc
      simp only [chBad, Bool.not_eq_true', Bool.or_eq_false_iff, decide_eq_false_iff_not] at h1
      obtain ⟨a1, a2, a3⟩ := h1
      obtain ⟨k, rfl⟩ : ∃ k : Nat, x = k := ⟨x.toNat, by omega⟩
      have := (chFrom_ok (h.snoc (b := k) (by omega) (by simpa using a3))).1 h2
      simpa using this
    · intro ho
      have h0 := ho.rng x (by simp)
      have hd : ¬ x ∈ pre := by
        have := ho.nd
        rw [List.nodup_append] at this
        intro hx
        exact this.2.2 x hx x List.mem_cons_self rfl
      obtain ⟨k, rfl⟩ : ∃ k : Nat, x = k := ⟨x.toNat, by omega⟩
      have h2 := (chFrom_ok (r := r) (h.snoc (b := k) (by omega) hd)).2 (by simpa using ho)
      rw [h2, Bool.and_true, chBad]
      simp only [Bool.not_eq_true', Bool.or_eq_false_iff, decide_eq_false_iff_not]
      exact ⟨by omega, by omega, by simpa using hd⟩
theorem choiceB_ok {l : List Item} {ch : List Int} : choiceB l ch = true ↔ OkA l ch := by
  have := chFrom_ok (r := ch) (OkA.nil l)
  simpa [choiceB] using this

set_option maxHeartbeats 1000000 in
theorem choice31_is (nl : Bool) (l : List Item) (c : Cp) (cn : Bool) (ch : List Int) (cc : Cp) (hcl : ch.length < 1000000) :
    PureIs prog 31 [.sl nl (l.map itemC) c, .sl cn (ch.map intC) cc] (.sc (.bool (choiceB l ch))) := by
  refine PureIs.of (nv := 2) (hid := [4, 5, 9, 35]) func31 rfl (by kernel_rfl) (by simp [ntmps31]) fun _ => ?_
  rw [ntmps31, results31]
  refine EvC.seq (EvC.rg (by (simp only [go_sem]) <;> rfl) (by simp) ?_)
  refine EvC.seq ?_
  refine EvC.seq (EvC.rg (by (simp only [go_sem]) <;> rfl) (by simp) ?_)
  refine EvC.block ?_  -- 0
  refine EvC.loopS (σ := Nat) (fun i => ⟨[(0, .sl nl (l.map itemC) c), (1, .sl cn (ch.map intC) cc), (5, .sc (.int .i64 i))], [], [], 0⟩) (fun i => ch.length - i) (fun i => i ≤ ch.length ∧ choiceB l ch = chFrom l.length (ch.take i) (ch.drop i)) [0, 1, 5] 0 ?_ ?_
  · exact ⟨[], 0, rfl, (by (simp only [go_sem, Int.natCast_zero]) <;> rfl), Nat.zero_le _, rfl⟩
  rintro i ⟨hi, hinv⟩
  refine EvC.seq ?_
  refine EvC.seq (EvC.rg (by (simp only [go_sem, List.length_map]) <;> rfl) (by simp) ?_)
  refine EvC.cond (by (simp only [go_sem]) <;> rfl) (fun hc => ?_) (fun hc => ?_)
  rotate_left
  · -- else
    refine EvC.exit ?_  -- 0
    obtain rfl : ch.length = i := by have : ¬ i < ch.length := by simpa using hc
                                     omega
    rw [chFrom_end] at hinv
    rw [hinv]
    refine EvC.seq (EvC.rg (by (simp only [go_sem]) <;> rfl) (by simp) ?_)
    refine EvC.ret ⟨.inl rfl, _, (by (simp only [go_sem]) <;> rfl), ?_, rfl⟩
    simp only [go_sem]
  have hil : i < ch.length := by simpa using hc
  clear hc
  have he : ch[i]? = some (ch[i]'hil) := List.getElem?_eq_getElem hil
  generalize ch[i]'hil = x at he
  rw [chFrom_step he] at hinv
  have hin : (i : Int).toNat = i := Int.toNat_natCast i
  refine EvC.skip ?_
  refine EvC.seq ?_
  refine EvC.block ?_  -- 1
  by_cases h1 : x < 0
  · have d1 : decide (x < 0) = true := decide_eq_true h1
    have hb : chBad l.length (ch.take i) x = true := by rw [chBad, d1]; rfl
    rw [hb] at hinv
    rw [hinv]
    apply EvC.seq
    apply EvC.drw mixed
    · apply Tr.run
      · (simp only [go_sem, he, intC, List.length_map, hin, d1]) <;> rfl
      · simp [intC]; try omega
      apply Tr.cons
      · exact .skipv (.sc (.bool false)) rfl rfl (by (simp only [go_sem]) <;> rfl) (by (simp only [go_sem]) <;> rfl)
      apply Tr.done
      · (simp only [go_sem]) <;> rfl
      · simp
    · kernel_rfl
    refine EvC.cond_true (by (simp only [go_sem]) <;> rfl) ?_
    refine EvC.seq (EvC.rg (by (simp only [go_sem]) <;> rfl) (by simp) ?_)
    refine EvC.ret ⟨.inl rfl, _, (by (simp only [go_sem]) <;> rfl), ?_, rfl⟩
    simp only [go_sem]
  have d1 : decide (x < 0) = false := decide_eq_false h1
  by_cases h2 : (l.length : Int) ≤ x
  · have d2 : decide ((l.length : Int) ≤ x) = true := decide_eq_true h2
    have hb : chBad l.length (ch.take i) x = true := by rw [chBad, d1, d2]; rfl
    rw [hb] at hinv
    rw [hinv]
    apply EvC.seq
    apply EvC.drw mixed
    · apply Tr.run
      · (simp only [go_sem, he, intC, List.length_map, hin, d1, d2]) <;> rfl
      · simp [intC]; try omega
      apply Tr.cons
      · exact .skipv (.sc (.bool false)) rfl rfl (by (simp only [go_sem]) <;> rfl) (by (simp only [go_sem]) <;> rfl)
      apply Tr.done
      · (simp only [go_sem]) <;> rfl
      · simp
    · kernel_rfl
    refine EvC.cond_true (by (simp only [go_sem]) <;> rfl) ?_
    refine EvC.seq (EvC.rg (by (simp only [go_sem]) <;> rfl) (by simp) ?_)
    refine EvC.ret ⟨.inl rfl, _, (by (simp only [go_sem]) <;> rfl), ?_, rfl⟩
    simp only [go_sem]
  have d2 : decide ((l.length : Int) ≤ x) = false := decide_eq_false h2
  have hq := has_is cn (ch.take i) (cutHead cc) x (by rw [List.length_take]; omega)
  have hb : chBad l.length (ch.take i) x = (ch.take i).contains x := by rw [chBad, d1, d2]; rfl
  rw [hb] at hinv
  generalize (ch.take i).contains x = q at hq hinv
  apply EvC.seq
  apply EvC.drw mixed
  · apply Tr.run
    · (simp only [go_sem, he, intC, List.length_map, ← List.map_take, List.drop_zero, hin, d1, d2]) <;> rfl
    · simp [intC]; try omega
    apply Tr.cons
    · exact .callG rfl rfl (by (simp only [go_sem]) <;> rfl) rfl (by (simp only [go_sem]) <;> rfl) (by (simp only [go_sem]) <;> rfl) (by (simp only [go_sem]) <;> rfl) (by (simp only [go_sem]) <;> rfl) (by (simp only [go_sem]) <;> rfl) (hq)
    apply Tr.done
    · (simp only [go_sem]) <;> rfl
    · simp
  · kernel_rfl
  refine EvC.cond (by (simp only [go_sem]) <;> rfl) (fun hc => ?_) (fun hc => ?_)
  · have hc' : q = true := by simpa using hc
    rw [hc'] at hinv
    rw [hinv]
    refine EvC.seq (EvC.rg (by (simp only [go_sem]) <;> rfl) (by simp) ?_)
    refine EvC.ret ⟨.inl rfl, _, (by (simp only [go_sem]) <;> rfl), ?_, rfl⟩
    simp only [go_sem]
  have hc' : q = false := by simpa using hc
  rw [hc'] at hinv
  refine EvC.skip ?_
  refine EvC.rg (by (simp only [go_sem]) <;> rfl) (by exact inI64_of (by omega) (by omega)) ?_
  exact ⟨[], i + 1, rfl, (by (simp only [go_sem, Int.natCast_add, Int.natCast_one]) <;> rfl), ⟨hil, hinv⟩, by omega⟩
end Go.Avl
namespace Go.Avl
open Go Go.Proofs.Tryd
set_option maxRecDepth 10000
set_option linter.unusedSimpArgs false

/-! ### Curves -/
def pairC (p : Int × Int) : List AV := [.sc (.int .i64 p.1), .sc (.int .i64 p.2)]
@[go_sem] theorem norefs_pairs (l : List (Int × Int)) : (l.map pairC).all AV.norefs = true := by simp [List.all_eq_true, pairC, AV.norefs, AV.noref]
theorem list_step {α : Type} {a : List α} {i : Nat} {x : α} (h : a[i]? = some x) : a.drop i = x :: a.drop (i + 1) := by
  obtain ⟨hi, he⟩ := List.getElem?_eq_some_iff.1 h
  rw [List.drop_eq_getElem_cons hi, he]

theorem curves_is (na nb : Bool) (a b : List (Int × Int)) (cb : Cp) (hl : a.length < 1000000) :
    PureIs prog 28 [.sl na (a.map pairC) .full, .sl nb (b.map pairC) cb] (.sc (.bool (decide (a = b)))) := by
  refine PureIs.of (nv := 2) (hid := [4, 5, 17, 21, 32]) func28 rfl (by kernel_rfl) (by simp [ntmps28]) fun _ => ?_
  rw [ntmps28, results28]
  refine EvC.seq (EvC.rg (by (simp only [go_sem]) <;> rfl) (by simp) ?_)
  refine EvC.seq ?_
  by_cases hlen : a.length = b.length
  rotate_left
  · have hd : decide ((a.length : Int) = (b.length : Int)) = false := decide_eq_false (by omega)
    have hab : decide (a = b) = false := decide_eq_false fun h => hlen (by rw [h])
    rw [hab]
    apply EvC.seq
    apply EvC.trd
    · (simp only [go_sem, List.length_map, hd]) <;> rfl
    · simp
    refine EvC.cond_true (by (simp only [go_sem]) <;> rfl) ?_
    refine EvC.seq (EvC.rg (by (simp only [go_sem]) <;> rfl) (by simp) ?_)
    refine EvC.ret ⟨.inl rfl, _, (by (simp only [go_sem]) <;> rfl), ?_, rfl⟩
    simp only [go_sem]
  have hd : decide ((a.length : Int) = (b.length : Int)) = true := decide_eq_true (by omega)
  apply EvC.seq
  apply EvC.trd
  · (simp only [go_sem, List.length_map, hd]) <;> rfl
  · simp
  refine EvC.cond_false (by (simp only [go_sem]) <;> rfl) ?_
  refine EvC.skip ?_
  refine EvC.seq ?_
  refine EvC.seq (EvC.rg (by (simp only [go_sem]) <;> rfl) (by simp) ?_)
  refine EvC.block ?_  -- 0
  refine EvC.loopS (σ := Nat) (fun i => ⟨[(0, .sl na (a.map pairC) .full), (1, .sl nb (b.map pairC) cb), (5, .sc (.int .i64 i))], [], [], 0⟩) (fun i => a.length - i) (fun i => i ≤ a.length ∧ decide (a = b) = decide (a.drop i = b.drop i)) [0, 1, 5] 0 ?_ ?_
  · exact ⟨[], 0, rfl, (by (simp only [go_sem, Int.natCast_zero]) <;> rfl), Nat.zero_le _, rfl⟩
  rintro i ⟨hi, hinv⟩
  refine EvC.seq ?_
  refine EvC.seq (EvC.rg (by (simp only [go_sem, List.length_map]) <;> rfl) (by simp) ?_)
  refine EvC.cond (by (simp only [go_sem]) <;> rfl) (fun hc => ?_) (fun hc => ?_)
  rotate_left
  · -- else
    refine EvC.exit ?_  -- 0
    obtain rfl : a.length = i := by have : ¬ i < a.length := by simpa using hc
                                    omega
    have h0 : decide (a = b) = true := by rw [hinv, List.drop_length, hlen, List.drop_length]; simp
    rw [h0]
    refine EvC.seq (EvC.rg (by (simp only [go_sem]) <;> rfl) (by simp) ?_)
    refine EvC.ret ⟨.inl rfl, _, (by (simp only [go_sem]) <;> rfl), ?_, rfl⟩
    simp only [go_sem]
  have hil : i < a.length := by simpa using hc
  clear hc
  have he : a[i]? = some (a[i]'hil) := List.getElem?_eq_getElem hil
  have hf : b[i]? = some (b[i]'(by omega)) := List.getElem?_eq_getElem (by omega)
  generalize a[i]'hil = x at he
  generalize b[i]'(by omega) = y at hf
  rw [list_step he, list_step hf] at hinv
  obtain ⟨x1, x2⟩ := x
  obtain ⟨y1, y2⟩ := y
  have hin : (i : Int).toNat = i := Int.toNat_natCast i
  refine EvC.skip ?_
  refine EvC.seq ?_
  refine EvC.block ?_  -- 1
  apply EvC.seq
  apply EvC.drd mixed
  · (simp only [go_sem, he, hf, pairC, hin, List.length_map]) <;> rfl
  · simp
  · kernel_rfl
  refine EvC.cond (by (simp only [go_sem]) <;> rfl) (fun hc => ?_) (fun hc => ?_)
  · -- then
    have hc' : decide (a = b) = false := by
      rw [hinv]
      refine decide_eq_false fun h => ?_
      simp only [List.cons.injEq, Prod.mk.injEq] at h
      simp [h.1.1, h.1.2] at hc
    rw [hc']
    refine EvC.seq (EvC.rg (by (simp only [go_sem]) <;> rfl) (by simp) ?_)
    refine EvC.ret ⟨.inl rfl, _, (by (simp only [go_sem]) <;> rfl), ?_, rfl⟩
    simp only [go_sem]
  have hxy : x1 = y1 ∧ x2 = y2 := by simpa using hc
  obtain ⟨rfl, rfl⟩ := hxy
  refine EvC.skip ?_
  refine EvC.rg (by (simp only [go_sem]) <;> rfl) (by exact inI64_of (by omega) (by omega)) ?_
  exact ⟨[], i + 1, rfl, (by (simp only [go_sem, Int.natCast_add, Int.natCast_one]) <;> rfl), ⟨hil, by rw [hinv]; simp⟩, by omega⟩

/-- Lists of items are equal. -/
def Item.Eqv (x y : Item) : Prop := x.cost = y.cost ∧ x.kills = y.kills
instance : DecidableRel Item.Eqv := fun x y => inferInstanceAs (Decidable (x.cost = y.cost ∧ x.kills = y.kills))
def sameI : List Item → List Item → Bool
  | [], [] => true
  | x :: a, y :: b => decide (x.Eqv y) && sameI a b
  | _, _ => false
theorem sameI_len : ∀ {a b : List Item}, sameI a b = true → a.length = b.length
  | [], [], _ => rfl
  | x :: a, y :: b, h => by
    simp only [sameI, Bool.and_eq_true] at h
    simp [sameI_len h.2]
  | [], _ :: _, h => by simp [sameI] at h
  | _ :: _, [], h => by simp [sameI] at h
theorem sameI_refl : ∀ a : List Item, sameI a a = true
  | [] => rfl
  | x :: a => by simp [sameI, Item.Eqv, sameI_refl a]

theorem sameI_is (na nb : Bool) (a b : List Item) (ca cb : Cp) (hl : a.length < 1000000) (hk : ∀ x ∈ a, x.kills.length < 1000000) :
    PureIs prog 22 [.sl na (a.map itemC) ca, .sl nb (b.map itemC) cb] (.sc (.bool (sameI a b))) := by
  refine PureIs.of (nv := 2) (hid := [4, 5, 10, 14, 41]) func22 rfl (by kernel_rfl) (by simp [ntmps22]) fun _ => ?_
  rw [ntmps22, results22]
  refine EvC.seq (EvC.rg (by (simp only [go_sem]) <;> rfl) (by simp) ?_)
  refine EvC.seq ?_
  refine EvC.seq (EvC.rg (by (simp only [go_sem, List.length_map]) <;> rfl) (by simp) ?_)
  by_cases hlen : a.length = b.length
  rotate_left
  · have hd : decide ((a.length : Int) = (b.length : Int)) = false := decide_eq_false (by omega)
    have hab : sameI a b = false := by
      cases h : sameI a b with
      | false => rfl
      | true => exact absurd (sameI_len h) hlen
    rw [hab]
    refine EvC.cond_true (by (simp only [go_sem, hd]) <;> rfl) ?_
    refine EvC.seq (EvC.rg (by (simp only [go_sem]) <;> rfl) (by simp) ?_)
    refine EvC.ret ⟨.inl rfl, _, (by (simp only [go_sem]) <;> rfl), ?_, rfl⟩
    simp only [go_sem]
  have hd : decide ((a.length : Int) = (b.length : Int)) = true := decide_eq_true (by omega)
  refine EvC.cond_false (by (simp only [go_sem, hd]) <;> rfl) ?_
  refine EvC.skip ?_
  refine EvC.seq ?_
  refine EvC.seq (EvC.rg (by (simp only [go_sem]) <;> rfl) (by simp) ?_)
  refine EvC.block ?_  -- 0
  refine EvC.loopS (σ := Nat) (fun i => ⟨[(0, .sl na (a.map itemC) ca), (1, .sl nb (b.map itemC) cb), (5, .sc (.int .i64 i))], [], [], 0⟩) (fun i => a.length - i) (fun i => i ≤ a.length ∧ sameI a b = sameI (a.drop i) (b.drop i)) [0, 1, 5] 0 ?_ ?_
  · exact ⟨[], 0, rfl, (by (simp only [go_sem, Int.natCast_zero]) <;> rfl), Nat.zero_le _, rfl⟩
  rintro i ⟨hi, hinv⟩
  refine EvC.seq ?_
  refine EvC.seq (EvC.rg (by (simp only [go_sem, List.length_map]) <;> rfl) (by simp) ?_)
  refine EvC.cond (by (simp only [go_sem]) <;> rfl) (fun hc => ?_) (fun hc => ?_)
  rotate_left
  · -- else
    refine EvC.exit ?_  -- 0
    obtain rfl : a.length = i := by have : ¬ i < a.length := by simpa using hc
                                    omega
    have h0 : sameI a b = true := by rw [hinv, List.drop_length, hlen, List.drop_length]; rfl
    rw [h0]
    refine EvC.seq (EvC.rg (by (simp only [go_sem]) <;> rfl) (by simp) ?_)
    refine EvC.ret ⟨.inl rfl, _, (by (simp only [go_sem]) <;> rfl), ?_, rfl⟩
    simp only [go_sem]
  have hil : i < a.length := by simpa using hc
  clear hc
  have he : a[i]? = some (a[i]'hil) := List.getElem?_eq_getElem hil
  have hf : b[i]? = some (b[i]'(by omega)) := List.getElem?_eq_getElem (by omega)
  have hx := hk _ (List.getElem_mem hil)
  generalize a[i]'hil = x at he hx
  generalize b[i]'(by omega) = y at hf
  rw [list_step he, list_step hf, sameI] at hinv
  have hin : (i : Int).toNat = i := Int.toNat_natCast i
  refine EvC.skip ?_
  refine EvC.seq ?_
  refine EvC.block ?_  -- 1
  by_cases hcost : x.cost = y.cost
  rotate_left
  · have d1 : decide (x.cost = y.cost) = false := decide_eq_false hcost
    have h0 : decide (x.Eqv y) = false := decide_eq_false fun h => hcost h.1
    rw [h0, Bool.false_and] at hinv
    rw [hinv]
    apply EvC.seq
    apply EvC.drw mixed
    · apply Tr.run
      · (simp only [go_sem, he, hf, itemC, hin, List.length_map, d1]) <;> rfl
      · simp [itemC]; try omega
      apply Tr.cons
      · exact .skipv (.sc (.bool false)) rfl rfl (by (simp only [go_sem]) <;> rfl) (by (simp only [go_sem]) <;> rfl)
      apply Tr.done
      · (simp only [go_sem]) <;> rfl
      · simp
    · kernel_rfl
    refine EvC.cond_true (by (simp only [go_sem]) <;> rfl) ?_
    refine EvC.seq (EvC.rg (by (simp only [go_sem]) <;> rfl) (by simp) ?_)
    refine EvC.ret ⟨.inl rfl, _, (by (simp only [go_sem]) <;> rfl), ?_, rfl⟩
    simp only [go_sem]
  have d1 : decide (x.cost = y.cost) = true := decide_eq_true hcost
  have hq := same_is x.nl x.kills .unk y.nl y.kills .unk hx
  have h0 : decide (x.Eqv y) = decide (x.kills = y.kills) := decide_eq_decide.2 ⟨fun h => h.2, fun h => ⟨hcost, h⟩⟩
  rw [h0] at hinv
  generalize decide (x.kills = y.kills) = q at hq hinv
  apply EvC.seq
  apply EvC.drw mixed
  · apply Tr.run
    · (simp only [go_sem, he, hf, itemC, hin, List.length_map, d1]) <;> rfl
    · simp [itemC]; try omega
    apply Tr.cons
    · exact .callG rfl rfl (by (simp only [go_sem]) <;> rfl) rfl (by (simp only [go_sem]) <;> rfl) (by (simp only [go_sem]) <;> rfl) (by (simp only [go_sem]) <;> rfl) (by (simp only [go_sem]) <;> rfl) (by (simp only [go_sem]) <;> rfl) (hq)
    apply Tr.done
    · (simp only [go_sem]) <;> rfl
    · simp
  · kernel_rfl
  refine EvC.cond (by (simp only [go_sem]) <;> rfl) (fun hc => ?_) (fun hc => ?_)
  · have hc' : q = false := by simpa using hc
    rw [hc', Bool.false_and] at hinv
    rw [hinv]
    refine EvC.seq (EvC.rg (by (simp only [go_sem]) <;> rfl) (by simp) ?_)
    refine EvC.ret ⟨.inl rfl, _, (by (simp only [go_sem]) <;> rfl), ?_, rfl⟩
    simp only [go_sem]
  have hc' : q = true := by simpa using hc
  rw [hc', Bool.true_and] at hinv
  refine EvC.skip ?_
  refine EvC.rg (by (simp only [go_sem]) <;> rfl) (by exact inI64_of (by omega) (by omega)) ?_
  exact ⟨[], i + 1, rfl, (by (simp only [go_sem, Int.natCast_add, Int.natCast_one]) <;> rfl), ⟨hil, hinv⟩, by omega⟩
end Go.Avl
namespace Go.Avl
open Go Go.Proofs.Tryd
set_option maxRecDepth 10000
set_option linter.unusedSimpArgs false

/-! ### The lists of the laws -/
structure LI where
  cost : Int
  kills : Int
def liC (x : LI) : List AV := [.sc (.int .u8 x.cost), .sc (.int .u32 x.kills)]
@[go_sem] theorem norefs_li (l : List LI) : (l.map liC).all AV.norefs = true := by simp [List.all_eq_true, liC, AV.norefs, AV.noref]
def LI.Ok (x : LI) : Prop := (0 ≤ x.cost ∧ x.cost < 256) ∧ 0 ≤ x.kills
def bitK (K : Int) (k : Nat) : Bool := decide (shiftOf .shr .u32 K k % 2 = 1)
def killsTo (K : Int) : Nat → List Int
  | 0 => []
  | k + 1 => if bitK K k = true then killsTo K k ++ [10 * (k : Int)] else killsTo K k
def LI.item (x : LI) : Item := ⟨1 + x.cost, (killsTo x.kills 24).isEmpty, killsTo x.kills 24⟩
theorem killsTo_len (K : Int) : ∀ k, (killsTo K k).length ≤ k
  | 0 => Nat.le_refl _
  | k + 1 => by
    have := killsTo_len K k
    rw [killsTo]; split <;> simp <;> omega
theorem shr32_nn {K : Int} (h : 0 ≤ K) (k : Nat) : 0 ≤ shiftOf .shr .u32 K k := by
  simp only [shiftOf]
  exact Int.fdiv_nonneg h (by exact_mod_cast Nat.zero_le (2 ^ _))
def listOf (xs : List LI) (most : Nat) : List Item := (xs.take most).map LI.item

set_option maxHeartbeats 1000000 in
theorem list24_is (nl : Bool) (xs : List LI) (c : Cp) (most : Nat) (hx : ∀ x ∈ xs, x.Ok) (hm : most < 100) :
    PureIs prog 24 [.sl nl (xs.map liC) c, .sc (.int .i64 most)] (.sl (listOf xs most).isEmpty ((listOf xs most).map itemC) .unk) := by
  refine PureIs.of (nv := 2) (hid := [4, 5, 6, 7, 8, 17, 29, 40]) func24 rfl (by kernel_rfl) (by simp [ntmps24]) fun _ => ?_
  rw [ntmps24, results24]
  refine EvC.seq (EvC.rg (by (simp only [go_sem]) <;> rfl) (by simp) ?_)
  refine EvC.seq (EvC.rg (by (simp only [go_sem]) <;> rfl) (by simp) ?_)
  refine EvC.seq ?_
  refine EvC.seq (EvC.rg (by (simp only [go_sem]) <;> rfl) (by simp) ?_)
  refine EvC.thaw 1 (by (simp only [go_sem]) <;> rfl) ?_
  refine EvC.block ?_  -- 0
  refine EvC.loopS (σ := Nat) (fun i => ⟨[(0, .sl nl (xs.map liC) c), (1, .sc (.int .i64 most)), (5, .tl 0 (listOf xs i).length (listOf xs i).isEmpty), (6, .sc (.int .i64 i))], [], [(0, .arr 2 ((listOf xs i).map itemC) false)], 1⟩) (fun i => most - i) (fun i => i ≤ most ∧ i ≤ xs.length) [0, 1, 5, 6] 1 ?_ ?_
  · exact ⟨[(1, 0)], 0, rfl, (by (simp only [go_sem, Int.natCast_zero, listOf, List.take_zero, List.map_nil, List.length_nil, List.isEmpty_nil]) <;> rfl), Nat.zero_le _, Nat.zero_le _⟩
  rintro i ⟨hi, hi2⟩
  refine EvC.seq ?_
  by_cases hend : i < xs.length ∧ i < most
  rotate_left
  · -- else
    have hcond : decide ((i : Int) < xs.length) = false ∨ (decide ((i : Int) < xs.length) = true ∧ decide ((i : Int) < most) = false) := by
      by_cases h : i < xs.length
      · exact .inr ⟨decide_eq_true (by omega), decide_eq_false (by omega)⟩
      · exact .inl (decide_eq_false (by omega))
    have htk : listOf xs most = listOf xs i := by
      unfold listOf
      congr 1
      rcases Nat.lt_or_ge i xs.length with h | h
      · rw [show most = i by omega]
      · rw [List.take_of_length_le (by omega), List.take_of_length_le (by omega)]
    rw [htk]
    have hL : ∀ L : List Item, L = listOf xs i → L.length = L.length := fun _ _ => rfl
    generalize listOf xs i = L
    rcases hcond with h | ⟨h, h'⟩
    · apply EvC.seq
      apply EvC.trd
      · (simp only [go_sem, List.length_map, h]) <;> rfl
      · simp
      refine EvC.cond_false (by (simp only [go_sem]) <;> rfl) ?_
      refine EvC.exit ?_  -- 0
      refine EvC.frz 0 (by (simp only [go_sem, List.length_map]) <;> rfl) ?_
      refine EvC.seq (EvC.rg (by (simp only [go_sem, List.length_map]) <;> rfl) (by simp) ?_)
      refine EvC.ret ⟨.inl rfl, _, (by (simp only [go_sem]) <;> rfl), ?_, rfl⟩
      simp only [go_sem]
    · apply EvC.seq
      apply EvC.trd
      · (simp only [go_sem, List.length_map, h, h']) <;> rfl
      · simp
      refine EvC.cond_false (by (simp only [go_sem]) <;> rfl) ?_
      refine EvC.exit ?_  -- 0
      refine EvC.frz 0 (by (simp only [go_sem, List.length_map]) <;> rfl) ?_
      refine EvC.seq (EvC.rg (by (simp only [go_sem, List.length_map]) <;> rfl) (by simp) ?_)
      refine EvC.ret ⟨.inl rfl, _, (by (simp only [go_sem]) <;> rfl), ?_, rfl⟩
      simp only [go_sem]
  obtain ⟨h1, h2⟩ := hend
  have d1 : decide ((i : Int) < xs.length) = true := decide_eq_true (by omega)
  have d2 : decide ((i : Int) < most) = true := decide_eq_true (by omega)
  apply EvC.seq
  apply EvC.trd
  · (simp only [go_sem, List.length_map, d1, d2]) <;> rfl
  · simp
  refine EvC.cond_true (by (simp only [go_sem]) <;> rfl) ?_
  refine EvC.skip ?_
  refine EvC.seq ?_
  refine EvC.block ?_  -- 1
  have he : xs[i]? = some (xs[i]'h1) := List.getElem?_eq_getElem h1
  have hok := hx _ (List.getElem_mem h1)
  have hnext : listOf xs (i + 1) = listOf xs i ++ [(xs[i]'h1).item] := by
    unfold listOf
    rw [List.take_succ_eq_append_getElem h1, List.map_append]; rfl
  have hli : (listOf xs i).length ≤ i := by unfold listOf; simp; omega
  generalize xs[i]'h1 = x at he hok hnext
  generalize listOf xs i = L at hnext hli
  obtain ⟨⟨k1, k2⟩, k3⟩ := hok
  have hin : (i : Int).toNat = i := Int.toNat_natCast i
  refine EvC.seq (EvC.rg (by (simp only [go_sem, he, liC, hin, List.length_map]) <;> rfl) (by simp [inI64_of (x := x.cost) (by omega) (by omega), inI64_of (x := 1 + x.cost) (by omega) (by omega)]) ?_)
  refine EvC.ownC 18 1 1 (by (simp only [go_sem]) <;> rfl) ?_
  refine EvC.seq ?_
  refine EvC.seq (EvC.rg (by (simp only [go_sem]) <;> rfl) (by simp) ?_)
  refine EvC.block ?_  -- 2
  refine EvC.loopS (σ := Nat) (fun k => ⟨[(0, .sl nl (xs.map liC) c), (1, .sc (.int .i64 most)), (5, .tl 0 L.length L.isEmpty), (6, .sc (.int .i64 i)), (7, .rf 1 0), (8, .sc (.int .i64 k))], [], [(0, .arr 2 (L.map itemC) false), (1, .cells [.sc (.int .i64 (1 + x.cost)), .tl 2 (killsTo x.kills k).length (killsTo x.kills k).isEmpty]), (2, .arr 1 ((killsTo x.kills k).map intC) true)], 3⟩) (fun k => 24 - k) (fun k => k ≤ 24) [0, 1, 5, 6, 7, 8] 3 ?_ ?_
  · exact ⟨[(0, 0), (18, 1), (20, 2)], 0, rfl, (by (simp only [go_sem, Int.natCast_zero, killsTo, List.map_nil, List.length_nil, List.isEmpty_nil]) <;> rfl), Nat.zero_le _⟩
  intro k hk
  refine EvC.seq ?_
  refine EvC.seq (EvC.rg (by (simp only [go_sem]) <;> rfl) (by simp) ?_)
  refine EvC.cond (by (simp only [go_sem]) <;> rfl) (fun hc => ?_) (fun hc => ?_)
  rotate_left
  · -- else
    refine EvC.exit ?_  -- 2
    obtain rfl : k = 24 := by have : ¬ (k : Int) < 24 := by simpa using hc
                              omega
    clear hc
    refine EvC.frzD 2 (by (simp only [go_sem, List.length_map]) <;> rfl) ?_
    have hkl := killsTo_len x.kills 24
    have hsn : L.map itemC ++ [[.sc (.int .i64 (1 + x.cost)), .sl (killsTo x.kills 24).isEmpty ((killsTo x.kills 24).map intC) .unk]] = (listOf xs (i + 1)).map itemC := by rw [hnext]; simp [itemC, LI.item]
    have hsl : L.length + 1 = (listOf xs (i + 1)).length := by rw [hnext]; simp
    have hse : (listOf xs (i + 1)).isEmpty = false := by rw [hnext]; simp
    have hr2 : room (L.length + 1) 32 = true := by simp only [room_eq, decide_eq_true_eq]; omega
    rw [hsl] at hr2
    generalize hL' : listOf xs (i + 1) = L' at hsn hsl hse hr2
    refine EvC.rg (by (simp only [go_sem, hsn, hsl, List.length_map]) <;> rfl) (by simp [hr2]) ?_
    refine EvC.rg (by (simp only [go_sem]) <;> rfl) (by exact inI64_of (by omega) (by omega)) ?_
    exact ⟨[(0, 0)], i + 1, rfl, (by rw [hL']; (simp only [go_sem, hse, Int.natCast_add, Int.natCast_one]) <;> rfl), ⟨by omega, by omega⟩, by omega⟩
  have hk2 : k < 24 := by have : (k : Int) < 24 := by simpa using hc
                          omega
  clear hc
  have hst : killsTo x.kills (k + 1) = if bitK x.kills k = true then killsTo x.kills k ++ [10 * (k : Int)] else killsTo x.kills k := rfl
  have hkl := killsTo_len x.kills k
  have hkn : (k : Int).toNat = k := Int.toNat_natCast k
  have hnn := shr32_nn k3 k
  unfold bitK at hst
  have hT : ∀ T : List Int, T ++ [10 * (k : Int)] = T ++ [10 * (k : Int)] := fun _ => rfl
  generalize killsTo x.kills k = T at hst hkl
  refine EvC.skip ?_
  refine EvC.seq ?_
  refine EvC.block ?_  -- 3
  refine EvC.seq (EvC.rg (by (simp only [go_sem, he, liC, hin, hkn, List.length_map]) <;> rfl) (by simp [hnn]; try omega) ?_)
  refine EvC.cond (by (simp only [go_sem]) <;> rfl) (fun hc => ?_) (fun hc => ?_)
  · -- then
    have hc' : decide (shiftOf .shr .u32 x.kills k % 2 = 1) = true := by simpa using hc
    rw [if_pos hc'] at hst
    have hsn : T.map intC ++ [[.sc (.int .i64 (10 * (k : Int)))]] = (T ++ [10 * (k : Int)]).map intC := by simp [intC]
    have hsl : T.length + 1 = (T ++ [10 * (k : Int)]).length := by simp
    have hse : (T ++ [10 * (k : Int)]).isEmpty = false := by simp
    have hr2 : room (T.length + 1) 8 = true := by simp only [room_eq, decide_eq_true_eq]; omega
    rw [hsl] at hr2
    rw [← hst] at hsn hsl hse hr2
    generalize hT' : killsTo x.kills (k + 1) = T' at hsn hsl hse hr2
    refine EvC.rg (by (simp only [go_sem, hsn, hsl, List.length_map]) <;> rfl) (by simp [hr2, inI64_of (x := 10 * (k : Int)) (by omega) (by omega)]) ?_
    refine EvC.rg (by (simp only [go_sem]) <;> rfl) (by exact inI64_of (by omega) (by omega)) ?_
    exact ⟨[(0, 0), (1, 1), (2, 2)], k + 1, rfl, (by rw [hT']; (simp only [go_sem, hse, Int.natCast_add, Int.natCast_one]) <;> rfl), hk2, by omega⟩
  have hc' : ¬ decide (shiftOf .shr .u32 x.kills k % 2 = 1) = true := by simpa using hc
  rw [if_neg hc'] at hst
  refine EvC.skip ?_
  refine EvC.rg (by (simp only [go_sem]) <;> rfl) (by exact inI64_of (by omega) (by omega)) ?_
  exact ⟨[(0, 0), (1, 1), (2, 2)], k + 1, rfl, (by rw [hst]; (simp only [go_sem, Int.natCast_add, Int.natCast_one]) <;> rfl), hk2, by omega⟩
end Go.Avl
namespace Go.Avl
open Go Go.Proofs.Tryd
set_option maxRecDepth 10000
set_option linter.unusedSimpArgs false

/-! ### The choices of the laws -/
def u8C (x : Int) : List AV := [.sc (.int .u8 x)]
@[go_sem] theorem norefs_u8 (l : List Int) : (l.map u8C).all AV.norefs = true := by simp [List.all_eq_true, u8C, AV.norefs, AV.noref]
def choiceTo (l : List Item) (by' : List Int) : Nat → List Int
  | 0 => []
  | k + 1 => if choiceB l (choiceTo l by' k ++ [((by'[k]?).getD 0) % (l.length : Int)]) = true then choiceTo l by' k ++ [((by'[k]?).getD 0) % (l.length : Int)] else choiceTo l by' k
def choiceOf (l : List Item) (by' : List Int) : List Int := if l.length = 0 then [] else choiceTo l by' by'.length
theorem choiceTo_ok (l : List Item) (by' : List Int) : ∀ k, OkA l (choiceTo l by' k)
  | 0 => OkA.nil l
  | k + 1 => by
    rw [choiceTo]
    split
    · rename_i h; exact choiceB_ok.1 h
    · exact choiceTo_ok l by' k
theorem choiceOf_ok (l : List Item) (by' : List Int) : OkA l (choiceOf l by') := by
  unfold choiceOf
  split
  · exact OkA.nil l
  · exact choiceTo_ok l by' _

set_option maxHeartbeats 1000000 in
theorem choice27_is (nl : Bool) (l : List Item) (c : Cp) (bn : Bool) (bs : List Int) (cb : Cp) (hb : ∀ b ∈ bs, 0 ≤ b ∧ b < 256) (hl : l.length < 1000) (hbl : (bs.length : Int) ≤ 140737488355328) :
    PureIs prog 27 [.sl nl (l.map itemC) c, .sl bn (bs.map u8C) cb] (.sl (choiceOf l bs).isEmpty ((choiceOf l bs).map intC) .unk) := by
  refine PureIs.of (nv := 2) (hid := [4, 5, 6, 7, 16, 34]) func27 rfl (by kernel_rfl) (by simp [ntmps27]) fun _ => ?_
  rw [ntmps27, results27]
  refine EvC.seq (EvC.rg (by (simp only [go_sem]) <;> rfl) (by simp) ?_)
  refine EvC.seq (EvC.rg (by (simp only [go_sem]) <;> rfl) (by simp) ?_)
  refine EvC.seq ?_
  refine EvC.seq (EvC.rg (by (simp only [go_sem]) <;> rfl) (by simp) ?_)
  refine EvC.thaw 1 (by (simp only [go_sem]) <;> rfl) ?_
  refine EvC.block ?_  -- 0
  refine EvC.loopS (σ := Nat) (fun i => ⟨[(0, .sl nl (l.map itemC) c), (1, .sl bn (bs.map u8C) cb), (5, .tl 0 (choiceTo l bs i).length (choiceTo l bs i).isEmpty), (6, .sc (.int .i64 i))], [], [(0, .arr 1 ((choiceTo l bs i).map intC) false)], 1⟩) (fun i => bs.length - i) (fun i => i ≤ bs.length ∧ (l.length = 0 → i = 0)) [0, 1, 5, 6] 1 ?_ ?_
  · exact ⟨[(1, 0)], 0, rfl, (by (simp only [go_sem, Int.natCast_zero, choiceTo, List.map_nil, List.length_nil, List.isEmpty_nil]) <;> rfl), Nat.zero_le _, fun _ => rfl⟩
  rintro i ⟨hi, hz⟩
  refine EvC.seq ?_
  by_cases hend : i < bs.length ∧ 0 < l.length
  rotate_left
  · -- else
    have hcond : decide ((i : Int) < bs.length) = false ∨ (decide ((i : Int) < bs.length) = true ∧ decide (0 < (l.length : Int)) = false) := by
      by_cases h : i < bs.length
      · exact .inr ⟨decide_eq_true (by omega), decide_eq_false (by omega)⟩
      · exact .inl (decide_eq_false (by omega))
    have htk : choiceOf l bs = choiceTo l bs i := by
      unfold choiceOf
      split
      · rename_i h; rw [hz h]; rfl
      · rw [show bs.length = i by omega]
    rw [htk]
    generalize choiceTo l bs i = L
    rcases hcond with h | ⟨h, h'⟩
    · apply EvC.seq
      apply EvC.trd
      · (simp only [go_sem, List.length_map, h]) <;> rfl
      · simp
      refine EvC.cond_false (by (simp only [go_sem]) <;> rfl) ?_
      refine EvC.exit ?_  -- 0
      refine EvC.frz 0 (by (simp only [go_sem, List.length_map]) <;> rfl) ?_
      refine EvC.seq (EvC.rg (by (simp only [go_sem, List.length_map]) <;> rfl) (by simp) ?_)
      refine EvC.ret ⟨.inl rfl, _, (by (simp only [go_sem]) <;> rfl), ?_, rfl⟩
      simp only [go_sem]
    · apply EvC.seq
      apply EvC.trd
      · (simp only [go_sem, List.length_map, h, h']) <;> rfl
      · simp
      refine EvC.cond_false (by (simp only [go_sem]) <;> rfl) ?_
      refine EvC.exit ?_  -- 0
      refine EvC.frz 0 (by (simp only [go_sem, List.length_map]) <;> rfl) ?_
      refine EvC.seq (EvC.rg (by (simp only [go_sem, List.length_map]) <;> rfl) (by simp) ?_)
      refine EvC.ret ⟨.inl rfl, _, (by (simp only [go_sem]) <;> rfl), ?_, rfl⟩
      simp only [go_sem]
  obtain ⟨h1, h2⟩ := hend
  have d1 : decide ((i : Int) < bs.length) = true := decide_eq_true (by omega)
  have d2 : decide (0 < (l.length : Int)) = true := decide_eq_true (by omega)
  apply EvC.seq
  apply EvC.trd
  · (simp only [go_sem, List.length_map, d1, d2]) <;> rfl
  · simp
  refine EvC.cond_true (by (simp only [go_sem]) <;> rfl) ?_
  refine EvC.skip ?_
  refine EvC.seq ?_
  refine EvC.block ?_  -- 1
  have he : bs[i]? = some (bs[i]'h1) := List.getElem?_eq_getElem h1
  have hok := hb _ (List.getElem_mem h1)
  have hnext : choiceTo l bs (i + 1) = if choiceB l (choiceTo l bs i ++ [((bs[i]?).getD 0) % (l.length : Int)]) = true then choiceTo l bs i ++ [((bs[i]?).getD 0) % (l.length : Int)] else choiceTo l bs i := rfl
  have hli := (choiceTo_ok l bs i).len
  generalize bs[i]'h1 = b at he hok
  rw [he, Option.getD_some] at hnext
  generalize choiceTo l bs i = T at hnext hli
  have hin : (i : Int).toNat = i := Int.toNat_natCast i
  have hsn : T.map intC ++ [[.sc (.int .i64 (b % (l.length : Int)))]] = (T ++ [b % (l.length : Int)]).map intC := by simp [intC]
  have hsl : T.length + 1 = (T ++ [b % (l.length : Int)]).length := by simp
  have hse : (T ++ [b % (l.length : Int)]).isEmpty = false := by simp
  have hr1 : room T.length 8 = true := by simp only [room_eq, decide_eq_true_eq]; omega
  have hr2 : room (T.length + 1) 8 = true := by simp only [room_eq, decide_eq_true_eq]; omega
  have hr3 : ∀ x ∈ T, (intC x).length = 1 := fun _ _ => rfl
  rw [hsl] at hr2
  generalize hL' : T ++ [b % (l.length : Int)] = L' at hsn hsl hse hr2 hnext
  apply EvC.seq
  apply EvC.drd mixed
  · (simp only [go_sem, he, u8C, hin, List.length_map, hsn, hsl]) <;> rfl
  · simp [hr1, hr2, d2, inI64_of (x := b) (by omega) (by omega)]; try (exact ⟨hr3, hok.1, by omega⟩)
  · kernel_rfl
  have q := choice31_is nl l c false L' .unk (by rw [← hsl]; omega)
  generalize hB : choiceB l L' = B at q hnext
  apply EvC.seq  -- R6
  apply EvC.tr
  · apply Tr.run
    · (simp only [go_sem]) <;> rfl
    · simp
    apply Tr.cons
    · exact .callD (xs := [.sl nl (l.map itemC) c, .sl false (L'.map intC) .unk]) 2 rfl rfl (by (simp only [go_sem]) <;> rfl) (by (simp only [go_sem]) <;> rfl) (by (simp only [go_sem, List.length_map]) <;> rfl) (by (simp only [go_sem, List.length_map]) <;> rfl) (by (simp only [go_sem]) <;> rfl) (PureIs.frSc q)
    apply Tr.done
    · (simp only [go_sem]) <;> rfl
    · simp
  refine EvC.cond (by (simp only [go_sem]) <;> rfl) (fun hc => ?_) (fun hc => ?_)
  · -- then
    have hc' : B = true := by simpa using hc
    rw [if_pos hc'] at hnext
    refine EvC.rg (by (simp only [go_sem]) <;> rfl) (by simp) ?_
    refine EvC.rg (by (simp only [go_sem]) <;> rfl) (by exact inI64_of (by omega) (by omega)) ?_
    exact ⟨[(12, 0)], i + 1, rfl, (by rw [hnext]; (simp only [go_sem, hse, Int.natCast_add, Int.natCast_one]) <;> rfl), ⟨by omega, by omega⟩, by omega⟩
  have hc' : ¬ B = true := by simpa using hc
  rw [if_neg hc'] at hnext
  refine EvC.skip ?_
  refine EvC.rg (by (simp only [go_sem]) <;> rfl) (by exact inI64_of (by omega) (by omega)) ?_
  exact ⟨[(0, 0)], i + 1, rfl, (by rw [hnext]; (simp only [go_sem, Int.natCast_add, Int.natCast_one]) <;> rfl), ⟨by omega, by omega⟩, by omega⟩
end Go.Avl
namespace Go.Avl
open Go Go.Proofs.Tryd
set_option maxRecDepth 10000
set_option linter.unusedSimpArgs false

/-! ### The curve of a choice, and its lateness -/
def curveTo (l : List Item) (ch : List Int) : Nat → List (Int × Int)
  | 0 => []
  | k + 1 => curveTo l ch k ++ [(costN l (ch.take (k + 1)), ((killedN l (ch.take (k + 1)) : Nat) : Int))]
def curveOf (l : List Item) (ch : List Int) : List (Int × Int) := curveTo l ch ch.length
def lateTo (l : List Item) (ch : List Int) : Nat → Int
  | 0 => 0
  | k + 1 => lateTo l ch k + costN l (ch.take (k + 1)) * (((killedN l (ch.take (k + 1)) : Nat) : Int) - ((killedN l (ch.take k) : Nat) : Int))
def lateOf (l : List Item) (ch : List Int) : Int := lateTo l ch ch.length
theorem curveTo_len (l : List Item) (ch : List Int) : ∀ k, (curveTo l ch k).length = k
  | 0 => rfl
  | k + 1 => by simp [curveTo, curveTo_len l ch k]
theorem killedP_mono {l : List Item} {ch : List Int} {k : Nat} (n : Nat) (h : killedP l (ch.take k) n = true) : killedP l (ch.take (k + 1)) n = true := by
  unfold killedP at *
  rw [List.any_eq_true] at *
  obtain ⟨i, hi, he⟩ := h
  refine ⟨i, ?_, he⟩
  rw [List.take_add_one]
  exact List.mem_append_left _ hi
theorem killedN_mono (l : List Item) (ch : List Int) (k : Nat) : killedN l (ch.take k) ≤ killedN l (ch.take (k + 1)) := cnt_mono (fun n h => killedP_mono n h) 256
theorem costs_bd {l : List Item} (hl : ∀ x ∈ l, 0 ≤ x.cost ∧ x.cost ≤ 1000000) {ch : List Int} (hch : InCh l ch) (hcl : ch.length ≤ 1000) (k : Nat) : 0 ≤ costN l (ch.take k) ∧ costN l (ch.take k) ≤ 1000000000 := by
  have h := costN_bd hl (hch.take k)
  rw [List.length_take] at h
  omega
theorem lateTo_bd {l : List Item} (hl : ∀ x ∈ l, 0 ≤ x.cost ∧ x.cost ≤ 1000000) {ch : List Int} (hch : InCh l ch) (hcl : ch.length ≤ 1000) : ∀ k, 0 ≤ lateTo l ch k ∧ lateTo l ch k ≤ 1000000000 * ((killedN l (ch.take k) : Nat) : Int)
  | 0 => by
    have : (0 : Int) ≤ ((killedN l (ch.take 0) : Nat) : Int) := Int.natCast_nonneg _
    simp only [lateTo]; omega
  | k + 1 => by
    have ih := lateTo_bd hl hch hcl k
    have hc := costs_bd hl hch hcl (k + 1)
    have hm := killedN_mono l ch k
    rw [lateTo]
    generalize costN l (ch.take (k + 1)) = C at *
    obtain ⟨d, hd⟩ : ∃ d : Int, ((killedN l (ch.take (k + 1)) : Nat) : Int) - ((killedN l (ch.take k) : Nat) : Int) = d := ⟨_, rfl⟩
    have hd0 : 0 ≤ d := by omega
    rw [hd]
    have h1 := Int.mul_nonneg hc.1 hd0
    have h2 : C * d ≤ 1000000000 * d := Int.mul_le_mul_of_nonneg_right hc.2 hd0
    omega

theorem refCurve_is (nl : Bool) (l : List Item) (c : Cp) (cn : Bool) (ch : List Int) (cc : Cp) (hl : ∀ x ∈ l, (0 ≤ x.cost ∧ x.cost ≤ 1000000) ∧ x.kills.length < 1000000) (hch : InCh l ch) (hcl : ch.length ≤ 1000) :
    PureIs prog 29 [.sl nl (l.map itemC) c, .sl cn (ch.map intC) cc] (.sl (curveOf l ch).isEmpty ((curveOf l ch).map pairC) .unk) := by
  refine PureIs.of (nv := 2) (hid := [4, 5, 6, 10]) func29 rfl (by kernel_rfl) (by simp [ntmps29]) fun _ => ?_
  rw [ntmps29, results29]
  refine EvC.seq (EvC.rg (by (simp only [go_sem]) <;> rfl) (by simp) ?_)
  refine EvC.seq (EvC.rg (by (simp only [go_sem]) <;> rfl) (by simp) ?_)
  refine EvC.seq ?_
  refine EvC.seq (EvC.rg (by (simp only [go_sem]) <;> rfl) (by simp) ?_)
  refine EvC.block ?_  -- 0
  refine EvC.loopS (σ := Nat) (fun k => ⟨[(0, .sl nl (l.map itemC) c), (1, .sl cn (ch.map intC) cc), (5, .tl 0 (curveTo l ch k).length (curveTo l ch k).isEmpty), (6, .sc (.int .i64 ((k : Int) + 1)))], [], [(0, .arr 2 ((curveTo l ch k).map pairC) true)], 1⟩) (fun k => ch.length - k) (fun k => k ≤ ch.length) [0, 1, 5, 6] 1 ?_ ?_
  · exact ⟨[(1, 0)], 0, rfl, (by (simp only [go_sem, Int.natCast_zero, Int.zero_add, curveTo, List.map_nil, List.length_nil, List.isEmpty_nil]) <;> rfl), Nat.zero_le _⟩
  intro k hk1
  refine EvC.seq ?_
  refine EvC.seq (EvC.rg (by (simp only [go_sem, List.length_map]) <;> rfl) (by simp) ?_)
  refine EvC.cond (by (simp only [go_sem]) <;> rfl) (fun hc => ?_) (fun hc => ?_)
  rotate_left
  · -- else
    refine EvC.exit ?_  -- 0
    obtain rfl : ch.length = k := by have : ¬ (k : Int) + 1 ≤ ch.length := by simpa using hc
                                     omega
    have hL := curveTo_len l ch ch.length
    unfold curveOf
    generalize curveTo l ch ch.length = L at hL
    refine EvC.seq (EvC.rg (by (simp only [go_sem, List.length_map]) <;> rfl) (by simp) ?_)
    refine EvC.ret ⟨.inl rfl, _, (by (simp only [go_sem]) <;> rfl), ?_, rfl⟩
    simp only [go_sem]
  have hkl : k < ch.length := by have : (k : Int) + 1 ≤ ch.length := by simpa using hc
                                 omega
  clear hc
  have hlc : ∀ x ∈ l, 0 ≤ x.cost ∧ x.cost ≤ 1000000 := fun x hx => (hl x hx).1
  have hlk : ∀ x ∈ l, x.kills.length < 1000000 := fun x hx => (hl x hx).2
  have hp := curveTo_len l ch k
  have hst : curveTo l ch (k + 1) = curveTo l ch k ++ [(costN l (ch.take (k + 1)), ((killedN l (ch.take (k + 1)) : Nat) : Int))] := rfl
  have q1 := cost_is nl l c cn (ch.take (k + 1)) (cutHead cc) hlc (hch.take _) (by rw [List.length_take]; omega)
  have q2 := killed_is nl l c cn (ch.take (k + 1)) (cutHead cc) hlk (hch.take _) (by rw [List.length_take]; omega)
  generalize costN l (ch.take (k + 1)) = C at hst q1
  generalize ((killedN l (ch.take (k + 1)) : Nat) : Int) = N at hst q2
  generalize hT : curveTo l ch k = T at hst hp
  have hsn : T.map pairC ++ [[.sc (.int .i64 C), .sc (.int .i64 N)]] = (T ++ [(C, N)]).map pairC := by simp [pairC]
  have hsl : T.length + 1 = (T ++ [(C, N)]).length := by simp
  have hse : (T ++ [(C, N)]).isEmpty = false := by simp
  have hr2 : room (T.length + 1) 16 = true := by simp only [room_eq, decide_eq_true_eq]; omega
  rw [hsl] at hr2
  rw [← hst] at hsn hsl hse hr2
  generalize hL' : curveTo l ch (k + 1) = L' at hsn hsl hse hr2
  obtain ⟨J, hJ⟩ : ∃ J : Int, J = (k : Int) + 1 := ⟨_, rfl⟩
  have hkn : J.toNat = k + 1 := by omega
  rw [← hJ]
  have hJ1 : ((k + 1 : Nat) : Int) + 1 = J + 1 := by omega
  have hw : ∀ x ∈ ch, (intC x).length = 1 := fun _ _ => rfl
  refine EvC.skip ?_
  refine EvC.seq ?_
  refine EvC.block ?_  -- 1
  apply EvC.drw mixed
  · apply Tr.run
    · (simp only [go_sem, hkn, List.length_map, ← List.map_take, List.drop_zero]) <;> rfl
    · simp [intC]; try omega
    apply Tr.cons
    · exact .call rfl rfl (by (simp only [go_sem]) <;> rfl) (by (simp only [go_sem]) <;> rfl) (by (simp only [go_sem]) <;> rfl) (by (simp only [go_sem]) <;> rfl) (by (simp only [go_sem]) <;> rfl) (q1)
    apply Tr.run
    · (simp only [go_sem, hkn, List.length_map, ← List.map_take, List.drop_zero]) <;> rfl
    · simp [intC]; try omega
    apply Tr.cons
    · exact .call rfl rfl (by (simp only [go_sem]) <;> rfl) (by (simp only [go_sem]) <;> rfl) (by (simp only [go_sem]) <;> rfl) (by (simp only [go_sem]) <;> rfl) (by (simp only [go_sem]) <;> rfl) (q2)
    apply Tr.done
    · (simp only [go_sem, hsn, hsl, List.length_map]) <;> rfl
    · simp [hr2]
  · kernel_rfl
  refine EvC.rg (by (simp only [go_sem]) <;> rfl) (by exact inI64_of (by omega) (by omega)) ?_
  exact ⟨[(0, 0)], k + 1, rfl, (by rw [hL', hJ1]; (simp only [go_sem, hse]) <;> rfl), hkl, by omega⟩

theorem refLate_is (nl : Bool) (l : List Item) (c : Cp) (cn : Bool) (ch : List Int) (cc : Cp) (hl : ∀ x ∈ l, (0 ≤ x.cost ∧ x.cost ≤ 1000000) ∧ x.kills.length < 1000000) (hch : InCh l ch) (hcl : ch.length ≤ 1000) :
    PureIs prog 30 [.sl nl (l.map itemC) c, .sl cn (ch.map intC) cc] (.sc (.int .i64 (lateOf l ch))) := by
  refine PureIs.of (nv := 2) (hid := [4, 5, 6, 10]) func30 rfl (by kernel_rfl) (by simp [ntmps30]) fun _ => ?_
  rw [ntmps30, results30]
  refine EvC.seq (EvC.rg (by (simp only [go_sem]) <;> rfl) (by simp) ?_)
  refine EvC.seq (EvC.rg (by (simp only [go_sem]) <;> rfl) (by simp) ?_)
  refine EvC.seq ?_
  refine EvC.seq (EvC.rg (by (simp only [go_sem]) <;> rfl) (by simp) ?_)
  refine EvC.block ?_  -- 0
  refine EvC.loopS (σ := Nat) (fun k => ⟨[(0, .sl nl (l.map itemC) c), (1, .sl cn (ch.map intC) cc), (5, .sc (.int .i64 (lateTo l ch k))), (6, .sc (.int .i64 ((k : Int) + 1)))], [], [], 0⟩) (fun k => ch.length - k) (fun k => k ≤ ch.length) [0, 1, 5, 6] 0 ?_ ?_
  · exact ⟨[], 0, rfl, (by (simp only [go_sem, Int.natCast_zero, Int.zero_add, lateTo]) <;> rfl), Nat.zero_le _⟩
  intro k hk1
  refine EvC.seq ?_
  refine EvC.seq (EvC.rg (by (simp only [go_sem, List.length_map]) <;> rfl) (by simp) ?_)
  refine EvC.cond (by (simp only [go_sem]) <;> rfl) (fun hc => ?_) (fun hc => ?_)
  rotate_left
  · -- else
    refine EvC.exit ?_  -- 0
    obtain rfl : ch.length = k := by have : ¬ (k : Int) + 1 ≤ ch.length := by simpa using hc
                                     omega
    refine EvC.seq (EvC.rg (by (simp only [go_sem, List.length_map]) <;> rfl) (by simp) ?_)
    refine EvC.ret ⟨.inl rfl, _, (by (simp only [go_sem]) <;> rfl), ?_, rfl⟩
    simp only [go_sem]
    rfl
  have hkl : k < ch.length := by have : (k : Int) + 1 ≤ ch.length := by simpa using hc
                                 omega
  clear hc
  have hlc : ∀ x ∈ l, 0 ≤ x.cost ∧ x.cost ≤ 1000000 := fun x hx => (hl x hx).1
  have hlk : ∀ x ∈ l, x.kills.length < 1000000 := fun x hx => (hl x hx).2
  have hst : lateTo l ch (k + 1) = lateTo l ch k + costN l (ch.take (k + 1)) * (((killedN l (ch.take (k + 1)) : Nat) : Int) - ((killedN l (ch.take k) : Nat) : Int)) := rfl
  have b1 := lateTo_bd hlc hch hcl k
  have b2 := lateTo_bd hlc hch hcl (k + 1)
  have b3 := costs_bd hlc hch hcl (k + 1)
  have b4 := cnt_le (killedP l (ch.take (k + 1))) 256
  have b5 := cnt_le (killedP l (ch.take k)) 256
  have b6 := killedN_mono l ch k
  unfold killedN at *
  have q1 := cost_is nl l c cn (ch.take (k + 1)) (cutHead cc) hlc (hch.take _) (by rw [List.length_take]; omega)
  have q2 := killed_is nl l c cn (ch.take (k + 1)) (cutHead cc) hlk (hch.take _) (by rw [List.length_take]; omega)
  have q3 := killed_is nl l c cn (ch.take k) (cutHead cc) hlk (hch.take _) (by rw [List.length_take]; omega)
  unfold killedN at *
  generalize costN l (ch.take (k + 1)) = C at *
  obtain ⟨N, hN⟩ : ∃ N : Int, N = ((cnt (killedP l (ch.take (k + 1))) 256 : Nat) : Int) := ⟨_, rfl⟩
  obtain ⟨N', hN'⟩ : ∃ N : Int, N = ((cnt (killedP l (ch.take k)) 256 : Nat) : Int) := ⟨_, rfl⟩
  rw [← hN] at q2 b2 hst
  rw [← hN'] at q3 b1 hst
  generalize hT : lateTo l ch k = T at *
  generalize hT1 : lateTo l ch (k + 1) = T1 at *
  have m0 : 0 ≤ C * (N - N') := Int.mul_nonneg b3.1 (by omega)
  obtain ⟨J, hJ⟩ : ∃ J : Int, J = (k : Int) + 1 := ⟨_, rfl⟩
  have hkn : J.toNat = k + 1 := by omega
  have hkm : J - 1 = (k : Int) := by omega
  have hkn2 : (k : Int).toNat = k := Int.toNat_natCast k
  rw [← hJ]
  have hJ1 : ((k + 1 : Nat) : Int) + 1 = J + 1 := by omega
  have hlen : (ch.map intC).length = ch.length := List.length_map _
  refine EvC.skip ?_
  refine EvC.seq ?_
  refine EvC.block ?_  -- 1
  apply EvC.drw mixed
  · apply Tr.run
    · (simp only [go_sem, hkn, hkm, hkn2, List.length_map, ← List.map_take, List.drop_zero]) <;> rfl
    · simp [intC, inI64_of (x := (k : Int)) (by omega) (by omega)]; try omega
    apply Tr.cons
    · exact .call rfl rfl (by (simp only [go_sem]) <;> rfl) (by (simp only [go_sem]) <;> rfl) (by (simp only [go_sem]) <;> rfl) (by (simp only [go_sem]) <;> rfl) (by (simp only [go_sem]) <;> rfl) (q1)
    apply Tr.run
    · (simp only [go_sem, hkn, hkm, hkn2, List.length_map, ← List.map_take, List.drop_zero]) <;> rfl
    · simp [intC, inI64_of (x := (k : Int)) (by omega) (by omega)]; try omega
    apply Tr.cons
    · exact .call rfl rfl (by (simp only [go_sem]) <;> rfl) (by (simp only [go_sem]) <;> rfl) (by (simp only [go_sem]) <;> rfl) (by (simp only [go_sem]) <;> rfl) (by (simp only [go_sem]) <;> rfl) (q2)
    apply Tr.run
    · (simp only [go_sem, hkn, hkm, hkn2, List.length_map, ← List.map_take, List.drop_zero]) <;> rfl
    · simp [intC, inI64_of (x := (k : Int)) (by omega) (by omega)]; try omega
    apply Tr.cons
    · exact .call rfl rfl (by (simp only [go_sem]) <;> rfl) (by (simp only [go_sem]) <;> rfl) (by (simp only [go_sem]) <;> rfl) (by (simp only [go_sem]) <;> rfl) (by (simp only [go_sem]) <;> rfl) (q3)
    apply Tr.done
    · (simp only [go_sem, hst]) <;> rfl
    · simp [inI64_of (x := N - N') (by omega) (by omega), inI64_of (x := C * (N - N')) (by omega) (by omega), ← hst]; exact inI64_of (by omega) (by omega)
  · kernel_rfl
  refine EvC.rg (by (simp only [go_sem]) <;> rfl) (by exact inI64_of (by omega) (by omega)) ?_
  exact ⟨[], k + 1, rfl, (by rw [hT1, hJ1]; (simp only [go_sem, hst]) <;> rfl), hkl, by omega⟩
end Go.Avl
namespace Go.Avl
open Go Go.Proofs.Tryd
set_option maxRecDepth 10000
set_option linter.unusedSimpArgs false

/-- Pairs with room behind them. -/
def roomP (n : Nat) (os : List (Int × Int)) : List (List AV) := roomL n [.sc (.int .i64 0), .sc (.int .i64 0)] (os.map pairC)
theorem roomP_len {n : Nat} {os : List (Int × Int)} (h : os.length ≤ n) : (roomP n os).length = n := roomL_len (by simpa using h)
theorem roomP_nil (n : Nat) : List.replicate n [AV.sc (.int .i64 0), .sc (.int .i64 0)] = roomP n [] := (roomL_nil n _).symm
theorem roomP_app {n : Nat} {os : List (Int × Int)} (a b : Int) (h : os.length < n) : (roomP n os).take os.length ++ [.sc (.int .i64 a), .sc (.int .i64 b)] :: (roomP n os).drop (os.length + 1) = roomP n (os ++ [(a, b)]) := by
  have := roomL_app (z := [AV.sc (.int .i64 0), .sc (.int .i64 0)]) (xs := os.map pairC) (pairC (a, b)) (m := n) (by simpa using h)
  rw [List.length_map] at this
  simpa [roomP, pairC] using this
theorem roomP_full {n : Nat} {os : List (Int × Int)} (h : os.length = n) : roomP n os = os.map pairC := roomL_full (by simpa using h)
@[go_sem] theorem norefs_roomP (n : Nat) (os : List (Int × Int)) : (roomP n os).all AV.norefs = true := roomL_norefs rfl (norefs_pairs os)

/-- What plans.Curve answers. -/
def curveR (l : List Item) (ch : List Int) : AV :=
  if checkI l = 0 then (if choiceB l ch = true then .tu [.sl false ((curveOf l ch).map pairC) .full, .sc (.int .i64 0)] else .tu [.sl true [] .unk, .sc (.int .i64 1)])
  else .tu [.sl true [] .unk, .sc (.int .i64 (checkI l))]
theorem curveR_noref (l : List Item) (ch : List Int) : (curveR l ch).noref = true := by unfold curveR; split <;> (try split) <;> simp [AV.noref, AV.norefs]
set_option maxHeartbeats 4000000 in
theorem curve_is (nl : Bool) (l : List Item) (c : Cp) (cn : Bool) (ch : List Int) (cc : Cp) (hk : ∀ x ∈ l, x.kills.length < 1000000) (hcl : ch.length ≤ 1000) :
    PureIs prog 16 [.sl nl (l.map itemC) c, .sl cn (ch.map intC) cc] (curveR l ch) := by
  refine PureIs.of (nv := 2) (hid := [4, 5, 6, 7, 8, 9, 10, 12, 16, 26, 27, 28, 29, 30, 46]) func16 rfl (by kernel_rfl) (by simp [ntmps16]) fun _ => ?_
  rw [ntmps16, results16]
  refine EvC.seq (EvC.rg (by (simp only [go_sem]) <;> rfl) (by simp) ?_)
  refine EvC.seq ?_
  apply EvC.seq
  apply EvC.tr
  · apply Tr.run
    · (simp only [go_sem]) <;> rfl
    · simp
    apply Tr.cons
    · exact .call rfl rfl (by (simp only [go_sem]) <;> rfl) (by (simp only [go_sem]) <;> rfl) (by (simp only [go_sem]) <;> rfl) (by (simp only [go_sem]) <;> rfl) (by (simp only [go_sem]) <;> rfl) (check_items_is nl l c hk)
    apply Tr.done
    · (simp only [go_sem]) <;> rfl
    · simp
  refine EvC.seq (EvC.rg (by (simp only [go_sem]) <;> rfl) (by simp) ?_)
  refine EvC.cond (by (simp only [go_sem]) <;> rfl) (fun hc => ?_) (fun hc => ?_)
  · -- then
    have hc' : ¬ checkI l = 0 := by simpa using hc
    refine EvC.seq (EvC.rg (by (simp only [go_sem]) <;> rfl) (by simp) ?_)
    refine EvC.ret ⟨.inl rfl, _, (by (simp only [go_sem]) <;> rfl), ?_, curveR_noref l ch⟩
    simp only [go_sem]
    rw [curveR, if_neg hc']
  have hc' : checkI l = 0 := by simpa using hc
  clear hc
  obtain ⟨hll, hls⟩ := checkI_sound hc'
  refine EvC.skip ?_
  have hr2 : room l.length 1 = true := by simp only [room_eq, decide_eq_true_eq]; omega
  refine EvC.seq (EvC.rg (by (simp only [go_sem, List.length_map]) <;> rfl) (by simp [hr2]; try omega) ?_)
  refine EvC.seq (EvC.rg (by (simp only [go_sem]) <;> rfl) (by simp) ?_)
  refine EvC.seq (EvC.rg (by (simp only [go_sem]) <;> rfl) (by simp) ?_)
  obtain ⟨M, hM, hM1, hM2, hM3⟩ : ∃ M : Nat, (if (ch.length : Int) ≤ (l.length : Int) then (ch.length : Int) else (l.length : Int)) = (M : Int) ∧ M ≤ ch.length ∧ M ≤ l.length ∧ (∀ k : Nat, k ≤ ch.length → k ≤ l.length → k ≤ M) := by
    by_cases h : ch.length ≤ l.length
    · exact ⟨ch.length, if_pos (by omega), by omega, h, fun k a b => a⟩
    · exact ⟨l.length, if_neg (by omega), by omega, by omega, fun k a b => b⟩
  have hr3 : room M 16 = true := by simp only [room_eq, decide_eq_true_eq]; omega
  have hMn : (M : Int).toNat = M := Int.toNat_natCast M
  refine EvC.seq (EvC.rg (by (simp only [go_sem, List.length_map, hM, hMn]) <;> rfl) (by simp [hr3]; try omega) ?_)
  refine EvC.seq ?_
  refine EvC.seq (EvC.rg (by (simp only [go_sem, List.length_map]) <;> rfl) (by simp) ?_)
  refine EvC.block ?_  -- 0
  refine EvC.loopS (σ := Nat) (fun k => ⟨[(0, .sl nl (l.map itemC) c), (7, .tl 0 l.length false), (8, .rf 1 0), (9, .sc (.int .i64 (costN l (ch.take k)))), (10, .tv 2 M 0 k (.val M)), (27, .sl cn (ch.map intC) cc), (28, .sc (.int .i64 ch.length)), (29, .sc (.int .i64 k))], [], [(0, .arr 1 (seenL l (ch.take k)) false), (1, .cells (setC (killedP l (ch.take k)))), (2, .arr 2 (roomP M (curveTo l ch k)) false)], 3⟩) (fun k => ch.length - k) (fun k => k ≤ ch.length ∧ OkA l (ch.take k) ∧ choiceB l ch = chFrom l.length (ch.take k) (ch.drop k)) [0, 7, 8, 9, 10, 27, 28, 29] 3 ?_ ?_
  · exact ⟨[(9, 0), (11, 1), (18, 2)], 0, rfl, (by rw [seenL_nil, setC_nil l, roomP_nil]; (simp only [go_sem, Int.natCast_zero, List.take_zero, costN, List.map_nil, List.sum_nil, curveTo]) <;> rfl), Nat.zero_le _, OkA.nil l, rfl⟩
  rintro k ⟨hk1, hok, hinv⟩
  refine EvC.seq (EvC.rg (by (simp only [go_sem]) <;> rfl) (by simp) ?_)
  refine EvC.seq ?_
  refine EvC.cond (by (simp only [go_sem]) <;> rfl) (fun hc => ?_) (fun hc => ?_)
  rotate_left
  · -- else
    refine EvC.exit ?_  -- 0
    obtain rfl : ch.length = k := by have : ¬ k < ch.length := by simpa using hc
                                     omega
    rw [chFrom_end] at hinv
    rw [List.take_length] at hok
    have hML : M = ch.length := by have := hM3 ch.length (by omega) hok.len; omega
    subst hML
    have hcl2 := curveTo_len l ch ch.length
    rw [roomP_full hcl2]
    have hR : curveR l ch = .tu [.sl false ((curveTo l ch ch.length).map pairC) .full, .sc (.int .i64 0)] := by rw [curveR, if_pos hc', if_pos hinv]; rfl
    rw [hR]
    generalize curveTo l ch ch.length = L at hcl2
    refine EvC.frz 2 (by (simp only [go_sem]) <;> rfl) ?_
    refine EvC.seq (EvC.rg (by (simp only [go_sem, List.length_map, hcl2]) <;> rfl) (by simp) ?_)
    refine EvC.ret ⟨.inl rfl, _, (by (simp only [go_sem, List.length_map, hcl2]) <;> rfl), ?_, by simp [AV.noref, AV.norefs]⟩
    simp only [go_sem, List.length_map, hcl2]
  have hkl : k < ch.length := by simpa using hc
  clear hc
  have he : ch[k]? = some (ch[k]'hkl) := List.getElem?_eq_getElem hkl
  have htk : ch.take (k + 1) = ch.take k ++ [ch[k]'hkl] := List.take_succ_eq_append_getElem hkl
  generalize ch[k]'hkl = x at he htk
  rw [chFrom_step he] at hinv
  have hin : (k : Int).toNat = k := Int.toNat_natCast k
  have hsl := seenL_len l (ch.take k)
  refine EvC.skip ?_
  refine EvC.seq ?_
  refine EvC.block ?_  -- 1
  refine EvC.seq (EvC.rg (by (simp only [go_sem, he, intC, hin]) <;> rfl) (by simp) ?_)
  refine EvC.seq ?_
  have hR1 : choiceB l ch = false → curveR l ch = .tu [.sl true [] .unk, .sc (.int .i64 1)] := fun h => by rw [curveR, if_pos hc', if_neg (by rw [h]; simp)]
  by_cases h0 : l.length ≤ x.toNat
  · have hnone : (seenL l (ch.take k))[x.toNat]? = none := List.getElem?_eq_none (by rw [hsl]; exact h0)
    by_cases h1 : x < 0
    · have d1 : decide (x < 0) = true := decide_eq_true h1
      have hb : chBad l.length (ch.take k) x = true := by rw [chBad, d1]; rfl
      rw [hb] at hinv
      rw [hR1 hinv]
      apply EvC.seq
      apply EvC.tr
      · apply Tr.run
        · (simp only [go_sem, List.length_map, d1, hnone]) <;> rfl
        · simp
        apply Tr.cons
        · exact .skipv (.sc (.bool false)) rfl rfl (by (simp only [go_sem]) <;> rfl) (by (simp only [go_sem]) <;> rfl)
        apply Tr.done
        · (simp only [go_sem]) <;> rfl
        · simp
      refine EvC.cond_true (by (simp only [go_sem]) <;> rfl) ?_
      refine EvC.seq (EvC.rg (by (simp only [go_sem]) <;> rfl) (by simp) ?_)
      refine EvC.ret ⟨.inl rfl, _, (by (simp only [go_sem]) <;> rfl), ?_, rfl⟩
      simp only [go_sem]
    have d1 : decide (x < 0) = false := decide_eq_false h1
    have d2 : decide ((l.length : Int) ≤ x) = true := decide_eq_true (by omega)
    have hb : chBad l.length (ch.take k) x = true := by rw [chBad, d1, d2]; rfl
    rw [hb] at hinv
    rw [hR1 hinv]
    apply EvC.seq
    apply EvC.tr
    · apply Tr.run
      · (simp only [go_sem, List.length_map, d1, d2, hnone]) <;> rfl
      · simp
      apply Tr.cons
      · exact .skipv (.sc (.bool false)) rfl rfl (by (simp only [go_sem]) <;> rfl) (by (simp only [go_sem]) <;> rfl)
      apply Tr.done
      · (simp only [go_sem]) <;> rfl
      · simp
    refine EvC.cond_true (by (simp only [go_sem]) <;> rfl) ?_
    refine EvC.seq (EvC.rg (by (simp only [go_sem]) <;> rfl) (by simp) ?_)
    refine EvC.ret ⟨.inl rfl, _, (by (simp only [go_sem]) <;> rfl), ?_, rfl⟩
    simp only [go_sem]
  have hsg0 := seenL_get (ch.take k) (i := x.toNat) (l := l) (by omega)
  by_cases h1 : x < 0
  · have d1 : decide (x < 0) = true := decide_eq_true h1
    have hb : chBad l.length (ch.take k) x = true := by rw [chBad, d1]; rfl
    rw [hb] at hinv
    rw [hR1 hinv]
    apply EvC.seq
    apply EvC.trd
    · (simp only [go_sem, List.length_map, d1, hsg0, hsl]) <;> rfl
    · simp
    refine EvC.cond_true (by (simp only [go_sem]) <;> rfl) ?_
    refine EvC.seq (EvC.rg (by (simp only [go_sem]) <;> rfl) (by simp) ?_)
    refine EvC.ret ⟨.inl rfl, _, (by (simp only [go_sem]) <;> rfl), ?_, rfl⟩
    simp only [go_sem]
  have d1 : decide (x < 0) = false := decide_eq_false h1
  have h2 : ¬ (l.length : Int) ≤ x := by omega
  have d2 : decide ((l.length : Int) ≤ x) = false := decide_eq_false h2
  obtain ⟨j, rfl⟩ : ∃ j : Nat, x = j := ⟨x.toNat, by omega⟩
  have hjl : j < l.length := by omega
  have hjn : (j : Int).toNat = j := Int.toNat_natCast j
  have hsg := seenL_get (ch.take k) hjl
  have hb : chBad l.length (ch.take k) (j : Int) = (ch.take k).contains (j : Int) := by rw [chBad, d1, d2]; rfl
  rw [hb] at hinv
  apply EvC.seq
  apply EvC.trd
  · (simp only [go_sem, List.length_map, d1, d2, hjn, hsg, hsl]) <;> rfl
  · simp [hsl]; try omega
  refine EvC.cond (by (simp only [go_sem]) <;> rfl) (fun hc => ?_) (fun hc => ?_)
  · have hc2 : (ch.take k).contains (j : Int) = true := by simpa using hc
    rw [hc2] at hinv
    rw [hR1 hinv]
    refine EvC.seq (EvC.rg (by (simp only [go_sem]) <;> rfl) (by simp) ?_)
    refine EvC.ret ⟨.inl rfl, _, (by (simp only [go_sem]) <;> rfl), ?_, rfl⟩
    simp only [go_sem]
  have hc2 : (ch.take k).contains (j : Int) = false := by simpa using hc
  rw [hc2] at hinv
  clear hc
  have hok2 := hok.snoc hjl (by simpa using hc2)
  have hlen2 := hok2.len
  rw [← htk] at hok2 hlen2
  rw [List.length_take] at hlen2
  have hkM : k + 1 ≤ M := hM3 (k + 1) (by omega) (by omega)
  have hss := seenL_set l (ch.take k) j
  rw [← htk] at hss
  have hkp := killedP_snoc l (ch.take k) j
  rw [← htk] at hkp
  have hcs := costN_snoc l (ch.take k) (j : Int)
  rw [← htk] at hcs
  have hxb : l[j]? = some (itemAt l (j : Int)) := itemAt_get (i := (j : Int)) ⟨by omega, by omega⟩
  have hxm := List.mem_of_getElem? hxb
  have hxd := hls _ hxm
  have hkl2 := hk _ hxm
  have hlc : ∀ x ∈ l, 0 ≤ x.cost ∧ x.cost ≤ 1000000 := fun x hx => by have := (hls x hx).1; omega
  have hcb := costN_bd hlc hok2.rng
  rw [List.length_take] at hcb
  have hct : curveTo l ch (k + 1) = curveTo l ch k ++ [(costN l (ch.take (k + 1)), ((killedN l (ch.take (k + 1)) : Nat) : Int))] := rfl
  have o := of_is (itemAt l (j : Int)).nl (itemAt l (j : Int)).kills .unk hkl2 hxd.2
  have w := with_is (killedP l (ch.take k)) (inL (itemAt l (j : Int)).kills)
  have n := count_is (killedP l (ch.take (k + 1)))
  rw [← hkp] at w
  have hap := roomP_app (n := M) (os := curveTo l ch k) (costN l (ch.take (k + 1))) ((killedN l (ch.take (k + 1)) : Nat) : Int) (by rw [curveTo_len]; omega)
  have hrl := roomP_len (n := M) (os := curveTo l ch k) (by rw [curveTo_len]; omega)
  rw [← hct, curveTo_len] at hap
  clear hct hkp
  unfold killedN at hap
  generalize itemAt l (j : Int) = x at hxb hcs o w hxd
  generalize ((cnt (killedP l (ch.take (k + 1))) 256 : Nat) : Int) = N at n hap
  generalize hC : costN l (ch.take (k + 1)) = C at hap hcs hcb
  generalize hC0 : costN l (ch.take k) = C0 at hcs
  generalize hP1 : killedP l (ch.take (k + 1)) = P1 at n w
  generalize hT1 : curveTo l ch (k + 1) = T1 at hap
  generalize curveTo l ch k = T at hap hrl
  have hn1 := norefs_seenL l (ch.take (k + 1))
  generalize hS1 : seenL l (ch.take (k + 1)) = S1 at hss hn1
  generalize seenL l (ch.take k) = S0 at hss hsl hsg
  generalize killedP l (ch.take k) = P0 at w
  refine EvC.skip ?_
  refine EvC.seq (EvC.rg (by (simp only [go_sem, hjn, hsg, hsl, hss]) <;> rfl) (by simp [hsl]; try omega) ?_)
  apply EvC.seq  -- R14
  apply EvC.drw mixed
  · apply Tr.run
    · (simp only [go_sem, hxb, itemC, List.length_map, hjn, setC_take]) <;> rfl
    · simp [setC_len]; try omega
    apply Tr.cons
    · exact .call rfl rfl (by (simp only [go_sem]) <;> rfl) (by (simp only [go_sem]) <;> rfl) (by (simp only [go_sem]) <;> rfl) (by (simp only [go_sem]) <;> rfl) (by (simp only [go_sem]) <;> rfl) o
    apply Tr.cons
    · exact .call rfl rfl (by (simp only [go_sem]) <;> rfl) (by (simp only [go_sem]) <;> rfl) (by (simp only [go_sem]) <;> rfl) (by (simp only [go_sem]) <;> rfl) (by (simp only [go_sem]) <;> rfl) w
    apply Tr.done
    · (simp only [go_sem, setC_len]) <;> rfl
    · simp [setC_len]
      try exact setC_acell _ _
  · exact confAll_slots (by simp [rdOk, slotsOf, opSlots, memless, Op.operands, Call.operands, setC_idss, odds]) (by kernel_rfl)
  refine EvC.seq (EvC.rg (by (simp only [go_sem, hxb, itemC, List.length_map, hjn, ← hcs]) <;> rfl) (by simp [inI64_of (x := C) (by omega) (by omega)]) ?_)
  have hdr : List.drop 4 (setC P0) = [] := rfl
  have hrm : room (k + 1) 16 = true := by simp only [room_eq, decide_eq_true_eq]; omega
  apply EvC.tr
  · apply Tr.run
    · (simp only [go_sem, hdr, List.append_nil, setC_take]) <;> rfl
    · simp [setC_len]
    apply Tr.cons
    · exact .call rfl rfl (by (simp only [go_sem]) <;> rfl) (by (simp only [go_sem]) <;> rfl) (by (simp only [go_sem]) <;> rfl) (by (simp only [go_sem]) <;> rfl) (by (simp only [go_sem]) <;> rfl) (n)
    apply Tr.done
    · (simp only [go_sem, hap, hrl, hMn]) <;> rfl
    · simp [hrl, hrm]; try omega
  refine EvC.rg (by (simp only [go_sem]) <;> rfl) (by exact inI64_of (by omega) (by omega)) ?_
  exact ⟨[(0, 0), (1, 1), (2, 2)], k + 1, rfl, (by rw [hC, hP1, hT1, hS1]; (simp only [go_sem, hn1, hdr, Int.natCast_add, Int.natCast_one]) <;> rfl), ⟨hkl, hok2, by simpa using hinv⟩, by omega⟩
end Go.Avl
namespace Go.Avl
open Go Go.Proofs.Tryd
set_option maxRecDepth 10000
set_option linter.unusedSimpArgs false

/-- What plans.Late answers. -/
def lateR (l : List Item) (ch : List Int) : AV :=
  if checkI l = 0 then (if choiceB l ch = true then .tu [.sc (.int .i64 (lateOf l ch)), .sc (.int .i64 0)] else .tu [.sc (.int .i64 0), .sc (.int .i64 1)])
  else .tu [.sc (.int .i64 0), .sc (.int .i64 (checkI l))]
theorem curveTo_get (l : List Item) (ch : List Int) : ∀ {n k : Nat}, k < n → (curveTo l ch n)[k]? = some (costN l (ch.take (k + 1)), ((killedN l (ch.take (k + 1)) : Nat) : Int))
  | 0, k, h => by omega
  | n + 1, k, h => by
    rw [curveTo]
    by_cases hk : k < n
    · rw [List.getElem?_append_left (by rw [curveTo_len]; exact hk)]; exact curveTo_get l ch hk
    · obtain rfl : k = n := by omega
      rw [List.getElem?_append_right (by rw [curveTo_len]; exact Nat.le_refl _), curveTo_len, Nat.sub_self]; rfl
theorem curveR_cases (l : List Item) (ch : List Int) : ∃ (n : Nat) (b : Bool) (cp : Cp) (e : Int), curveR l ch = .tu [.sl b ((curveTo l ch n).map pairC) cp, .sc (.int .i64 e)] ∧ lateR l ch = .tu [.sc (.int .i64 (lateTo l ch n)), .sc (.int .i64 e)] ∧ n ≤ ch.length ∧
    (0 < n → checkI l = 0 ∧ OkA l ch) := by
  unfold curveR lateR
  split
  · rename_i h
    split
    · rename_i h2
      exact ⟨ch.length, _, _, _, rfl, rfl, Nat.le_refl _, fun _ => ⟨h, choiceB_ok.1 h2⟩⟩
    · exact ⟨0, _, _, _, rfl, rfl, Nat.zero_le _, fun h => absurd h (Nat.lt_irrefl 0)⟩
  · exact ⟨0, _, _, _, rfl, rfl, Nat.zero_le _, fun h => absurd h (Nat.lt_irrefl 0)⟩
set_option maxHeartbeats 4000000 in
theorem late_is (nl : Bool) (l : List Item) (c : Cp) (cn : Bool) (ch : List Int) (cc : Cp) (hk : ∀ x ∈ l, x.kills.length < 1000000) (hcl : ch.length ≤ 1000) :
    PureIs prog 17 [.sl nl (l.map itemC) c, .sl cn (ch.map intC) cc] (lateR l ch) := by
  have hq := curve_is nl l c cn ch cc hk hcl
  obtain ⟨n, b, cp, e, h1, h2, hn, hok⟩ := curveR_cases l ch
  rw [h1] at hq
  rw [h2]
  clear h1 h2
  have hlen := curveTo_len l ch n
  refine PureIs.of (nv := 2) (hid := [4, 5, 6, 7, 8, 9, 11, 18, 19, 20, 21]) func17 rfl (by kernel_rfl) (by simp [ntmps17]) fun _ => ?_
  rw [ntmps17, results17]
  refine EvC.seq (EvC.rg (by (simp only [go_sem]) <;> rfl) (by simp) ?_)
  apply EvC.seq
  apply EvC.tr
  · apply Tr.run
    · (simp only [go_sem]) <;> rfl
    · simp
    apply Tr.cons
    · exact .call rfl rfl (by (simp only [go_sem]) <;> rfl) (by (simp only [go_sem]) <;> rfl) (by (simp only [go_sem]) <;> rfl) (by (simp only [go_sem]) <;> rfl) (by (simp only [go_sem]) <;> rfl) (hq)
    apply Tr.done
    · (simp only [go_sem]) <;> rfl
    · simp
  refine EvC.seq (EvC.rg (by (simp only [go_sem]) <;> rfl) (by simp) ?_)
  refine EvC.seq ?_
  refine EvC.seq (EvC.rg (by (simp only [go_sem, List.length_map, hlen]) <;> rfl) (by simp) ?_)
  refine EvC.block ?_  -- 0
  refine EvC.loopS (σ := Nat) (fun k => ⟨[(7, .sc (.int .i64 e)), (8, .sc (.int .i64 (lateTo l ch k))), (9, .sc (.int .i64 ((killedN l (ch.take k) : Nat) : Int))), (18, .sl b ((curveTo l ch n).map pairC) cp), (19, .sc (.int .i64 n)), (20, .sc (.int .i64 k))], [], [], 0⟩) (fun k => n - k) (fun k => k ≤ n) [7, 8, 9, 18, 19, 20] 0 ?_ ?_
  · have h0 : ((killedN l (ch.take 0) : Nat) : Int) = 0 := by
      have : killedP l (ch.take 0) = fun _ => false := by funext k; simp [killedP]
      unfold killedN
      rw [this]
      decide
    exact ⟨[], 0, rfl, (by rw [h0]; (simp only [go_sem, lateTo, Int.natCast_zero]) <;> rfl), Nat.zero_le _⟩
  intro k hk1
  refine EvC.seq (EvC.rg (by (simp only [go_sem]) <;> rfl) (by simp) ?_)
  refine EvC.seq ?_
  refine EvC.cond (by (simp only [go_sem]) <;> rfl) (fun hc => ?_) (fun hc => ?_)
  rotate_left
  · -- else
    refine EvC.exit ?_  -- 0
    obtain rfl : n = k := by have : ¬ k < n := by simpa using hc
                             omega
    refine EvC.seq (EvC.rg (by (simp only [go_sem]) <;> rfl) (by simp) ?_)
    refine EvC.ret ⟨.inl rfl, _, (by (simp only [go_sem]) <;> rfl), ?_, rfl⟩
    simp only [go_sem]
  have hkl : k < n := by simpa using hc
  clear hc
  have he := curveTo_get l ch hkl
  obtain ⟨hck, hok⟩ := hok (by omega)
  have hlc : ∀ x ∈ l, 0 ≤ x.cost ∧ x.cost ≤ 1000000 := fun x hx => by have := ((checkI_sound hck).2 x hx).1; omega
  have hst : lateTo l ch (k + 1) = lateTo l ch k + costN l (ch.take (k + 1)) * (((killedN l (ch.take (k + 1)) : Nat) : Int) - ((killedN l (ch.take k) : Nat) : Int)) := rfl
  have b1 := lateTo_bd hlc hok.rng hcl k
  have b2 := lateTo_bd hlc hok.rng hcl (k + 1)
  have b3 := costs_bd hlc hok.rng hcl (k + 1)
  have b4 := cnt_le (killedP l (ch.take (k + 1))) 256
  have b5 := cnt_le (killedP l (ch.take k)) 256
  have b6 := killedN_mono l ch k
  change killedN l (ch.take (k + 1)) ≤ 256 at b4
  change killedN l (ch.take k) ≤ 256 at b5
  generalize costN l (ch.take (k + 1)) = C at *
  generalize hN : killedN l (ch.take (k + 1)) = N at *
  generalize hN' : killedN l (ch.take k) = N' at *
  generalize hT : lateTo l ch k = T at *
  generalize hT1 : lateTo l ch (k + 1) = T1 at *
  obtain ⟨A, hA⟩ : ∃ A : Int, A = (N : Int) := ⟨_, rfl⟩
  obtain ⟨A', hA'⟩ : ∃ A : Int, A = (N' : Int) := ⟨_, rfl⟩
  rw [← hA] at hst he
  rw [← hA'] at hst
  rw [← hA']
  have m0 : 0 ≤ C * (A - A') := Int.mul_nonneg b3.1 (by omega)
  have hkn : (k : Int).toNat = k := Int.toNat_natCast k
  refine EvC.skip ?_
  refine EvC.seq ?_
  refine EvC.block ?_  -- 1
  refine EvC.seq (EvC.rg (by (simp only [go_sem, he, pairC, hkn]) <;> rfl) (by simp [pairC]) ?_)
  refine EvC.seq (EvC.rg (by (simp only [go_sem, ← hst]) <;> rfl) (by simp [inI64_of (x := A - A') (by omega) (by omega), inI64_of (x := C * (A - A')) (by omega) (by omega)]; exact inI64_of (by omega) (by omega)) ?_)
  refine EvC.rg (by (simp only [go_sem]) <;> rfl) (by simp) ?_
  refine EvC.rg (by (simp only [go_sem]) <;> rfl) (by exact inI64_of (by omega) (by omega)) ?_
  exact ⟨[], k + 1, rfl, (by rw [hT1, hN, ← hA]; (simp only [go_sem, hst, Int.natCast_add, Int.natCast_one]) <;> rfl), hkl, by omega⟩
end Go.Avl
namespace Go.Avl
open Go Go.Proofs.Tryd
set_option maxRecDepth 10000
set_option linter.unusedSimpArgs false

/-! ### The best choice within a budget -/
theorem cnt_congr {P Q : Nat → Bool} : ∀ {n : Nat}, (∀ i, i < n → P i = Q i) → cnt P n = cnt Q n
  | 0, _ => rfl
  | n + 1, h => by
    have e1 : cnt P (n + 1) = cnt P n + (P n).toNat := rfl
    have e2 : cnt Q (n + 1) = cnt Q n + (Q n).toNat := rfl
    rw [e1, e2, cnt_congr (n := n) fun i hi => h i (by omega), h n (by omega)]
def sameP (P Q : Nat → Bool) : Bool := (List.range 256).all fun n => P n == Q n
theorem sameP_iff {P Q : Nat → Bool} : sameP P Q = true ↔ ∀ n, n < 256 → P n = Q n := by
  simp only [sameP, List.all_eq_true, List.mem_range, beq_iff_eq]
def addsOk (l : List Item) (budget : Int) (ch : List Int) (i : Nat) : Bool := !sameP (killedP l (ch ++ [(i : Int)])) (killedP l ch) && decide (costN l (ch ++ [(i : Int)]) ≤ budget)
/-- The choices that the search visits behind ch, out of the last d items. -/
def visR (l : List Item) (budget : Int) : Nat → List Int → List (List Int)
  | 0, _ => []
  | d + 1, ch => (if addsOk l budget ch (l.length - (d + 1)) = true then (ch ++ [((l.length - (d + 1) : Nat) : Int)]) :: visR l budget d (ch ++ [((l.length - (d + 1) : Nat) : Int)]) else []) ++ visR l budget d ch
/-- More kills, or as many for less. -/
def kb (l : List Item) (a b : List Int) : Prop := killedN l b < killedN l a ∨ (killedN l a = killedN l b ∧ costN l a < costN l b)
instance (l : List Item) (a b : List Int) : Decidable (kb l a b) := inferInstanceAs (Decidable (_ ∨ _))
def visitB (l : List Item) : Option (List Int) → List Int → List Int
  | none, ch => ch
  | some b, ch => if kb l ch b then ch else b
def foldV (l : List Item) (s : Option (List Int)) (V : List (List Int)) : Option (List Int) := V.foldl (fun s c => some (visitB l s c)) s
def lexB : List Int → List Int → Bool
  | [], [] => false
  | [], _ :: _ => true
  | _ :: _, [] => false
  | x :: a, y :: b => if x = y then lexB a b else decide (x < y)
/-- .. or as many for as much, and earlier. -/
def btr (l : List Item) (a b : List Int) : Prop := kb l a b ∨ (killedN l a = killedN l b ∧ costN l a = costN l b ∧ lexB a b = true)
instance (l : List Item) (a b : List Int) : Decidable (btr l a b) := inferInstanceAs (Decidable (_ ∨ _))
def setTo (s : Nat) : Nat → List Int
  | 0 => []
  | k + 1 => if s.testBit k = true then setTo s k ++ [(k : Int)] else setTo s k
def setCh (l : List Item) (s : Nat) : List Int := setTo s l.length
def stepC (l : List Item) (budget : Int) (st : Option (List Int)) (ch : List Int) : Option (List Int) :=
  if budget < costN l ch then st else match st with
    | none => some ch
    | some b => if btr l ch b then some ch else some b
def bestTo (l : List Item) (budget : Int) : Nat → Option (List Int)
  | 0 => none
  | k + 1 => stepC l budget (bestTo l budget k) (setCh l k)
def bestL (l : List Item) (budget : Int) : List Int := (bestTo l budget (2 ^ l.length)).getD []

theorem lexB_trans : ∀ {a b c : List Int}, lexB a b = true → lexB b c = true → lexB a c = true
  | [], b, [], h1, h2 => by cases b <;> simp [lexB] at *
  | [], _, _ :: _, _, _ => rfl
  | x :: a, [], _, h1, _ => by simp [lexB] at h1
  | x :: a, y :: b, [], _, h2 => by simp [lexB] at h2
  | x :: a, y :: b, z :: c, h1, h2 => by
    simp only [lexB] at h1 h2 ⊢
    split at h1
    · rename_i e1
      subst e1
      split at h2
      · rename_i e2
        subst e2
        rw [if_pos rfl]; exact lexB_trans h1 h2
      · rename_i e2
        rw [if_neg e2]; exact h2
    · rename_i e1
      split at h2
      · rename_i e2
        subst e2
        rw [if_neg e1]; exact h1
      · have h1 := of_decide_eq_true h1
        have h2 := of_decide_eq_true h2
        rw [if_neg (by omega)]
        exact decide_eq_true (by omega)
theorem lexB_pre : ∀ (ch : List Int) {a b : List Int}, lexB (ch ++ a) (ch ++ b) = lexB a b
  | [], _, _ => rfl
  | x :: ch, a, b => by simp [lexB, lexB_pre ch]
theorem kb_trans {l : List Item} {a b c : List Int} (h1 : kb l a b) (h2 : kb l b c) : kb l a c := by
  unfold kb at *; omega
theorem kb_neg {l : List Item} {a b c : List Int} (h1 : kb l a b) (h2 : ¬ kb l c b) : kb l a c := by
  unfold kb at *; omega
theorem btr_trans {l : List Item} {a b c : List Int} (h1 : btr l a b) (h2 : btr l b c) : btr l a c := by
  unfold btr kb at *
  rcases h1 with h1 | ⟨h1, h1', h1''⟩ <;> rcases h2 with h2 | ⟨h2, h2', h2''⟩
  · exact .inl (by omega)
  · exact .inl (by omega)
  · exact .inl (by omega)
  · exact .inr ⟨by omega, by omega, lexB_trans h1'' h2''⟩
theorem lexB_irr : ∀ a : List Int, lexB a a = false
  | [] => rfl
  | x :: a => by simp [lexB, lexB_irr a]
theorem btr_irr {l : List Item} {a : List Int} : ¬ btr l a a := by
  unfold btr kb
  rintro (h | ⟨_, _, h⟩)
  · omega
  · rw [lexB_irr] at h; cases h

/-! #### What the search finds -/
theorem foldV_spec {l : List Item} : ∀ {V : List (List Int)} {b : List Int}, ∃ r, foldV l (some b) V = some r ∧ ((r = b ∧ ∀ c ∈ V, ¬ kb l c b) ∨ ∃ A B, V = A ++ r :: B ∧ kb l r b ∧ (∀ a ∈ A, kb l r a) ∧ ∀ c ∈ B, ¬ kb l c r)
  | [], b => ⟨b, rfl, .inl ⟨rfl, fun _ h => by cases h⟩⟩
  | c :: V, b => by
    have e : foldV l (some b) (c :: V) = foldV l (some (if kb l c b then c else b)) V := rfl
    rw [e]
    by_cases hk : kb l c b
    · rw [if_pos hk]
      obtain ⟨r, hr, h⟩ := foldV_spec (l := l) (V := V) (b := c)
      refine ⟨r, hr, .inr ?_⟩
      rcases h with ⟨rfl, h⟩ | ⟨A, B, rfl, h1, h2, h3⟩
      · exact ⟨[], V, rfl, hk, (fun _ h => by cases h), h⟩
      · refine ⟨c :: A, B, rfl, kb_trans h1 hk, fun a ha => ?_, h3⟩
        rcases List.mem_cons.1 ha with rfl | ha
        · exact h1
        · exact h2 a ha
    · rw [if_neg hk]
      obtain ⟨r, hr, h⟩ := foldV_spec (l := l) (V := V) (b := b)
      refine ⟨r, hr, ?_⟩
      rcases h with ⟨rfl, h⟩ | ⟨A, B, rfl, h1, h2, h3⟩
      · refine .inl ⟨rfl, fun a ha => ?_⟩
        rcases List.mem_cons.1 ha with rfl | ha
        · exact hk
        · exact h a ha
      · refine .inr ⟨c :: A, B, rfl, h1, fun a ha => ?_, h3⟩
        rcases List.mem_cons.1 ha with rfl | ha
        · exact kb_neg h1 hk
        · exact h2 a ha
theorem foldV_first {l : List Item} {V : List (List Int)} {c : List Int} : ∃ r, foldV l none (c :: V) = some r ∧ ∃ A B, c :: V = A ++ r :: B ∧ (∀ a ∈ A, kb l r a) ∧ ∀ b ∈ B, ¬ kb l b r := by
  have e : foldV l none (c :: V) = foldV l (some c) V := rfl
  rw [e]
  obtain ⟨r, hr, h⟩ := foldV_spec (l := l) (V := V) (b := c)
  refine ⟨r, hr, ?_⟩
  rcases h with ⟨rfl, h⟩ | ⟨A, B, rfl, h1, h2, h3⟩
  · exact ⟨[], V, rfl, (fun _ h => by cases h), h⟩
  · refine ⟨c :: A, B, rfl, fun a ha => ?_, h3⟩
    rcases List.mem_cons.1 ha with rfl | ha
    · exact h1
    · exact h2 a ha
def IncL (lo n : Nat) (r : List Int) : Prop := r.Pairwise (· < ·) ∧ ∀ x ∈ r, (lo : Int) ≤ x ∧ x < n
theorem visR_mem {l : List Item} {budget : Int} : ∀ {d : Nat} {ch c : List Int}, d ≤ l.length → c ∈ visR l budget d ch → ∃ r, c = ch ++ r ∧ r ≠ [] ∧ IncL (l.length - d) l.length r ∧ costN l c ≤ budget
  | 0, _, _, _, h => by cases h
  | d + 1, ch, c, hd, h => by
    rw [visR] at h
    rcases List.mem_append.1 h with h | h
    · split at h
      · rename_i hok
        rw [addsOk, Bool.and_eq_true] at hok
        have hcost := of_decide_eq_true hok.2
        rcases List.mem_cons.1 h with rfl | h
        · refine ⟨[((l.length - (d + 1) : Nat) : Int)], rfl, by simp, ⟨by simp, fun x hx => ?_⟩, hcost⟩
          simp at hx; subst hx; omega
        · obtain ⟨r, rfl, h1, ⟨h2, h3⟩, h4⟩ := visR_mem (by omega) h
          refine ⟨((l.length - (d + 1) : Nat) : Int) :: r, by simp, by simp, ⟨List.pairwise_cons.2 ⟨fun x hx => ?_, h2⟩, fun x hx => ?_⟩, h4⟩
          · have := h3 x hx; omega
          · rcases List.mem_cons.1 hx with rfl | hx
            · omega
            · have := h3 x hx; omega
      · cases h
    · obtain ⟨r, rfl, h1, ⟨h2, h3⟩, h4⟩ := visR_mem (by omega) h
      exact ⟨r, rfl, h1, ⟨h2, fun x hx => by have := h3 x hx; omega⟩, h4⟩
theorem visR_sorted {l : List Item} {budget : Int} : ∀ {d : Nat} {ch : List Int}, d ≤ l.length → (ch :: visR l budget d ch).Pairwise fun a b => lexB a b = true := by
  intro d
  induction d with
  | zero => intro ch _; simp [visR]
  | succ d ih =>
    intro ch hd
    refine List.pairwise_cons.2 ⟨fun c hc => ?_, ?_⟩
    · obtain ⟨r, rfl, hr, _⟩ := visR_mem hd hc
      rw [show lexB ch (ch ++ r) = lexB (ch ++ []) (ch ++ r) by simp, lexB_pre]
      cases r with
      | nil => exact absurd rfl hr
      | cons => rfl
    · rw [visR, List.pairwise_append]
      refine ⟨?_, (List.pairwise_cons.1 (ih (ch := ch) (by omega))).2, fun a ha b hb => ?_⟩
      · split
        · exact ih (by omega)
        · exact .nil
      · obtain ⟨r, rfl, hr, ⟨_, h3⟩, _⟩ := visR_mem (by omega) hb
        split at ha
        rotate_left
        · cases ha
        have : ∃ r1, a = ch ++ (((l.length - (d + 1) : Nat) : Int) :: r1) := by
          rcases List.mem_cons.1 ha with rfl | ha
          · exact ⟨[], rfl⟩
          · obtain ⟨r1, rfl, _⟩ := visR_mem (by omega) ha
            exact ⟨r1, by simp⟩
        obtain ⟨r1, rfl⟩ := this
        rw [lexB_pre]
        cases r with
        | nil => exact absurd rfl hr
        | cons y r2 =>
          have := h3 y List.mem_cons_self
          simp only [lexB]
          rw [if_neg (by omega)]
          exact decide_eq_true (by omega)
theorem visR_has {l : List Item} {budget : Int} : ∀ {d : Nat} {ch r : List Int}, d ≤ l.length → IncL (l.length - d) l.length r → (∀ (a : List Int) (x : Nat) (b : List Int), r = a ++ (x : Int) :: b → addsOk l budget (ch ++ a) x = true) → ch ++ r ∈ ch :: visR l budget d ch
  | d, ch, [], _, _, _ => by simp
  | 0, ch, x :: r, _, h, _ => by have := h.2 x List.mem_cons_self; omega
  | d + 1, ch, x :: r, hd, ⟨h1, h2⟩, h3 => by
    have hx := h2 x List.mem_cons_self
    obtain ⟨h4, h5⟩ := List.pairwise_cons.1 h1
    refine List.mem_cons_of_mem _ ?_
    rw [visR]
    by_cases hxi : x = ((l.length - (d + 1) : Nat) : Int)
    · subst hxi
      have hok := h3 [] (l.length - (d + 1)) r rfl
      rw [List.append_nil] at hok
      rw [if_pos hok]
      refine List.mem_append_left _ ?_
      have := visR_has (l := l) (budget := budget) (d := d) (ch := ch ++ [((l.length - (d + 1) : Nat) : Int)]) (r := r) (by omega) ⟨h5, fun y hy => by have := h4 y hy; have := h2 y (List.mem_cons_of_mem _ hy); omega⟩ fun a y b hab => by
        have := h3 (((l.length - (d + 1) : Nat) : Int) :: a) y b (by rw [hab]; rfl)
        simpa using this
      simpa using this
    · have := visR_has (l := l) (budget := budget) (d := d) (ch := ch) (r := x :: r) (by omega) ⟨h1, fun y hy => by
        have hy2 := h2 y hy
        rcases List.mem_cons.1 hy with rfl | hy
        · omega
        · have := h4 y hy; omega⟩ h3
      rcases List.mem_cons.1 this with h | h
      · have := congrArg List.length h
        simp at this
      · exact List.mem_append_right _ h

/-! #### What the definition says -/
theorem setTo_inc (s : Nat) : ∀ k, IncL 0 k (setTo s k)
  | 0 => ⟨.nil, fun _ h => by cases h⟩
  | k + 1 => by
    obtain ⟨h1, h2⟩ := setTo_inc s k
    rw [setTo]
    split
    · refine ⟨List.pairwise_append.2 ⟨h1, by simp, fun a ha b hb => ?_⟩, fun x hx => ?_⟩
      · simp at hb; subst hb; exact (h2 a ha).2
      · rcases List.mem_append.1 hx with hx | hx
        · have := h2 x hx; omega
        · simp at hx; subst hx; omega
    · exact ⟨h1, fun x hx => by have := h2 x hx; omega⟩
theorem setCh_inc (l : List Item) (s : Nat) : IncL 0 l.length (setCh l s) := setTo_inc s _
theorem ex_bits (p : Nat → Bool) : ∀ n : Nat, ∃ s, s < 2 ^ n ∧ ∀ i, i < n → s.testBit i = p i
  | 0 => ⟨0, by simp, fun i h => by omega⟩
  | n + 1 => by
    obtain ⟨s, h1, h2⟩ := ex_bits p n
    have hp : 2 ^ (n + 1) = 2 ^ n + 2 ^ n := by rw [Nat.pow_succ]; omega
    cases hn : p n with
    | false =>
      refine ⟨s, by omega, fun i hi => ?_⟩
      by_cases h : i = n
      · subst h; rw [Nat.testBit_lt_two_pow h1, hn]
      · exact h2 i (by omega)
    | true =>
      refine ⟨2 ^ n + s, by omega, fun i hi => ?_⟩
      by_cases h : i = n
      · subst h; rw [Nat.testBit_two_pow_add_eq, Nat.testBit_lt_two_pow h1, hn]; rfl
      · rw [Nat.testBit_two_pow_add_gt (by omega)]; exact h2 i (by omega)
theorem inc_filter : ∀ {c : List Int} (k : Nat), c.Pairwise (· < ·) → (c.filter fun x => decide (x < ((k + 1 : Nat) : Int))) = (c.filter fun x => decide (x < (k : Int))) ++ (if (k : Int) ∈ c then [(k : Int)] else [])
  | [], k, _ => by simp
  | x :: c, k, h => by
    obtain ⟨h1, h2⟩ := List.pairwise_cons.1 h
    have ih := inc_filter k h2
    by_cases hx : x < (k : Int)
    · have e1 : decide (x < ((k + 1 : Nat) : Int)) = true := decide_eq_true (by omega)
      have e2 : decide (x < (k : Int)) = true := decide_eq_true hx
      simp only [List.filter_cons, e1, e2, if_true, ih, List.cons_append, List.mem_cons]
      have : ((k : Int) = x ∨ (k : Int) ∈ c) ↔ (k : Int) ∈ c := ⟨fun h => h.resolve_left (by omega), .inr⟩
      simp only [this]
    · have e2 : decide (x < (k : Int)) = false := decide_eq_false hx
      have e3 : (c.filter fun x => decide (x < (k : Int))) = [] := List.filter_eq_nil_iff.2 fun y hy => by have := h1 y hy; simp; omega
      have e4 : ¬ (k : Int) ∈ c := fun hk => by have := h1 _ hk; omega
      rw [e3, if_neg e4, List.append_nil] at ih
      by_cases hk : x = (k : Int)
      · subst hk
        have e1 : decide ((k : Int) < ((k + 1 : Nat) : Int)) = true := decide_eq_true (by omega)
        simp only [List.filter_cons, e1, e2, if_true, ih, e3, List.mem_cons, true_or]
        simp
      · have e1 : decide (x < ((k + 1 : Nat) : Int)) = false := decide_eq_false (by omega)
        have e5 : ¬ (k : Int) ∈ x :: c := fun h => by
          rcases List.mem_cons.1 h with h | h
          · exact hk h.symm
          · exact e4 h
        simp only [List.filter_cons, e1, e2, ih, e3, if_neg e5]
        simp
theorem setCh_all {l : List Item} {c : List Int} (h : IncL 0 l.length c) : ∃ s, s < 2 ^ l.length ∧ setCh l s = c := by
  obtain ⟨s, h1, h2⟩ := ex_bits (fun i => decide ((i : Int) ∈ c)) l.length
  refine ⟨s, h1, ?_⟩
  have key : ∀ k, k ≤ l.length → setTo s k = c.filter fun x => decide (x < (k : Int)) := by
    intro k
    induction k with
    | zero =>
      intro _
      symm
      exact List.filter_eq_nil_iff.2 fun y hy => by have := h.2 y hy; simp; omega
    | succ k ih =>
      intro hk
      rw [setTo, h2 k (by omega), ih (by omega), inc_filter k h.1]
      by_cases hm : (k : Int) ∈ c
      · simp [hm]
      · simp [hm]
  rw [setCh, key _ (Nat.le_refl _)]
  exact List.filter_eq_self.2 fun x hx => by have := h.2 x hx; simp; omega
theorem bestTo_spec (l : List Item) (budget : Int) : ∀ k, (bestTo l budget k = none ∧ ∀ s, s < k → budget < costN l (setCh l s)) ∨ ∃ r s, bestTo l budget k = some r ∧ s < k ∧ r = setCh l s ∧ costN l r ≤ budget ∧ ∀ t, t < k → costN l (setCh l t) ≤ budget → ¬ btr l (setCh l t) r
  | 0 => .inl ⟨rfl, fun s h => by omega⟩
  | k + 1 => by
    have e : bestTo l budget (k + 1) = if budget < costN l (setCh l k) then bestTo l budget k else match bestTo l budget k with | none => some (setCh l k) | some b => if btr l (setCh l k) b then some (setCh l k) else some b := rfl
    rw [e]
    by_cases hb : budget < costN l (setCh l k)
    · rw [if_pos hb]
      rcases bestTo_spec l budget k with ⟨h1, h2⟩ | ⟨r, s, h1, h2, h3, h4, h5⟩
      · refine .inl ⟨h1, fun s hs => ?_⟩
        by_cases e : s = k
        · subst e; exact hb
        · exact h2 s (by omega)
      · refine .inr ⟨r, s, h1, by omega, h3, h4, fun t ht hc => ?_⟩
        by_cases e : t = k
        · subst e; omega
        · exact h5 t (by omega) hc
    · rw [if_neg hb]
      rcases bestTo_spec l budget k with ⟨h1, h2⟩ | ⟨r, s, h1, h2, h3, h4, h5⟩
      · rw [h1]
        refine .inr ⟨setCh l k, k, rfl, by omega, rfl, by omega, fun t ht hc => ?_⟩
        by_cases e : t = k
        · subst e; exact btr_irr
        · have := h2 t (by omega); omega
      · rw [h1]
        simp only
        by_cases hbt : btr l (setCh l k) r
        · rw [if_pos hbt]
          refine .inr ⟨setCh l k, k, rfl, by omega, rfl, by omega, fun t ht hc => ?_⟩
          by_cases e : t = k
          · subst e; exact btr_irr
          · exact fun h => h5 t (by omega) hc (btr_trans h hbt)
        · rw [if_neg hbt]
          refine .inr ⟨r, s, rfl, by omega, h3, h4, fun t ht hc => ?_⟩
          by_cases e : t = k
          · subst e; exact hbt
          · exact h5 t (by omega) hc
theorem costN_app (l : List Item) (a b : List Int) : costN l (a ++ b) = costN l a + costN l b := by simp [costN]
theorem costN_one (l : List Item) (x : Int) (b : List Int) : costN l (x :: b) = (itemAt l x).cost + costN l b := by simp [costN]
theorem InC {l : List Item} {lo : Nat} {r : List Int} (h : IncL lo l.length r) : InCh l r := fun x hx => by have := h.2 x hx; omega
theorem best_spec {l : List Item} (budget : Int) (h0 : 0 ≤ budget) : IncL 0 l.length (bestL l budget) ∧ costN l (bestL l budget) ≤ budget ∧ ∀ c, IncL 0 l.length c → costN l c ≤ budget → ¬ btr l c (bestL l budget) := by
  unfold bestL
  rcases bestTo_spec l budget (2 ^ l.length) with ⟨h1, h2⟩ | ⟨r, s, h1, h2, h3, h4, h5⟩
  · obtain ⟨s, hs, he⟩ := setCh_all (l := l) (c := []) ⟨.nil, fun _ h => by cases h⟩
    have := h2 s hs
    rw [he] at this
    simp [costN] at this
    omega
  · rw [h1, Option.getD_some]
    refine ⟨h3 ▸ setCh_inc l s, h4, fun c hc hb => ?_⟩
    obtain ⟨t, ht, rfl⟩ := setCh_all hc
    exact h5 t ht hb
theorem best_neg {l : List Item} (hl : ∀ x ∈ l, 0 ≤ x.cost ∧ x.cost ≤ 1000000) {budget : Int} (h0 : budget < 0) : bestL l budget = [] := by
  unfold bestL
  rcases bestTo_spec l budget (2 ^ l.length) with ⟨h1, h2⟩ | ⟨r, s, h1, h2, h3, h4, h5⟩
  · rw [h1]; rfl
  · have := (costN_bd hl (InC (setCh_inc l s))).1
    rw [← h3] at this
    omega
/-- What the search finds is what the definition says. -/
theorem best_eq {l : List Item} (hl : ∀ x ∈ l, 1 ≤ x.cost ∧ x.cost ≤ 1000000) (budget : Int) : foldV l none ([] :: visR l budget l.length []) = some (bestL l budget) := by
  have hl0 : ∀ x ∈ l, 0 ≤ x.cost ∧ x.cost ≤ 1000000 := fun x hx => by have := hl x hx; omega
  by_cases h0 : 0 ≤ budget
  rotate_left
  · have hv : visR l budget l.length [] = [] := by
      cases hV : visR l budget l.length [] with
      | nil => rfl
      | cons c V =>
        obtain ⟨r, rfl, _, hi, hb⟩ := visR_mem (Nat.le_refl _) (c := c) (by rw [hV]; exact List.mem_cons_self)
        have := (costN_bd hl0 (InC hi)).1
        omega
    rw [hv, best_neg hl0 (by omega)]
    rfl
  obtain ⟨hi, hb, hopt⟩ := best_spec (l := l) budget h0
  obtain ⟨r, hr, A, B, hAB, hA, hB⟩ := foldV_first (l := l) (V := visR l budget l.length []) (c := [])
  rw [hr]
  congr 1
  -- the best choice is visited
  have hR : bestL l budget ∈ [] :: visR l budget l.length [] := by
    have := visR_has (l := l) (budget := budget) (d := l.length) (ch := []) (r := bestL l budget) (Nat.le_refl _) (by rw [Nat.sub_self]; exact hi) fun a x b hab => by
      rw [List.nil_append]
      rw [hab] at hi hb hopt
      obtain ⟨hp, hr⟩ := hi
      have hx := hr (x : Int) (by simp)
      have hia : IncL 0 l.length a := ⟨(List.pairwise_append.1 hp).1, fun y hy => hr y (by simp [hy])⟩
      have hib : IncL 0 l.length b := ⟨(List.pairwise_cons.1 (List.pairwise_append.1 hp).2.1).2, fun y hy => hr y (by simp [hy])⟩
      have hc1 : costN l (a ++ (x : Int) :: b) = costN l (a ++ [(x : Int)]) + costN l b := by rw [costN_app, costN_app, costN_one, costN_one]; simp [costN]; omega
      have hcb := (costN_bd hl0 (InC hib)).1
      rw [addsOk, Bool.and_eq_true]
      refine ⟨?_, decide_eq_true (by omega)⟩
      rw [Bool.not_eq_true', ← Bool.not_eq_true, sameP_iff]
      intro hsame
      refine hopt (a ++ b) ⟨?_, fun y hy => hr y (by rcases List.mem_append.1 hy with h | h <;> simp [h])⟩ ?_ (.inl (.inr ⟨?_, ?_⟩))
      · rw [List.pairwise_append] at hp ⊢
        exact ⟨hp.1, (List.pairwise_cons.1 hp.2.1).2, fun p hp1 q hq => hp.2.2 p hp1 q (List.mem_cons_of_mem _ hq)⟩
      · have h1 := (hl _ (List.mem_of_getElem? (itemAt_get (l := l) (i := (x : Int)) ⟨by omega, by omega⟩))).1
        rw [costN_app]
        rw [costN_app, costN_one] at hb
        omega
      · refine cnt_congr fun n hn => ?_
        have := hsame n hn
        simp only [killedP, List.any_append, List.any_cons, List.any_nil, Bool.or_false] at this ⊢
        revert this
        generalize (a.any fun i => (itemAt l i).kills.contains (n : Int)) = p
        generalize (b.any fun i => (itemAt l i).kills.contains (n : Int)) = q
        generalize (itemAt l (x : Int)).kills.contains (n : Int) = t
        cases p <;> cases q <;> cases t <;> simp
      · have h1 := (hl _ (List.mem_of_getElem? (itemAt_get (l := l) (i := (x : Int)) ⟨by omega, by omega⟩))).1
        rw [costN_app, costN_app, costN_one]
        omega
    simpa using this
  have hrV : r ∈ [] :: visR l budget l.length [] := by rw [hAB]; simp
  have hri : IncL 0 l.length r ∧ costN l r ≤ budget := by
    rcases List.mem_cons.1 hrV with rfl | h
    · exact ⟨⟨.nil, fun _ h => by cases h⟩, by simp [costN]; exact h0⟩
    · obtain ⟨q, rfl, _, hq, hc⟩ := visR_mem (Nat.le_refl _) h
      rw [Nat.sub_self] at hq
      exact ⟨by simpa using hq, hc⟩
  have hno := hopt r hri.1 hri.2
  have hsort := visR_sorted (l := l) (budget := budget) (d := l.length) (ch := []) (Nat.le_refl _)
  rw [hAB] at hR hsort
  rcases List.mem_append.1 hR with h | h
  · exact absurd (.inl (hA _ h)) hno
  · rcases List.mem_cons.1 h with h | h
    · exact h.symm
    · have h1 := hB _ h
      have h2 : ¬ kb l r (bestL l budget) := fun h => hno (.inl h)
      have h3 : lexB r (bestL l budget) = true := (List.pairwise_cons.1 (List.pairwise_append.1 hsort).2.1).1 _ h
      exact absurd (.inr ⟨by unfold kb at h1 h2; omega, by unfold kb at h1 h2; omega, h3⟩) hno
theorem best_grows {l : List Item} {b c : Int} (hl : ∀ x ∈ l, 0 ≤ x.cost ∧ x.cost ≤ 1000000) (h : b ≤ c) (h0 : 0 ≤ c) : killedN l (bestL l b) ≤ killedN l (bestL l c) := by
  by_cases hb : 0 ≤ b
  · obtain ⟨h1, h2, _⟩ := best_spec (l := l) b hb
    obtain ⟨_, _, h3⟩ := best_spec (l := l) c h0
    have := h3 _ h1 (by omega)
    unfold btr kb at this
    omega
  · rw [best_neg hl (by omega)]
    have : killedP l [] = fun _ => false := by funext k; simp [killedP]
    have e : killedN l [] = 0 := by unfold killedN; rw [this]; decide
    rw [e]; exact Nat.zero_le _
end Go.Avl
namespace Go.Avl
open Go Go.Proofs.Tryd
set_option maxRecDepth 10000
set_option linter.unusedSimpArgs false

theorem before_is (na nb : Bool) (a b : List Int) (ca cb : Cp) (hl : a.length < 1000000) (hl2 : b.length < 1000000) :
    PureIs prog 59 [.sl na (a.map intC) ca, .sl nb (b.map intC) cb] (.sc (.bool (lexB a b))) := by
  refine PureIs.of (nv := 2) (hid := [4, 5, 15, 26]) func59 rfl (by kernel_rfl) (by simp [ntmps59]) fun _ => ?_
  rw [ntmps59, results59]
  refine EvC.seq (EvC.rg (by (simp only [go_sem]) <;> rfl) (by simp) ?_)
  refine EvC.seq ?_
  refine EvC.seq (EvC.rg (by (simp only [go_sem]) <;> rfl) (by simp) ?_)
  refine EvC.block ?_  -- 0
  refine EvC.loopS (σ := Nat) (fun i => ⟨[(0, .sl na (a.map intC) ca), (1, .sl nb (b.map intC) cb), (5, .sc (.int .i64 i))], [], [], 0⟩) (fun i => a.length - i) (fun i => i ≤ a.length ∧ i ≤ b.length ∧ lexB a b = lexB (a.drop i) (b.drop i)) [0, 1, 5] 0 ?_ ?_
  · exact ⟨[], 0, rfl, (by (simp only [go_sem, Int.natCast_zero]) <;> rfl), Nat.zero_le _, Nat.zero_le _, rfl⟩
  rintro i ⟨hi, hi2, hinv⟩
  refine EvC.seq ?_
  by_cases hend : i < a.length ∧ i < b.length
  rotate_left
  · -- else
    have hres : lexB a b = decide ((a.length : Int) < b.length) := by
      rw [hinv]
      rcases Nat.lt_or_ge i a.length with h | h
      · have hb : b.length = i := by omega
        rw [← hb, List.drop_length, hb, List.drop_eq_getElem_cons h]
        simp only [lexB]
        symm; exact decide_eq_false (by omega)
      · have ha : a.length = i := by omega
        rw [← ha, List.drop_length]
        rcases Nat.lt_or_ge a.length b.length with h2 | h2
        · rw [List.drop_eq_getElem_cons h2]
          simp only [lexB]
          symm; exact decide_eq_true (by omega)
        · rw [List.drop_of_length_le h2]
          simp only [lexB]
          symm; exact decide_eq_false (by omega)
    rw [hres]
    have hcond : decide ((i : Int) < a.length) = false ∨ (decide ((i : Int) < a.length) = true ∧ decide ((i : Int) < b.length) = false) := by
      by_cases h : i < a.length
      · exact .inr ⟨decide_eq_true (by omega), decide_eq_false (by omega)⟩
      · exact .inl (decide_eq_false (by omega))
    rcases hcond with h | ⟨h, h'⟩
    · apply EvC.seq
      apply EvC.trd
      · (simp only [go_sem, List.length_map, h]) <;> rfl
      · simp
      refine EvC.cond_false (by (simp only [go_sem]) <;> rfl) ?_
      refine EvC.exit ?_  -- 0
      refine EvC.seq (EvC.rg (by (simp only [go_sem, List.length_map]) <;> rfl) (by simp) ?_)
      refine EvC.ret ⟨.inl rfl, _, (by (simp only [go_sem]) <;> rfl), ?_, rfl⟩
      simp only [go_sem]
    · apply EvC.seq
      apply EvC.trd
      · (simp only [go_sem, List.length_map, h, h']) <;> rfl
      · simp
      refine EvC.cond_false (by (simp only [go_sem]) <;> rfl) ?_
      refine EvC.exit ?_  -- 0
      refine EvC.seq (EvC.rg (by (simp only [go_sem, List.length_map]) <;> rfl) (by simp) ?_)
      refine EvC.ret ⟨.inl rfl, _, (by (simp only [go_sem]) <;> rfl), ?_, rfl⟩
      simp only [go_sem]
  obtain ⟨h1, h2⟩ := hend
  have d1 : decide ((i : Int) < a.length) = true := decide_eq_true (by omega)
  have d2 : decide ((i : Int) < b.length) = true := decide_eq_true (by omega)
  apply EvC.seq
  apply EvC.trd
  · (simp only [go_sem, List.length_map, d1, d2]) <;> rfl
  · simp
  refine EvC.cond_true (by (simp only [go_sem]) <;> rfl) ?_
  have he : a[i]? = some (a[i]'h1) := List.getElem?_eq_getElem h1
  have hf : b[i]? = some (b[i]'h2) := List.getElem?_eq_getElem h2
  generalize a[i]'h1 = x at he
  generalize b[i]'h2 = y at hf
  rw [list_step he, list_step hf, lexB] at hinv
  have hin : (i : Int).toNat = i := Int.toNat_natCast i
  refine EvC.skip ?_
  refine EvC.seq ?_
  refine EvC.block ?_  -- 1
  apply EvC.seq
  apply EvC.drd mixed
  · (simp only [go_sem, he, hf, intC, hin]) <;> rfl
  · simp
  · kernel_rfl
  refine EvC.cond (by (simp only [go_sem]) <;> rfl) (fun hc => ?_) (fun hc => ?_)
  · -- then
    have hxy : ¬ x = y := by simpa using hc
    rw [if_neg hxy] at hinv
    rw [hinv]
    apply EvC.seq
    apply EvC.drd mixed
    · (simp only [go_sem, he, hf, intC, hin]) <;> rfl
    · simp
    · kernel_rfl
    refine EvC.ret ⟨.inl rfl, _, (by (simp only [go_sem]) <;> rfl), ?_, rfl⟩
    simp only [go_sem]
  have hxy : x = y := by simpa using hc
  rw [if_pos hxy] at hinv
  refine EvC.skip ?_
  refine EvC.rg (by (simp only [go_sem]) <;> rfl) (by exact inI64_of (by omega) (by omega)) ?_
  exact ⟨[], i + 1, rfl, (by (simp only [go_sem, Int.natCast_add, Int.natCast_one]) <;> rfl), ⟨h1, h2, hinv⟩, by omega⟩

theorem clone62_is (nl : Bool) (xs : List Int) (c : Cp) (hl : xs.length < 1000000) (hn : nl = true → xs = []) : PureIs prog 62 [.sl nl (xs.map intC) c] (.sl nl (xs.map intC) .unk) := by
  refine PureIs.of (nv := 1) (hid := [2, 4]) func62 rfl (by kernel_rfl) (by simp [ntmps62]) fun _ => ?_
  rw [ntmps62, results62]
  refine EvC.seq (EvC.rg (by (simp only [go_sem]) <;> rfl) (by simp) ?_)
  refine EvC.seq ?_
  refine EvC.seq (EvC.rg (by (simp only [go_sem]) <;> rfl) (by simp) ?_)
  cases nl with
  | true =>
    rw [hn rfl]
    refine EvC.cond_true (by (simp only [go_sem]) <;> rfl) ?_
    refine EvC.seq (EvC.rg (by (simp only [go_sem]) <;> rfl) (by simp) ?_)
    refine EvC.ret ⟨.inl rfl, _, (by (simp only [go_sem]) <;> rfl), ?_, rfl⟩
    simp only [go_sem]
  | false =>
    refine EvC.cond_false (by (simp only [go_sem]) <;> rfl) ?_
    refine EvC.skip ?_
    have hr1 : room xs.length 8 = true := by simp only [room_eq, decide_eq_true_eq]; omega
    have hr3 : ∀ x ∈ xs, (intC x).length = 1 := fun _ _ => rfl
    refine EvC.seq (EvC.rg (by (simp only [go_sem, List.length_map]) <;> rfl) (by simp [hr1]; try exact hr3) ?_)
    refine EvC.frz 5 (by (simp only [go_sem, List.length_map]) <;> rfl) ?_
    refine EvC.ret ⟨.inl rfl, _, (by (simp only [go_sem, List.length_map]) <;> rfl), ?_, by simp [AV.noref, norefs_ints]⟩
    simp only [go_sem, List.length_map]
theorem flat_ints (xs : List Int) : flat (xs.map intC) = true := by simp [flat, intC, isSc, List.all_eq_true]
theorem clone62_fr (nl : Bool) (xs : List Int) (c : Cp) (hl : xs.length < 1000000) (hn : nl = true → xs = []) : PureFr prog 62 [.sl nl (xs.map intC) c] (.sl nl (xs.map intC) .unk) := by
  refine PureFr.of (nv := 1) (hid := [2, 4]) func62 rfl (by kernel_rfl) (by simp [ntmps62]) fun _ => ?_
  rw [ntmps62, results62]
  refine EvC.seq (EvC.rg (by (simp only [go_sem]) <;> rfl) (by simp) ?_)
  refine EvC.seq ?_
  refine EvC.seq (EvC.rg (by (simp only [go_sem]) <;> rfl) (by simp) ?_)
  cases nl with
  | true =>
    rw [hn rfl]
    refine EvC.cond_true (by (simp only [go_sem]) <;> rfl) ?_
    refine EvC.seq (EvC.rg (by (simp only [go_sem]) <;> rfl) (by simp) ?_)
    refine EvC.ret ⟨.inl rfl, _, _, (by (simp only [go_sem]) <;> rfl), (by (simp only [go_sem, freshAll, freshOne, flat, List.all_nil]) <;> rfl), ?_⟩
    rfl
  | false =>
    refine EvC.cond_false (by (simp only [go_sem]) <;> rfl) ?_
    refine EvC.skip ?_
    have hr1 : room xs.length 8 = true := by simp only [room_eq, decide_eq_true_eq]; omega
    have hr3 : ∀ x ∈ xs, (intC x).length = 1 := fun _ _ => rfl
    refine EvC.seq (EvC.rg (by (simp only [go_sem, List.length_map]) <;> rfl) (by simp [hr1]; try exact hr3) ?_)
    refine EvC.ret ⟨.inl rfl, _, _, (by (simp only [go_sem]) <;> rfl), (by (simp only [go_sem, freshAll, freshOne, flat_ints, List.length_map]) <;> rfl), ?_⟩
    rfl
theorem clip47_is (nl : Bool) (xs : List Int) (c : Cp) : PureIs prog 47 [.sl nl (xs.map intC) c] (.sl nl (xs.map intC) .full) := by
  have hr3 : ∀ x ∈ xs, (intC x).length = 1 := fun _ _ => rfl
  refine PureIs.of (nv := 1) (hid := [2]) func47 rfl (by kernel_rfl) (by simp [ntmps47]) fun _ => ?_
  rw [ntmps47, results47]
  refine EvC.seq (EvC.rg (by (simp only [go_sem]) <;> rfl) (by simp) ?_)
  refine EvC.seq (EvC.rg (by (simp only [go_sem, List.length_map, Int.toNat_natCast, List.drop_zero]) <;> rfl) (by simp; try exact hr3) ?_)
  refine EvC.ret ⟨.inl rfl, _, (by (simp only [go_sem]) <;> rfl), ?_, by simp [AV.noref, norefs_ints]⟩
  simp only [go_sem]
  rw [List.take_of_length_le (by simp)]
end Go.Avl
namespace Go.Avl
open Go Go.Proofs.Tryd
set_option maxRecDepth 10000
set_option linter.unusedSimpArgs false

theorem shl1 : ∀ n : Fin 17, shiftOf .shl .i64 1 n.1 = ((2 ^ n.1 : Nat) : Int) := by decide
theorem bit_shr (s i : Nat) (hi : i ≤ 64) : decide (shiftOf .shr .i64 (s : Int) i % 2 = 1) = s.testBit i := by
  have hm : min i IntKind.i64.bits = i := Nat.min_eq_left hi
  have e : shiftOf .shr .i64 (s : Int) i = ((s >>> i : Nat) : Int) := by
    simp only [shiftOf, hm]
    rw [Nat.shiftRight_eq_div_pow, Int.natCast_ediv, Int.natCast_pow]
    exact Int.fdiv_eq_ediv_of_nonneg _ (by exact_mod_cast Nat.zero_le (2 ^ i))
  rw [e, Nat.testBit_eq_decide_div_mod_eq, ← Nat.shiftRight_eq_div_pow]
  refine decide_eq_decide.2 ?_
  omega
theorem shr_nn (s i : Nat) : 0 ≤ shiftOf .shr .i64 (s : Int) i := by
  simp only [shiftOf]
  exact Int.fdiv_nonneg (Int.natCast_nonneg _) (by exact_mod_cast Nat.zero_le (2 ^ _))
def bestK (l : List Item) (budget : Int) (k : Nat) : List Int := (bestTo l budget k).getD []
theorem bestK_inc (l : List Item) (budget : Int) (k : Nat) : IncL 0 l.length (bestK l budget k) := by
  unfold bestK
  rcases bestTo_spec l budget k with ⟨h, _⟩ | ⟨r, s, h, _, h3, _⟩
  · rw [h]; exact ⟨.nil, fun _ h => by cases h⟩
  · rw [h, Option.getD_some, h3]; exact setCh_inc l s
theorem inc_len {n : Nat} {r : List Int} (h : IncL 0 n r) : r.length ≤ n := nodup_len n r (h.1.imp fun hab => by omega) fun i hi => by have := h.2 i hi; omega

theorem stepC_over {l : List Item} {budget : Int} {st : Option (List Int)} {ch : List Int} (h : budget < costN l ch) : stepC l budget st ch = st := by unfold stepC; exact if_pos h
theorem stepC_none {l : List Item} {budget : Int} {ch : List Int} (h : ¬ budget < costN l ch) : stepC l budget none ch = some ch := by unfold stepC; exact if_neg h
theorem stepC_some {l : List Item} {budget : Int} {b ch : List Int} (h : ¬ budget < costN l ch) : stepC l budget (some b) ch = if btr l ch b then some ch else some b := by unfold stepC; rw [if_neg h]
set_option maxHeartbeats 4000000 in
theorem refBest_is (nl : Bool) (l : List Item) (c : Cp) (budget : Int) (hl : ∀ x ∈ l, (0 ≤ x.cost ∧ x.cost ≤ 1000000) ∧ x.kills.length < 1000000) (hn : l.length ≤ 16) :
    PureIs prog 32 [.sl nl (l.map itemC) c, .sc (.int .i64 budget)] (.sl (bestL l budget).isEmpty ((bestL l budget).map intC) .unk) := by
  have hlc : ∀ x ∈ l, 0 ≤ x.cost ∧ x.cost ≤ 1000000 := fun x hx => (hl x hx).1
  have hlk : ∀ x ∈ l, x.kills.length < 1000000 := fun x hx => (hl x hx).2
  have hpow : shiftOf .shl .i64 1 l.length = ((2 ^ l.length : Nat) : Int) := shl1 ⟨l.length, by omega⟩
  have hpb : 2 ^ l.length ≤ 65536 := Nat.pow_le_pow_right (by omega) hn
  refine PureIs.of (nv := 2) (hid := [4, 5, 6, 7, 8, 9, 10, 11, 12, 17, 23, 30, 40, 77]) func32 rfl (by kernel_rfl) (by simp [ntmps32]) fun _ => ?_
  rw [ntmps32, results32]
  refine EvC.seq (EvC.rg (by (simp only [go_sem]) <;> rfl) (by simp) ?_)
  refine EvC.seq (EvC.rg (by (simp only [go_sem]) <;> rfl) (by simp) ?_)
  refine EvC.seq (EvC.rg (by (simp only [go_sem]) <;> rfl) (by simp) ?_)
  refine EvC.seq ?_
  refine EvC.seq (EvC.rg (by (simp only [go_sem]) <;> rfl) (by simp) ?_)
  refine EvC.block ?_  -- 0
  refine EvC.loopS (σ := Nat) (fun k => ⟨[(0, .sl nl (l.map itemC) c), (1, .sc (.int .i64 budget)), (5, .tl 0 (bestK l budget k).length (bestK l budget k).isEmpty), (6, .sc (.bool (bestTo l budget k).isSome)), (7, .sc (.int .i64 k))], [], [(0, .arr 1 ((bestK l budget k).map intC) true)], 1⟩) (fun k => 2 ^ l.length - k) (fun k => k ≤ 2 ^ l.length) [0, 1, 5, 6, 7] 1 ?_ ?_
  · exact ⟨[(1, 0)], 0, rfl, (by (simp only [go_sem, Int.natCast_zero, bestK, bestTo, Option.getD_none, List.map_nil, List.length_nil, List.isEmpty_nil, Option.isSome_none]) <;> rfl), Nat.zero_le _⟩
  intro k hk1
  have hbi := bestK_inc l budget k
  have hbl := inc_len hbi
  have hks : bestK l budget (k + 1) = (bestTo l budget (k + 1)).getD [] := rfl
  have hst : bestTo l budget (k + 1) = stepC l budget (bestTo l budget k) (setCh l k) := rfl
  have hbk : bestK l budget k = (bestTo l budget k).getD [] := rfl
  refine EvC.seq ?_
  refine EvC.seq (EvC.rg (by (simp only [go_sem, List.length_map, hpow]) <;> rfl) (by simp) ?_)
  refine EvC.cond (by (simp only [go_sem]) <;> rfl) (fun hc => ?_) (fun hc => ?_)
  rotate_left
  · -- else
    refine EvC.exit ?_  -- 0
    obtain rfl : k = 2 ^ l.length := by have : ¬ (k : Int) < ((2 ^ l.length : Nat) : Int) := by simpa using hc
                                        omega
    rw [show bestL l budget = bestK l budget (2 ^ l.length) from rfl]
    generalize bestK l budget (2 ^ l.length) = L
    refine EvC.seq (EvC.rg (by (simp only [go_sem, List.length_map]) <;> rfl) (by simp) ?_)
    refine EvC.ret ⟨.inl rfl, _, (by (simp only [go_sem]) <;> rfl), ?_, rfl⟩
    simp only [go_sem]
  have hkl : k < 2 ^ l.length := by have : (k : Int) < ((2 ^ l.length : Nat) : Int) := by simpa using hc
                                    omega
  clear hc
  generalize hB : bestK l budget k = B at *
  generalize hO : bestTo l budget k = O at *
  refine EvC.skip ?_
  refine EvC.seq ?_
  refine EvC.block ?_  -- 1
  refine EvC.seq (EvC.rg (by (simp only [go_sem]) <;> rfl) (by simp) ?_)
  refine EvC.seq ?_
  refine EvC.seq (EvC.rg (by (simp only [go_sem]) <;> rfl) (by simp) ?_)
  refine EvC.block ?_  -- 2
  refine EvC.loopS (σ := Nat) (fun i => ⟨[(0, .sl nl (l.map itemC) c), (1, .sc (.int .i64 budget)), (5, .tl 0 B.length B.isEmpty), (6, .sc (.bool O.isSome)), (7, .sc (.int .i64 k)), (8, .tl 1 (setTo k i).length (setTo k i).isEmpty), (9, .sc (.int .i64 i))], [], [(0, .arr 1 (B.map intC) true), (1, .arr 1 ((setTo k i).map intC) true)], 2⟩) (fun i => l.length - i) (fun i => i ≤ l.length) [0, 1, 5, 6, 7, 8, 9] 2 ?_ ?_
  · exact ⟨[(0, 0), (6, 1)], 0, rfl, (by (simp only [go_sem, Int.natCast_zero, setTo, List.map_nil, List.length_nil, List.isEmpty_nil]) <;> rfl), Nat.zero_le _⟩
  intro i hi
  refine EvC.seq ?_
  refine EvC.seq (EvC.rg (by (simp only [go_sem, List.length_map]) <;> rfl) (by simp) ?_)
  refine EvC.cond (by (simp only [go_sem]) <;> rfl) (fun hc => ?_) (fun hc => ?_)
  rotate_left
  · -- else
    refine EvC.exit ?_  -- 2
    obtain rfl : l.length = i := by have : ¬ i < l.length := by simpa using hc
                                    omega
    clear hc
    have hSi := setCh_inc l k
    have hSl := inc_len hSi
    rw [show setTo k l.length = setCh l k from rfl]
    have q1 := cost_is nl l c (setCh l k).isEmpty (setCh l k) .unk hlc (InC hSi) (by omega)
    have q2 := killed_is nl l c (setCh l k).isEmpty (setCh l k) .unk hlk (InC hSi) (by omega)
    have q3 := killed_is nl l c B.isEmpty B .unk hlk (InC hbi) (by omega)
    have q4 := cost_is nl l c B.isEmpty B .unk hlc (InC hbi) (by omega)
    have q5 := before_is (setCh l k).isEmpty B.isEmpty (setCh l k) B .unk .unk (by omega) (by omega)
    have hbtr : btr l (setCh l k) B ↔ (killedN l B < killedN l (setCh l k) ∨ (killedN l (setCh l k) = killedN l B ∧ (costN l (setCh l k) < costN l B ∨ (costN l (setCh l k) = costN l B ∧ lexB (setCh l k) B = true)))) := by
      unfold btr kb
      constructor
      · rintro ((h | ⟨h, h'⟩) | ⟨h, h', h''⟩)
        · exact .inl h
        · exact .inr ⟨h, .inl h'⟩
        · exact .inr ⟨h, .inr ⟨h', h''⟩⟩
      · rintro (h | ⟨h, h' | ⟨h', h''⟩⟩)
        · exact .inl (.inl h)
        · exact .inl (.inr ⟨h, h'⟩)
        · exact .inr ⟨h, h', h''⟩
    generalize hS : setCh l k = S at *
    generalize hC : costN l S = C at *
    generalize hCB : costN l B = CB at *
    obtain ⟨N, hN⟩ : ∃ N : Int, N = ((killedN l S : Nat) : Int) := ⟨_, rfl⟩
    obtain ⟨NB, hNB⟩ : ∃ N : Int, N = ((killedN l B : Nat) : Int) := ⟨_, rfl⟩
    rw [← hN] at q2
    rw [← hNB] at q3
    apply EvC.seq
    apply EvC.tr
    · apply Tr.run
      · (simp only [go_sem]) <;> rfl
      · simp
      apply Tr.cons
      · exact .call rfl rfl (by (simp only [go_sem]) <;> rfl) (by (simp only [go_sem]) <;> rfl) (by (simp only [go_sem]) <;> rfl) (by (simp only [go_sem]) <;> rfl) (by (simp only [go_sem]) <;> rfl) (q1)
      apply Tr.done
      · (simp only [go_sem]) <;> rfl
      · simp
    refine EvC.seq ?_
    refine EvC.seq (EvC.rg (by (simp only [go_sem]) <;> rfl) (by simp) ?_)
    refine EvC.cond (by (simp only [go_sem]) <;> rfl) (fun hc => ?_) (fun hc => ?_)
    · -- then
      have hbud : budget < C := by simpa using hc
      have hnx : bestTo l budget (k + 1) = O := by rw [hst, stepC_over (by rw [hC]; exact hbud)]
      have hnb : bestK l budget (k + 1) = B := by rw [hks, hnx, ← hbk]
      refine EvC.exit ?_  -- 1
      refine EvC.rg (by (simp only [go_sem]) <;> rfl) (by exact inI64_of (by omega) (by omega)) ?_
      exact ⟨[(0, 0)], k + 1, rfl, (by rw [hnb, hnx]; (simp only [go_sem, Int.natCast_add, Int.natCast_one]) <;> rfl), hkl, by omega⟩
    have hbud : ¬ budget < C := by simpa using hc
    clear hc
    refine EvC.skip ?_
    apply EvC.seq
    apply EvC.tr
    · apply Tr.run
      · (simp only [go_sem]) <;> rfl
      · simp
      apply Tr.cons
      · exact .call rfl rfl (by (simp only [go_sem]) <;> rfl) (by (simp only [go_sem]) <;> rfl) (by (simp only [go_sem]) <;> rfl) (by (simp only [go_sem]) <;> rfl) (by (simp only [go_sem]) <;> rfl) (q2)
      apply Tr.done
      · (simp only [go_sem]) <;> rfl
      · simp
    apply EvC.seq
    apply EvC.tr
    · apply Tr.run
      · (simp only [go_sem]) <;> rfl
      · simp
      apply Tr.cons
      · exact .call rfl rfl (by (simp only [go_sem]) <;> rfl) (by (simp only [go_sem]) <;> rfl) (by (simp only [go_sem]) <;> rfl) (by (simp only [go_sem]) <;> rfl) (by (simp only [go_sem]) <;> rfl) (q3)
      apply Tr.done
      · (simp only [go_sem]) <;> rfl
      · simp
    cases hOc : O with
    | none =>
      have hnx : bestTo l budget (k + 1) = some S := by rw [hst, hOc, stepC_none (by rw [hC]; exact hbud)]
      have hnb : bestK l budget (k + 1) = S := by rw [hks, hnx]; rfl
      apply EvC.seq
      apply EvC.tr
      · apply Tr.run
        · (simp only [go_sem, Option.isSome_none]) <;> rfl
        · simp
        apply Tr.cons
        · exact .skipv (.sc (.int .i64 0)) rfl rfl (by (simp only [go_sem]) <;> rfl) (by (simp only [go_sem]) <;> rfl)
        apply Tr.run
        · (simp only [go_sem, Option.isSome_none]) <;> rfl
        · simp
        apply Tr.cons
        · exact .skipv (.sc (.int .i64 0)) rfl rfl (by (simp only [go_sem]) <;> rfl) (by (simp only [go_sem]) <;> rfl)
        apply Tr.run
        · (simp only [go_sem, Option.isSome_none]) <;> rfl
        · simp
        apply Tr.cons
        · exact .skipv (.sc (.bool false)) rfl rfl (by (simp only [go_sem]) <;> rfl) (by (simp only [go_sem]) <;> rfl)
        apply Tr.done
        · (simp only [go_sem]) <;> rfl
        · simp
      refine EvC.cond_true (by (simp only [go_sem]) <;> rfl) ?_
      refine EvC.seq (EvC.rg (by (simp only [go_sem]) <;> rfl) (by simp) ?_)
      refine EvC.rg (by (simp only [go_sem]) <;> rfl) (by simp) ?_
      refine EvC.rg (by (simp only [go_sem]) <;> rfl) (by exact inI64_of (by omega) (by omega)) ?_
      exact ⟨[(1, 0)], k + 1, rfl, (by rw [hnb, hnx]; (simp only [go_sem, Option.isSome_some, Int.natCast_add, Int.natCast_one]) <;> rfl), hkl, by omega⟩
    | some b =>
      have hbB : b = B := by rw [hbk, hOc]; rfl
      subst hbB
      have hsc : bestTo l budget (k + 1) = if btr l S b then some S else some b := by rw [hst, hOc, stepC_some (by rw [hC]; exact hbud)]
      have yes : btr l S b → bestTo l budget (k + 1) = some S ∧ bestK l budget (k + 1) = S := fun h => by
        rw [if_pos h] at hsc
        exact ⟨hsc, by rw [hks, hsc]; rfl⟩
      have no : ¬ btr l S b → bestTo l budget (k + 1) = some b ∧ bestK l budget (k + 1) = b := fun h => by
        rw [if_neg h] at hsc
        exact ⟨hsc, by rw [hks, hsc]; rfl⟩
      clear hsc
      by_cases c1 : NB < N
      · have e1 : decide (NB < N) = true := decide_eq_true c1
        obtain ⟨hnx, hnb⟩ := yes (hbtr.2 (.inl (by omega)))
        apply EvC.seq
        apply EvC.tr
        · apply Tr.run
          · (simp only [go_sem, Option.isSome_some, e1]) <;> rfl
          · simp
          apply Tr.cons
          · exact .skipv (.sc (.int .i64 0)) rfl rfl (by (simp only [go_sem]) <;> rfl) (by (simp only [go_sem]) <;> rfl)
          apply Tr.run
          · (simp only [go_sem, Option.isSome_some, e1]) <;> rfl
          · simp
          apply Tr.cons
          · exact .skipv (.sc (.int .i64 0)) rfl rfl (by (simp only [go_sem]) <;> rfl) (by (simp only [go_sem]) <;> rfl)
          apply Tr.run
          · (simp only [go_sem, Option.isSome_some, e1]) <;> rfl
          · simp
          apply Tr.cons
          · exact .skipv (.sc (.bool false)) rfl rfl (by (simp only [go_sem]) <;> rfl) (by (simp only [go_sem]) <;> rfl)
          apply Tr.done
          · (simp only [go_sem]) <;> rfl
          · simp
        refine EvC.cond_true (by (simp only [go_sem]) <;> rfl) ?_
        refine EvC.seq (EvC.rg (by (simp only [go_sem]) <;> rfl) (by simp) ?_)
        refine EvC.rg (by (simp only [go_sem]) <;> rfl) (by simp) ?_
        refine EvC.rg (by (simp only [go_sem]) <;> rfl) (by exact inI64_of (by omega) (by omega)) ?_
        exact ⟨[(1, 0)], k + 1, rfl, (by rw [hnb, hnx]; (simp only [go_sem, Option.isSome_some, Int.natCast_add, Int.natCast_one]) <;> rfl), hkl, by omega⟩
      have e1 : decide (NB < N) = false := decide_eq_false c1
      by_cases c2 : N = NB
      rotate_left
      · have e2 : decide (N = NB) = false := decide_eq_false c2
        obtain ⟨hnx, hnb⟩ := no (fun h => by
          rcases hbtr.1 h with h | ⟨h, _⟩ <;> omega)
        apply EvC.seq
        apply EvC.tr
        · apply Tr.run
          · (simp only [go_sem, Option.isSome_some, e1, e2]) <;> rfl
          · simp
          apply Tr.cons
          · exact .skipv (.sc (.int .i64 0)) rfl rfl (by (simp only [go_sem]) <;> rfl) (by (simp only [go_sem]) <;> rfl)
          apply Tr.run
          · (simp only [go_sem, Option.isSome_some, e1, e2]) <;> rfl
          · simp
          apply Tr.cons
          · exact .skipv (.sc (.int .i64 0)) rfl rfl (by (simp only [go_sem]) <;> rfl) (by (simp only [go_sem]) <;> rfl)
          apply Tr.run
          · (simp only [go_sem, Option.isSome_some, e1, e2]) <;> rfl
          · simp
          apply Tr.cons
          · exact .skipv (.sc (.bool false)) rfl rfl (by (simp only [go_sem]) <;> rfl) (by (simp only [go_sem]) <;> rfl)
          apply Tr.done
          · (simp only [go_sem]) <;> rfl
          · simp
        refine EvC.cond_false (by (simp only [go_sem]) <;> rfl) ?_
        refine EvC.skip ?_
        refine EvC.rg (by (simp only [go_sem]) <;> rfl) (by exact inI64_of (by omega) (by omega)) ?_
        exact ⟨[(0, 0)], k + 1, rfl, (by rw [hnb, hnx]; (simp only [go_sem, Option.isSome_some, Int.natCast_add, Int.natCast_one]) <;> rfl), hkl, by omega⟩
      have e2 : decide (N = NB) = true := decide_eq_true c2
      have c2' : killedN l S = killedN l b := by omega
      by_cases c3 : C < CB
      · have e3 : decide (C < CB) = true := decide_eq_true c3
        obtain ⟨hnx, hnb⟩ := yes (hbtr.2 (.inr ⟨c2', .inl c3⟩))
        apply EvC.seq
        apply EvC.tr
        · apply Tr.run
          · (simp only [go_sem, Option.isSome_some, e1, e2, e3]) <;> rfl
          · simp
          apply Tr.cons
          · exact .callG rfl rfl (by (simp only [go_sem]) <;> rfl) rfl (by (simp only [go_sem]) <;> rfl) (by (simp only [go_sem]) <;> rfl) (by (simp only [go_sem]) <;> rfl) (by (simp only [go_sem]) <;> rfl) (by (simp only [go_sem]) <;> rfl) (q4)
          apply Tr.run
          · (simp only [go_sem, Option.isSome_some, e1, e2, e3]) <;> rfl
          · simp
          apply Tr.cons
          · exact .skipv (.sc (.int .i64 0)) rfl rfl (by (simp only [go_sem]) <;> rfl) (by (simp only [go_sem]) <;> rfl)
          apply Tr.run
          · (simp only [go_sem, Option.isSome_some, e1, e2, e3]) <;> rfl
          · simp
          apply Tr.cons
          · exact .skipv (.sc (.bool false)) rfl rfl (by (simp only [go_sem]) <;> rfl) (by (simp only [go_sem]) <;> rfl)
          apply Tr.done
          · (simp only [go_sem]) <;> rfl
          · simp
        refine EvC.cond_true (by (simp only [go_sem]) <;> rfl) ?_
        refine EvC.seq (EvC.rg (by (simp only [go_sem]) <;> rfl) (by simp) ?_)
        refine EvC.rg (by (simp only [go_sem]) <;> rfl) (by simp) ?_
        refine EvC.rg (by (simp only [go_sem]) <;> rfl) (by exact inI64_of (by omega) (by omega)) ?_
        exact ⟨[(1, 0)], k + 1, rfl, (by rw [hnb, hnx]; (simp only [go_sem, Option.isSome_some, Int.natCast_add, Int.natCast_one]) <;> rfl), hkl, by omega⟩
      have e3 : decide (C < CB) = false := decide_eq_false c3
      by_cases c4 : C = CB
      rotate_left
      · have e4 : decide (C = CB) = false := decide_eq_false c4
        obtain ⟨hnx, hnb⟩ := no (fun h => by
          rcases hbtr.1 h with h | ⟨_, h | ⟨h, _⟩⟩ <;> omega)
        apply EvC.seq
        apply EvC.tr
        · apply Tr.run
          · (simp only [go_sem, Option.isSome_some, e1, e2, e3, e4]) <;> rfl
          · simp
          apply Tr.cons
          · exact .callG rfl rfl (by (simp only [go_sem]) <;> rfl) rfl (by (simp only [go_sem]) <;> rfl) (by (simp only [go_sem]) <;> rfl) (by (simp only [go_sem]) <;> rfl) (by (simp only [go_sem]) <;> rfl) (by (simp only [go_sem]) <;> rfl) (q4)
          apply Tr.run
          · (simp only [go_sem, Option.isSome_some, e1, e2, e3, e4]) <;> rfl
          · simp
          apply Tr.cons
          · exact .callG rfl rfl (by (simp only [go_sem]) <;> rfl) rfl (by (simp only [go_sem]) <;> rfl) (by (simp only [go_sem]) <;> rfl) (by (simp only [go_sem]) <;> rfl) (by (simp only [go_sem]) <;> rfl) (by (simp only [go_sem]) <;> rfl) (q4)
          apply Tr.run
          · (simp only [go_sem, Option.isSome_some, e1, e2, e3, e4]) <;> rfl
          · simp
          apply Tr.cons
          · exact .skipv (.sc (.bool false)) rfl rfl (by (simp only [go_sem]) <;> rfl) (by (simp only [go_sem]) <;> rfl)
          apply Tr.done
          · (simp only [go_sem]) <;> rfl
          · simp
        refine EvC.cond_false (by (simp only [go_sem]) <;> rfl) ?_
        refine EvC.skip ?_
        refine EvC.rg (by (simp only [go_sem]) <;> rfl) (by exact inI64_of (by omega) (by omega)) ?_
        exact ⟨[(0, 0)], k + 1, rfl, (by rw [hnb, hnx]; (simp only [go_sem, Option.isSome_some, Int.natCast_add, Int.natCast_one]) <;> rfl), hkl, by omega⟩
      have e4 : decide (C = CB) = true := decide_eq_true c4
      generalize hX : lexB S b = X at *
      cases X with
      | true =>
        obtain ⟨hnx, hnb⟩ := yes (hbtr.2 (.inr ⟨c2', .inr ⟨c4, rfl⟩⟩))
        apply EvC.seq
        apply EvC.tr
        · apply Tr.run
          · (simp only [go_sem, Option.isSome_some, e1, e2, e3, e4]) <;> rfl
          · simp
          apply Tr.cons
          · exact .callG rfl rfl (by (simp only [go_sem]) <;> rfl) rfl (by (simp only [go_sem]) <;> rfl) (by (simp only [go_sem]) <;> rfl) (by (simp only [go_sem]) <;> rfl) (by (simp only [go_sem]) <;> rfl) (by (simp only [go_sem]) <;> rfl) (q4)
          apply Tr.run
          · (simp only [go_sem, Option.isSome_some, e1, e2, e3, e4]) <;> rfl
          · simp
          apply Tr.cons
          · exact .callG rfl rfl (by (simp only [go_sem]) <;> rfl) rfl (by (simp only [go_sem]) <;> rfl) (by (simp only [go_sem]) <;> rfl) (by (simp only [go_sem]) <;> rfl) (by (simp only [go_sem]) <;> rfl) (by (simp only [go_sem]) <;> rfl) (q4)
          apply Tr.run
          · (simp only [go_sem, Option.isSome_some, e1, e2, e3, e4]) <;> rfl
          · simp
          apply Tr.cons
          · exact .callG rfl rfl (by (simp only [go_sem]) <;> rfl) rfl (by (simp only [go_sem]) <;> rfl) (by (simp only [go_sem]) <;> rfl) (by (simp only [go_sem]) <;> rfl) (by (simp only [go_sem]) <;> rfl) (by (simp only [go_sem]) <;> rfl) (q5)
          apply Tr.done
          · (simp only [go_sem]) <;> rfl
          · simp
        refine EvC.cond_true (by (simp only [go_sem]) <;> rfl) ?_
        refine EvC.seq (EvC.rg (by (simp only [go_sem]) <;> rfl) (by simp) ?_)
        refine EvC.rg (by (simp only [go_sem]) <;> rfl) (by simp) ?_
        refine EvC.rg (by (simp only [go_sem]) <;> rfl) (by exact inI64_of (by omega) (by omega)) ?_
        exact ⟨[(1, 0)], k + 1, rfl, (by rw [hnb, hnx]; (simp only [go_sem, Option.isSome_some, Int.natCast_add, Int.natCast_one]) <;> rfl), hkl, by omega⟩
      | false =>
        obtain ⟨hnx, hnb⟩ := no (fun h => by
          rcases hbtr.1 h with h | ⟨_, h | ⟨_, h⟩⟩
          · omega
          · omega
          · cases h)
        apply EvC.seq
        apply EvC.tr
        · apply Tr.run
          · (simp only [go_sem, Option.isSome_some, e1, e2, e3, e4]) <;> rfl
          · simp
          apply Tr.cons
          · exact .callG rfl rfl (by (simp only [go_sem]) <;> rfl) rfl (by (simp only [go_sem]) <;> rfl) (by (simp only [go_sem]) <;> rfl) (by (simp only [go_sem]) <;> rfl) (by (simp only [go_sem]) <;> rfl) (by (simp only [go_sem]) <;> rfl) (q4)
          apply Tr.run
          · (simp only [go_sem, Option.isSome_some, e1, e2, e3, e4]) <;> rfl
          · simp
          apply Tr.cons
          · exact .callG rfl rfl (by (simp only [go_sem]) <;> rfl) rfl (by (simp only [go_sem]) <;> rfl) (by (simp only [go_sem]) <;> rfl) (by (simp only [go_sem]) <;> rfl) (by (simp only [go_sem]) <;> rfl) (by (simp only [go_sem]) <;> rfl) (q4)
          apply Tr.run
          · (simp only [go_sem, Option.isSome_some, e1, e2, e3, e4]) <;> rfl
          · simp
          apply Tr.cons
          · exact .callG rfl rfl (by (simp only [go_sem]) <;> rfl) rfl (by (simp only [go_sem]) <;> rfl) (by (simp only [go_sem]) <;> rfl) (by (simp only [go_sem]) <;> rfl) (by (simp only [go_sem]) <;> rfl) (by (simp only [go_sem]) <;> rfl) (q5)
          apply Tr.done
          · (simp only [go_sem]) <;> rfl
          · simp
        refine EvC.cond_false (by (simp only [go_sem]) <;> rfl) ?_
        refine EvC.skip ?_
        refine EvC.rg (by (simp only [go_sem]) <;> rfl) (by exact inI64_of (by omega) (by omega)) ?_
        exact ⟨[(0, 0)], k + 1, rfl, (by rw [hnb, hnx]; (simp only [go_sem, Option.isSome_some, Int.natCast_add, Int.natCast_one]) <;> rfl), hkl, by omega⟩
  have hil : i < l.length := by simpa using hc
  clear hc
  have hin : (i : Int).toNat = i := Int.toNat_natCast i
  have hT1 : setTo k (i + 1) = if k.testBit i = true then setTo k i ++ [(i : Int)] else setTo k i := rfl
  have hTl := inc_len (setTo_inc k i)
  have hbit := bit_shr k i (by omega)
  have hnn := shr_nn k i
  generalize setTo k i = T at hT1 hTl
  refine EvC.skip ?_
  refine EvC.seq ?_
  refine EvC.block ?_  -- 3
  refine EvC.seq (EvC.rg (by (simp only [go_sem, hin, hbit]) <;> rfl) (by simp [hnn]) ?_)
  refine EvC.cond (by (simp only [go_sem]) <;> rfl) (fun hc => ?_) (fun hc => ?_)
  · have hc' : k.testBit i = true := by simpa using hc
    rw [if_pos hc'] at hT1
    have hsn : T.map intC ++ [[.sc (.int .i64 (i : Int))]] = (T ++ [(i : Int)]).map intC := by simp [intC]
    have hsl : T.length + 1 = (T ++ [(i : Int)]).length := by simp
    have hse : (T ++ [(i : Int)]).isEmpty = false := by simp
    have hr2 : room (T.length + 1) 8 = true := by simp only [room_eq, decide_eq_true_eq]; omega
    rw [hsl] at hr2
    generalize T ++ [(i : Int)] = L at hsn hsl hse hr2 hT1
    refine EvC.rg (by (simp only [go_sem, hsn, hsl, List.length_map]) <;> rfl) (by simp [hr2]) ?_
    refine EvC.rg (by (simp only [go_sem]) <;> rfl) (by exact inI64_of (by omega) (by omega)) ?_
    exact ⟨[(0, 0), (1, 1)], i + 1, rfl, (by rw [hT1]; (simp only [go_sem, hse, Int.natCast_add, Int.natCast_one]) <;> rfl), hil, by omega⟩
  have hc' : ¬ k.testBit i = true := by simpa using hc
  rw [if_neg hc'] at hT1
  refine EvC.skip ?_
  refine EvC.rg (by (simp only [go_sem]) <;> rfl) (by exact inI64_of (by omega) (by omega)) ?_
  exact ⟨[(0, 0), (1, 1)], i + 1, rfl, (by rw [hT1]; (simp only [go_sem, Int.natCast_add, Int.natCast_one]) <;> rfl), hil, by omega⟩
end Go.Avl
