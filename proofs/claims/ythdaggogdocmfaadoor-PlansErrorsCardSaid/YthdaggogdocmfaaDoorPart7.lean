/-
  Lemmas.
  Lemmas.
  Lemmas.
  Lemmas.
  Lemmas.
  Lemmas.
  Lemmas.
  Lemmas.
  Lemmas.
  Lemmas.
-/
import Derived.Test.YthdaggogdocmfaaDoorPart6
set_option linter.unusedSimpArgs false
set_option linter.unusedVariables false
set_option linter.unnecessarySimpa false
set_option linter.deprecated false
namespace Go.Avl
open Go Go.Proofs.Tryd
set_option maxRecDepth 10000
set_option linter.unusedSimpArgs false

/-! ### The lists of the laws -/
structure LI where
  cost : Int
  kills : Int
def liC (x : LI) : List AV := [.sc (.int .u8 x.cost), .sc (.int .u32 x.kills)]
@[go_sem] theorem norefs_li (l : List LI) : (l.map liC).all AV.norefs = true := by simp [List.all_eq_true, liC, AV.norefs, AV.noref]
def LI.Ok (x : LI) : Prop := (0 ≤ x.cost ∧ x.cost < 256) ∧ 0 ≤ x.kills
def bitK (K : Int) (k : Nat) : Bool := decide (shiftOf .shr .u32 K k % 2 = 1)
def killsTo (K : Int) : Nat → List Int
  | 0 => []
  | k + 1 => if bitK K k = true then killsTo K k ++ [10 * (k : Int)] else killsTo K k
def LI.item (x : LI) : Item := ⟨1 + x.cost, (killsTo x.kills 24).isEmpty, killsTo x.kills 24⟩
theorem killsTo_len (K : Int) : ∀ k, (killsTo K k).length ≤ k
  | 0 => Nat.le_refl _
  | k + 1 => by
    have := killsTo_len K k
    rw [killsTo]; split <;> simp <;> omega
theorem shr32_nn {K : Int} (h : 0 ≤ K) (k : Nat) : 0 ≤ shiftOf .shr .u32 K k := by
  simp only [shiftOf]
  exact Int.fdiv_nonneg h (by exact_mod_cast Nat.zero_le (2 ^ _))
def listOf (xs : List LI) (most : Nat) : List Item := (xs.take most).map LI.item

set_option maxHeartbeats 1000000 in
theorem list24_is (nl : Bool) (xs : List LI) (c : Cp) (most : Nat) (hx : ∀ x ∈ xs, x.Ok) (hm : most < 100) :
    PureIs prog 24 [.sl nl (xs.map liC) c, .sc (.int .i64 most)] (.sl (listOf xs most).isEmpty ((listOf xs most).map itemC) .unk) := by
  refine PureIs.of (nv := 2) (hid := [4, 5, 6, 7, 8, 17, 29, 40]) func24 rfl (by kernel_rfl) (by simp [ntmps24]) fun _ => ?_
  rw [ntmps24, results24]
  refine EvC.seq (EvC.rg (by (simp only [go_sem]) <;> rfl) (by simp) ?_)
  refine EvC.seq (EvC.rg (by (simp only [go_sem]) <;> rfl) (by simp) ?_)
  refine EvC.seq ?_
  refine EvC.seq (EvC.rg (by (simp only [go_sem]) <;> rfl) (by simp) ?_)
  refine EvC.thaw 1 (by (simp only [go_sem]) <;> rfl) ?_
  refine EvC.block ?_  -- 0
  refine EvC.loopS (σ := Nat) (fun i => ⟨[(0, .sl nl (xs.map liC) c), (1, .sc (.int .i64 most)), (5, .tl 0 (listOf xs i).length (listOf xs i).isEmpty), (6, .sc (.int .i64 i))], [], [(0, .arr 2 ((listOf xs i).map itemC) false)], 1⟩) (fun i => most - i) (fun i => i ≤ most ∧ i ≤ xs.length) [0, 1, 5, 6] 1 ?_ ?_
  · exact ⟨[(1, 0)], 0, rfl, (by (simp only [go_sem, Int.natCast_zero, listOf, List.take_zero, List.map_nil, List.length_nil, List.isEmpty_nil]) <;> rfl), Nat.zero_le _, Nat.zero_le _⟩
  rintro i ⟨hi, hi2⟩
  refine EvC.seq ?_
  by_cases hend : i < xs.length ∧ i < most
  rotate_left
  · -- else
    have hcond : decide ((i : Int) < xs.length) = false ∨ (decide ((i : Int) < xs.length) = true ∧ decide ((i : Int) < most) = false) := by
      by_cases h : i < xs.length
      · exact .inr ⟨decide_eq_true (by omega), decide_eq_false (by omega)⟩
      · exact .inl (decide_eq_false (by omega))
    have htk : listOf xs most = listOf xs i := by
      unfold listOf
      congr 1
      rcases Nat.lt_or_ge i xs.length with h | h
      · rw [show most = i by omega]
      · rw [List.take_of_length_le (by omega), List.take_of_length_le (by omega)]
    rw [htk]
    have hL : ∀ L : List Item, L = listOf xs i → L.length = L.length := fun _ _ => rfl
    generalize listOf xs i = L
    rcases hcond with h | ⟨h, h'⟩
    · apply EvC.seq
      apply EvC.trd
      · (simp only [go_sem, List.length_map, h]) <;> rfl
      · simp
      refine EvC.cond_false (by (simp only [go_sem]) <;> rfl) ?_
      refine EvC.exit ?_  -- 0
      refine EvC.frz 0 (by (simp only [go_sem, List.length_map]) <;> rfl) ?_
      refine EvC.seq (EvC.rg (by (simp only [go_sem, List.length_map]) <;> rfl) (by simp) ?_)
      refine EvC.ret ⟨.inl rfl, _, (by (simp only [go_sem]) <;> rfl), ?_, rfl⟩
      simp only [go_sem]
    · apply EvC.seq
      apply EvC.trd
      · (simp only [go_sem, List.length_map, h, h']) <;> rfl
      · simp
      refine EvC.cond_false (by (simp only [go_sem]) <;> rfl) ?_
      refine EvC.exit ?_  -- 0
      refine EvC.frz 0 (by (simp only [go_sem, List.length_map]) <;> rfl) ?_
      refine EvC.seq (EvC.rg (by (simp only [go_sem, List.length_map]) <;> rfl) (by simp) ?_)
      refine EvC.ret ⟨.inl rfl, _, (by (simp only [go_sem]) <;> rfl), ?_, rfl⟩
      simp only [go_sem]
  obtain ⟨h1, h2⟩ := hend
  have d1 : decide ((i : Int) < xs.length) = true := decide_eq_true (by omega)
  have d2 : decide ((i : Int) < most) = true := decide_eq_true (by omega)
  apply EvC.seq
  apply EvC.trd
  · (simp only [go_sem, List.length_map, d1, d2]) <;> rfl
  · simp
  refine EvC.cond_true (by (simp only [go_sem]) <;> rfl) ?_
  refine EvC.skip ?_
  refine EvC.seq ?_
  refine EvC.block ?_  -- 1
  have he : xs[i]? = some (xs[i]'h1) := List.getElem?_eq_getElem h1
  have hok := hx _ (List.getElem_mem h1)
  have hnext : listOf xs (i + 1) = listOf xs i ++ [(xs[i]'h1).item] := by
    unfold listOf
    rw [List.take_succ_eq_append_getElem h1, List.map_append]; rfl
  have hli : (listOf xs i).length ≤ i := by unfold listOf; simp; omega
  generalize xs[i]'h1 = x at he hok hnext
  generalize listOf xs i = L at hnext hli
  obtain ⟨⟨k1, k2⟩, k3⟩ := hok
  have hin : (i : Int).toNat = i := Int.toNat_natCast i
  refine EvC.seq (EvC.rg (by (simp only [go_sem, he, liC, hin, List.length_map]) <;> rfl) (by simp [inI64_of (x := x.cost) (by omega) (by omega), inI64_of (x := 1 + x.cost) (by omega) (by omega)]) ?_)
  refine EvC.ownC 18 1 1 (by (simp only [go_sem]) <;> rfl) ?_
  refine EvC.seq ?_
  refine EvC.seq (EvC.rg (by (simp only [go_sem]) <;> rfl) (by simp) ?_)
  refine EvC.block ?_  -- 2
  refine EvC.loopS (σ := Nat) (fun k => ⟨[(0, .sl nl (xs.map liC) c), (1, .sc (.int .i64 most)), (5, .tl 0 L.length L.isEmpty), (6, .sc (.int .i64 i)), (7, .rf 1 0), (8, .sc (.int .i64 k))], [], [(0, .arr 2 (L.map itemC) false), (1, .cells [.sc (.int .i64 (1 + x.cost)), .tl 2 (killsTo x.kills k).length (killsTo x.kills k).isEmpty]), (2, .arr 1 ((killsTo x.kills k).map intC) true)], 3⟩) (fun k => 24 - k) (fun k => k ≤ 24) [0, 1, 5, 6, 7, 8] 3 ?_ ?_
  · exact ⟨[(0, 0), (18, 1), (20, 2)], 0, rfl, (by (simp only [go_sem, Int.natCast_zero, killsTo, List.map_nil, List.length_nil, List.isEmpty_nil]) <;> rfl), Nat.zero_le _⟩
  intro k hk
  refine EvC.seq ?_
  refine EvC.seq (EvC.rg (by (simp only [go_sem]) <;> rfl) (by simp) ?_)
  refine EvC.cond (by (simp only [go_sem]) <;> rfl) (fun hc => ?_) (fun hc => ?_)
  rotate_left
  · -- else
    refine EvC.exit ?_  -- 2
    obtain rfl : k = 24 := by have : ¬ (k : Int) < 24 := by simpa using hc
                              omega
    clear hc
    refine EvC.frzD 2 (by (simp only [go_sem, List.length_map]) <;> rfl) ?_
    have hkl := killsTo_len x.kills 24
    have hsn : L.map itemC ++ [[.sc (.int .i64 (1 + x.cost)), .sl (killsTo x.kills 24).isEmpty ((killsTo x.kills 24).map intC) .unk]] = (listOf xs (i + 1)).map itemC := by rw [hnext]; simp [itemC, LI.item]
    have hsl : L.length + 1 = (listOf xs (i + 1)).length := by rw [hnext]; simp
    have hse : (listOf xs (i + 1)).isEmpty = false := by rw [hnext]; simp
    have hr2 : room (L.length + 1) 32 = true := by simp only [room_eq, decide_eq_true_eq]; omega
    rw [hsl] at hr2
    generalize hL' : listOf xs (i + 1) = L' at hsn hsl hse hr2
    refine EvC.rg (by (simp only [go_sem, hsn, hsl, List.length_map]) <;> rfl) (by simp [hr2]) ?_
    refine EvC.rg (by (simp only [go_sem]) <;> rfl) (by exact inI64_of (by omega) (by omega)) ?_
    exact ⟨[(0, 0)], i + 1, rfl, (by rw [hL']; (simp only [go_sem, hse, Int.natCast_add, Int.natCast_one]) <;> rfl), ⟨by omega, by omega⟩, by omega⟩
  have hk2 : k < 24 := by have : (k : Int) < 24 := by simpa using hc
                          omega
  clear hc
  have hst : killsTo x.kills (k + 1) = if bitK x.kills k = true then killsTo x.kills k ++ [10 * (k : Int)] else killsTo x.kills k := rfl
  have hkl := killsTo_len x.kills k
  have hkn : (k : Int).toNat = k := Int.toNat_natCast k
  have hnn := shr32_nn k3 k
  unfold bitK at hst
  have hT : ∀ T : List Int, T ++ [10 * (k : Int)] = T ++ [10 * (k : Int)] := fun _ => rfl
  generalize killsTo x.kills k = T at hst hkl
  refine EvC.skip ?_
  refine EvC.seq ?_
  refine EvC.block ?_  -- 3
  refine EvC.seq (EvC.rg (by (simp only [go_sem, he, liC, hin, hkn, List.length_map]) <;> rfl) (by simp [hnn]; try omega) ?_)
  refine EvC.cond (by (simp only [go_sem]) <;> rfl) (fun hc => ?_) (fun hc => ?_)
  · -- then
    have hc' : decide (shiftOf .shr .u32 x.kills k % 2 = 1) = true := by simpa using hc
    rw [if_pos hc'] at hst
    have hsn : T.map intC ++ [[.sc (.int .i64 (10 * (k : Int)))]] = (T ++ [10 * (k : Int)]).map intC := by simp [intC]
    have hsl : T.length + 1 = (T ++ [10 * (k : Int)]).length := by simp
    have hse : (T ++ [10 * (k : Int)]).isEmpty = false := by simp
    have hr2 : room (T.length + 1) 8 = true := by simp only [room_eq, decide_eq_true_eq]; omega
    rw [hsl] at hr2
    rw [← hst] at hsn hsl hse hr2
    generalize hT' : killsTo x.kills (k + 1) = T' at hsn hsl hse hr2
    refine EvC.rg (by (simp only [go_sem, hsn, hsl, List.length_map]) <;> rfl) (by simp [hr2, inI64_of (x := 10 * (k : Int)) (by omega) (by omega)]) ?_
    refine EvC.rg (by (simp only [go_sem]) <;> rfl) (by exact inI64_of (by omega) (by omega)) ?_
    exact ⟨[(0, 0), (1, 1), (2, 2)], k + 1, rfl, (by rw [hT']; (simp only [go_sem, hse, Int.natCast_add, Int.natCast_one]) <;> rfl), hk2, by omega⟩
  have hc' : ¬ decide (shiftOf .shr .u32 x.kills k % 2 = 1) = true := by simpa using hc
  rw [if_neg hc'] at hst
  refine EvC.skip ?_
  refine EvC.rg (by (simp only [go_sem]) <;> rfl) (by exact inI64_of (by omega) (by omega)) ?_
  exact ⟨[(0, 0), (1, 1), (2, 2)], k + 1, rfl, (by rw [hst]; (simp only [go_sem, Int.natCast_add, Int.natCast_one]) <;> rfl), hk2, by omega⟩
def u8C (x : Int) : List AV := [.sc (.int .u8 x)]
@[go_sem] theorem norefs_u8 (l : List Int) : (l.map u8C).all AV.norefs = true := by simp [List.all_eq_true, u8C, AV.norefs, AV.noref]
end Go.Avl
namespace Go.Avl
open Go Go.Proofs.Tryd
set_option maxRecDepth 10000
set_option linter.unusedSimpArgs false

/-! ### The curve of a choice, and its lateness -/
def curveTo (l : List Item) (ch : List Int) : Nat → List (Int × Int)
  | 0 => []
  | k + 1 => curveTo l ch k ++ [(costN l (ch.take (k + 1)), ((killedN l (ch.take (k + 1)) : Nat) : Int))]
def curveOf (l : List Item) (ch : List Int) : List (Int × Int) := curveTo l ch ch.length
def lateTo (l : List Item) (ch : List Int) : Nat → Int
  | 0 => 0
  | k + 1 => lateTo l ch k + costN l (ch.take (k + 1)) * (((killedN l (ch.take (k + 1)) : Nat) : Int) - ((killedN l (ch.take k) : Nat) : Int))
def lateOf (l : List Item) (ch : List Int) : Int := lateTo l ch ch.length
theorem curveTo_len (l : List Item) (ch : List Int) : ∀ k, (curveTo l ch k).length = k
  | 0 => rfl
  | k + 1 => by simp [curveTo, curveTo_len l ch k]
theorem killedP_mono {l : List Item} {ch : List Int} {k : Nat} (n : Nat) (h : killedP l (ch.take k) n = true) : killedP l (ch.take (k + 1)) n = true := by
  unfold killedP at *
  rw [List.any_eq_true] at *
  obtain ⟨i, hi, he⟩ := h
  refine ⟨i, ?_, he⟩
  rw [List.take_add_one]
  exact List.mem_append_left _ hi
theorem killedN_mono (l : List Item) (ch : List Int) (k : Nat) : killedN l (ch.take k) ≤ killedN l (ch.take (k + 1)) := cnt_mono (fun n h => killedP_mono n h) 256
theorem costs_bd {l : List Item} (hl : ∀ x ∈ l, 0 ≤ x.cost ∧ x.cost ≤ 1000000) {ch : List Int} (hch : InCh l ch) (hcl : ch.length ≤ 1000) (k : Nat) : 0 ≤ costN l (ch.take k) ∧ costN l (ch.take k) ≤ 1000000000 := by
  have h := costN_bd hl (hch.take k)
  rw [List.length_take] at h
  omega
theorem lateTo_bd {l : List Item} (hl : ∀ x ∈ l, 0 ≤ x.cost ∧ x.cost ≤ 1000000) {ch : List Int} (hch : InCh l ch) (hcl : ch.length ≤ 1000) : ∀ k, 0 ≤ lateTo l ch k ∧ lateTo l ch k ≤ 1000000000 * ((killedN l (ch.take k) : Nat) : Int)
  | 0 => by
    have : (0 : Int) ≤ ((killedN l (ch.take 0) : Nat) : Int) := Int.natCast_nonneg _
    simp only [lateTo]; omega
  | k + 1 => by
    have ih := lateTo_bd hl hch hcl k
    have hc := costs_bd hl hch hcl (k + 1)
    have hm := killedN_mono l ch k
    rw [lateTo]
    generalize costN l (ch.take (k + 1)) = C at *
    obtain ⟨d, hd⟩ : ∃ d : Int, ((killedN l (ch.take (k + 1)) : Nat) : Int) - ((killedN l (ch.take k) : Nat) : Int) = d := ⟨_, rfl⟩
    have hd0 : 0 ≤ d := by omega
    rw [hd]
    have h1 := Int.mul_nonneg hc.1 hd0
    have h2 : C * d ≤ 1000000000 * d := Int.mul_le_mul_of_nonneg_right hc.2 hd0
    omega

theorem refCurve_is (nl : Bool) (l : List Item) (c : Cp) (cn : Bool) (ch : List Int) (cc : Cp) (hl : ∀ x ∈ l, (0 ≤ x.cost ∧ x.cost ≤ 1000000) ∧ x.kills.length < 1000000) (hch : InCh l ch) (hcl : ch.length ≤ 1000) :
    PureIs prog 29 [.sl nl (l.map itemC) c, .sl cn (ch.map intC) cc] (.sl (curveOf l ch).isEmpty ((curveOf l ch).map pairC) .unk) := by
  refine PureIs.of (nv := 2) (hid := [4, 5, 6, 10]) func29 rfl (by kernel_rfl) (by simp [ntmps29]) fun _ => ?_
  rw [ntmps29, results29]
  refine EvC.seq (EvC.rg (by (simp only [go_sem]) <;> rfl) (by simp) ?_)
  refine EvC.seq (EvC.rg (by (simp only [go_sem]) <;> rfl) (by simp) ?_)
  refine EvC.seq ?_
  refine EvC.seq (EvC.rg (by (simp only [go_sem]) <;> rfl) (by simp) ?_)
  refine EvC.block ?_  -- 0
  refine EvC.loopS (σ := Nat) (fun k => ⟨[(0, .sl nl (l.map itemC) c), (1, .sl cn (ch.map intC) cc), (5, .tl 0 (curveTo l ch k).length (curveTo l ch k).isEmpty), (6, .sc (.int .i64 ((k : Int) + 1)))], [], [(0, .arr 2 ((curveTo l ch k).map pairC) true)], 1⟩) (fun k => ch.length - k) (fun k => k ≤ ch.length) [0, 1, 5, 6] 1 ?_ ?_
  · exact ⟨[(1, 0)], 0, rfl, (by (simp only [go_sem, Int.natCast_zero, Int.zero_add, curveTo, List.map_nil, List.length_nil, List.isEmpty_nil]) <;> rfl), Nat.zero_le _⟩
  intro k hk1
  refine EvC.seq ?_
  refine EvC.seq (EvC.rg (by (simp only [go_sem, List.length_map]) <;> rfl) (by simp) ?_)
  refine EvC.cond (by (simp only [go_sem]) <;> rfl) (fun hc => ?_) (fun hc => ?_)
  rotate_left
  · -- else
    refine EvC.exit ?_  -- 0
    obtain rfl : ch.length = k := by have : ¬ (k : Int) + 1 ≤ ch.length := by simpa using hc
                                     omega
    have hL := curveTo_len l ch ch.length
    unfold curveOf
    generalize curveTo l ch ch.length = L at hL
    refine EvC.seq (EvC.rg (by (simp only [go_sem, List.length_map]) <;> rfl) (by simp) ?_)
    refine EvC.ret ⟨.inl rfl, _, (by (simp only [go_sem]) <;> rfl), ?_, rfl⟩
    simp only [go_sem]
  have hkl : k < ch.length := by have : (k : Int) + 1 ≤ ch.length := by simpa using hc
                                 omega
  clear hc
  have hlc : ∀ x ∈ l, 0 ≤ x.cost ∧ x.cost ≤ 1000000 := fun x hx => (hl x hx).1
  have hlk : ∀ x ∈ l, x.kills.length < 1000000 := fun x hx => (hl x hx).2
  have hp := curveTo_len l ch k
  have hst : curveTo l ch (k + 1) = curveTo l ch k ++ [(costN l (ch.take (k + 1)), ((killedN l (ch.take (k + 1)) : Nat) : Int))] := rfl
  have q1 := cost_is nl l c cn (ch.take (k + 1)) (cutHead cc) hlc (hch.take _) (by rw [List.length_take]; omega)
  have q2 := killed_is nl l c cn (ch.take (k + 1)) (cutHead cc) hlk (hch.take _) (by rw [List.length_take]; omega)
  generalize costN l (ch.take (k + 1)) = C at hst q1
  generalize ((killedN l (ch.take (k + 1)) : Nat) : Int) = N at hst q2
  generalize hT : curveTo l ch k = T at hst hp
  have hsn : T.map pairC ++ [[.sc (.int .i64 C), .sc (.int .i64 N)]] = (T ++ [(C, N)]).map pairC := by simp [pairC]
  have hsl : T.length + 1 = (T ++ [(C, N)]).length := by simp
  have hse : (T ++ [(C, N)]).isEmpty = false := by simp
  have hr2 : room (T.length + 1) 16 = true := by simp only [room_eq, decide_eq_true_eq]; omega
  rw [hsl] at hr2
  rw [← hst] at hsn hsl hse hr2
  generalize hL' : curveTo l ch (k + 1) = L' at hsn hsl hse hr2
  obtain ⟨J, hJ⟩ : ∃ J : Int, J = (k : Int) + 1 := ⟨_, rfl⟩
  have hkn : J.toNat = k + 1 := by omega
  rw [← hJ]
  have hJ1 : ((k + 1 : Nat) : Int) + 1 = J + 1 := by omega
  have hw : ∀ x ∈ ch, (intC x).length = 1 := fun _ _ => rfl
  refine EvC.skip ?_
  refine EvC.seq ?_
  refine EvC.block ?_  -- 1
  apply EvC.drw mixed
  · apply Tr.run
    · (simp only [go_sem, hkn, List.length_map, ← List.map_take, List.drop_zero]) <;> rfl
    · simp [intC]; try omega
    apply Tr.cons
    · exact .call rfl rfl (by (simp only [go_sem]) <;> rfl) (by (simp only [go_sem]) <;> rfl) (by (simp only [go_sem]) <;> rfl) (by (simp only [go_sem]) <;> rfl) (by (simp only [go_sem]) <;> rfl) (q1)
    apply Tr.run
    · (simp only [go_sem, hkn, List.length_map, ← List.map_take, List.drop_zero]) <;> rfl
    · simp [intC]; try omega
    apply Tr.cons
    · exact .call rfl rfl (by (simp only [go_sem]) <;> rfl) (by (simp only [go_sem]) <;> rfl) (by (simp only [go_sem]) <;> rfl) (by (simp only [go_sem]) <;> rfl) (by (simp only [go_sem]) <;> rfl) (q2)
    apply Tr.done
    · (simp only [go_sem, hsn, hsl, List.length_map]) <;> rfl
    · simp [hr2]
  · kernel_rfl
  refine EvC.rg (by (simp only [go_sem]) <;> rfl) (by exact inI64_of (by omega) (by omega)) ?_
  exact ⟨[(0, 0)], k + 1, rfl, (by rw [hL', hJ1]; (simp only [go_sem, hse]) <;> rfl), hkl, by omega⟩

theorem refLate_is (nl : Bool) (l : List Item) (c : Cp) (cn : Bool) (ch : List Int) (cc : Cp) (hl : ∀ x ∈ l, (0 ≤ x.cost ∧ x.cost ≤ 1000000) ∧ x.kills.length < 1000000) (hch : InCh l ch) (hcl : ch.length ≤ 1000) :
    PureIs prog 30 [.sl nl (l.map itemC) c, .sl cn (ch.map intC) cc] (.sc (.int .i64 (lateOf l ch))) := by
  refine PureIs.of (nv := 2) (hid := [4, 5, 6, 10]) func30 rfl (by kernel_rfl) (by simp [ntmps30]) fun _ => ?_
  rw [ntmps30, results30]
  refine EvC.seq (EvC.rg (by (simp only [go_sem]) <;> rfl) (by simp) ?_)
  refine EvC.seq (EvC.rg (by (simp only [go_sem]) <;> rfl) (by simp) ?_)
  refine EvC.seq ?_
  refine EvC.seq (EvC.rg (by (simp only [go_sem]) <;> rfl) (by simp) ?_)
  refine EvC.block ?_  -- 0
  refine EvC.loopS (σ := Nat) (fun k => ⟨[(0, .sl nl (l.map itemC) c), (1, .sl cn (ch.map intC) cc), (5, .sc (.int .i64 (lateTo l ch k))), (6, .sc (.int .i64 ((k : Int) + 1)))], [], [], 0⟩) (fun k => ch.length - k) (fun k => k ≤ ch.length) [0, 1, 5, 6] 0 ?_ ?_
  · exact ⟨[], 0, rfl, (by (simp only [go_sem, Int.natCast_zero, Int.zero_add, lateTo]) <;> rfl), Nat.zero_le _⟩
  intro k hk1
  refine EvC.seq ?_
  refine EvC.seq (EvC.rg (by (simp only [go_sem, List.length_map]) <;> rfl) (by simp) ?_)
  refine EvC.cond (by (simp only [go_sem]) <;> rfl) (fun hc => ?_) (fun hc => ?_)
  rotate_left
  · -- else
    refine EvC.exit ?_  -- 0
    obtain rfl : ch.length = k := by have : ¬ (k : Int) + 1 ≤ ch.length := by simpa using hc
                                     omega
    refine EvC.seq (EvC.rg (by (simp only [go_sem, List.length_map]) <;> rfl) (by simp) ?_)
    refine EvC.ret ⟨.inl rfl, _, (by (simp only [go_sem]) <;> rfl), ?_, rfl⟩
    simp only [go_sem]
    rfl
  have hkl : k < ch.length := by have : (k : Int) + 1 ≤ ch.length := by simpa using hc
                                 omega
  clear hc
  have hlc : ∀ x ∈ l, 0 ≤ x.cost ∧ x.cost ≤ 1000000 := fun x hx => (hl x hx).1
  have hlk : ∀ x ∈ l, x.kills.length < 1000000 := fun x hx => (hl x hx).2
  have hst : lateTo l ch (k + 1) = lateTo l ch k + costN l (ch.take (k + 1)) * (((killedN l (ch.take (k + 1)) : Nat) : Int) - ((killedN l (ch.take k) : Nat) : Int)) := rfl
  have b1 := lateTo_bd hlc hch hcl k
  have b2 := lateTo_bd hlc hch hcl (k + 1)
  have b3 := costs_bd hlc hch hcl (k + 1)
  have b4 := cnt_le (killedP l (ch.take (k + 1))) 256
  have b5 := cnt_le (killedP l (ch.take k)) 256
  have b6 := killedN_mono l ch k
  unfold killedN at *
  have q1 := cost_is nl l c cn (ch.take (k + 1)) (cutHead cc) hlc (hch.take _) (by rw [List.length_take]; omega)
  have q2 := killed_is nl l c cn (ch.take (k + 1)) (cutHead cc) hlk (hch.take _) (by rw [List.length_take]; omega)
  have q3 := killed_is nl l c cn (ch.take k) (cutHead cc) hlk (hch.take _) (by rw [List.length_take]; omega)
  unfold killedN at *
  generalize costN l (ch.take (k + 1)) = C at *
  obtain ⟨N, hN⟩ : ∃ N : Int, N = ((cnt (killedP l (ch.take (k + 1))) 256 : Nat) : Int) := ⟨_, rfl⟩
  obtain ⟨N', hN'⟩ : ∃ N : Int, N = ((cnt (killedP l (ch.take k)) 256 : Nat) : Int) := ⟨_, rfl⟩
  rw [← hN] at q2 b2 hst
  rw [← hN'] at q3 b1 hst
  generalize hT : lateTo l ch k = T at *
  generalize hT1 : lateTo l ch (k + 1) = T1 at *
  have m0 : 0 ≤ C * (N - N') := Int.mul_nonneg b3.1 (by omega)
  obtain ⟨J, hJ⟩ : ∃ J : Int, J = (k : Int) + 1 := ⟨_, rfl⟩
  have hkn : J.toNat = k + 1 := by omega
  have hkm : J - 1 = (k : Int) := by omega
  have hkn2 : (k : Int).toNat = k := Int.toNat_natCast k
  rw [← hJ]
  have hJ1 : ((k + 1 : Nat) : Int) + 1 = J + 1 := by omega
  have hlen : (ch.map intC).length = ch.length := List.length_map _
  refine EvC.skip ?_
  refine EvC.seq ?_
  refine EvC.block ?_  -- 1
  apply EvC.drw mixed
  · apply Tr.run
    · (simp only [go_sem, hkn, hkm, hkn2, List.length_map, ← List.map_take, List.drop_zero]) <;> rfl
    · simp [intC, inI64_of (x := (k : Int)) (by omega) (by omega)]; try omega
    apply Tr.cons
    · exact .call rfl rfl (by (simp only [go_sem]) <;> rfl) (by (simp only [go_sem]) <;> rfl) (by (simp only [go_sem]) <;> rfl) (by (simp only [go_sem]) <;> rfl) (by (simp only [go_sem]) <;> rfl) (q1)
    apply Tr.run
    · (simp only [go_sem, hkn, hkm, hkn2, List.length_map, ← List.map_take, List.drop_zero]) <;> rfl
    · simp [intC, inI64_of (x := (k : Int)) (by omega) (by omega)]; try omega
    apply Tr.cons
    · exact .call rfl rfl (by (simp only [go_sem]) <;> rfl) (by (simp only [go_sem]) <;> rfl) (by (simp only [go_sem]) <;> rfl) (by (simp only [go_sem]) <;> rfl) (by (simp only [go_sem]) <;> rfl) (q2)
    apply Tr.run
    · (simp only [go_sem, hkn, hkm, hkn2, List.length_map, ← List.map_take, List.drop_zero]) <;> rfl
    · simp [intC, inI64_of (x := (k : Int)) (by omega) (by omega)]; try omega
    apply Tr.cons
    · exact .call rfl rfl (by (simp only [go_sem]) <;> rfl) (by (simp only [go_sem]) <;> rfl) (by (simp only [go_sem]) <;> rfl) (by (simp only [go_sem]) <;> rfl) (by (simp only [go_sem]) <;> rfl) (q3)
    apply Tr.done
    · (simp only [go_sem, hst]) <;> rfl
    · simp [inI64_of (x := N - N') (by omega) (by omega), inI64_of (x := C * (N - N')) (by omega) (by omega), ← hst]; exact inI64_of (by omega) (by omega)
  · kernel_rfl
  refine EvC.rg (by (simp only [go_sem]) <;> rfl) (by exact inI64_of (by omega) (by omega)) ?_
  exact ⟨[], k + 1, rfl, (by rw [hT1, hJ1]; (simp only [go_sem, hst]) <;> rfl), hkl, by omega⟩
end Go.Avl
namespace Go.Avl
open Go Go.Proofs.Tryd
set_option maxRecDepth 10000
set_option linter.unusedSimpArgs false

/-- Pairs with room behind them. -/
def roomP (n : Nat) (os : List (Int × Int)) : List (List AV) := roomL n [.sc (.int .i64 0), .sc (.int .i64 0)] (os.map pairC)
theorem roomP_len {n : Nat} {os : List (Int × Int)} (h : os.length ≤ n) : (roomP n os).length = n := roomL_len (by simpa using h)
theorem roomP_nil (n : Nat) : List.replicate n [AV.sc (.int .i64 0), .sc (.int .i64 0)] = roomP n [] := (roomL_nil n _).symm
theorem roomP_app {n : Nat} {os : List (Int × Int)} (a b : Int) (h : os.length < n) : (roomP n os).take os.length ++ [.sc (.int .i64 a), .sc (.int .i64 b)] :: (roomP n os).drop (os.length + 1) = roomP n (os ++ [(a, b)]) := by
  have := roomL_app (z := [AV.sc (.int .i64 0), .sc (.int .i64 0)]) (xs := os.map pairC) (pairC (a, b)) (m := n) (by simpa using h)
  rw [List.length_map] at this
  simpa [roomP, pairC] using this
theorem roomP_full {n : Nat} {os : List (Int × Int)} (h : os.length = n) : roomP n os = os.map pairC := roomL_full (by simpa using h)
@[go_sem] theorem norefs_roomP (n : Nat) (os : List (Int × Int)) : (roomP n os).all AV.norefs = true := roomL_norefs rfl (norefs_pairs os)

/-- What plans.Curve answers. -/
def curveR (l : List Item) (ch : List Int) : AV :=
  if checkI l = 0 then (if choiceB l ch = true then .tu [.sl false ((curveOf l ch).map pairC) .full, .sc (.int .i64 0)] else .tu [.sl true [] .unk, .sc (.int .i64 1)])
  else .tu [.sl true [] .unk, .sc (.int .i64 (checkI l))]
theorem curveR_noref (l : List Item) (ch : List Int) : (curveR l ch).noref = true := by unfold curveR; split <;> (try split) <;> simp [AV.noref, AV.norefs]
set_option maxHeartbeats 4000000 in
theorem curve_is (nl : Bool) (l : List Item) (c : Cp) (cn : Bool) (ch : List Int) (cc : Cp) (hk : ∀ x ∈ l, x.kills.length < 1000000) (hcl : ch.length ≤ 1000) :
    PureIs prog 16 [.sl nl (l.map itemC) c, .sl cn (ch.map intC) cc] (curveR l ch) := by
  refine PureIs.of (nv := 2) (hid := [4, 5, 6, 7, 8, 9, 10, 12, 16, 26, 27, 28, 29, 30, 46]) func16 rfl (by kernel_rfl) (by simp [ntmps16]) fun _ => ?_
  rw [ntmps16, results16]
  refine EvC.seq (EvC.rg (by (simp only [go_sem]) <;> rfl) (by simp) ?_)
  refine EvC.seq ?_
  apply EvC.seq
  apply EvC.tr
  · apply Tr.run
    · (simp only [go_sem]) <;> rfl
    · simp
    apply Tr.cons
    · exact .call rfl rfl (by (simp only [go_sem]) <;> rfl) (by (simp only [go_sem]) <;> rfl) (by (simp only [go_sem]) <;> rfl) (by (simp only [go_sem]) <;> rfl) (by (simp only [go_sem]) <;> rfl) (check_items_is nl l c hk)
    apply Tr.done
    · (simp only [go_sem]) <;> rfl
    · simp
  refine EvC.seq (EvC.rg (by (simp only [go_sem]) <;> rfl) (by simp) ?_)
  refine EvC.cond (by (simp only [go_sem]) <;> rfl) (fun hc => ?_) (fun hc => ?_)
  · -- then
    have hc' : ¬ checkI l = 0 := by simpa using hc
    refine EvC.seq (EvC.rg (by (simp only [go_sem]) <;> rfl) (by simp) ?_)
    refine EvC.ret ⟨.inl rfl, _, (by (simp only [go_sem]) <;> rfl), ?_, curveR_noref l ch⟩
    simp only [go_sem]
    rw [curveR, if_neg hc']
  have hc' : checkI l = 0 := by simpa using hc
  clear hc
  obtain ⟨hll, hls⟩ := checkI_sound hc'
  refine EvC.skip ?_
  have hr2 : room l.length 1 = true := by simp only [room_eq, decide_eq_true_eq]; omega
  refine EvC.seq (EvC.rg (by (simp only [go_sem, List.length_map]) <;> rfl) (by simp [hr2]; try omega) ?_)
  refine EvC.seq (EvC.rg (by (simp only [go_sem]) <;> rfl) (by simp) ?_)
  refine EvC.seq (EvC.rg (by (simp only [go_sem]) <;> rfl) (by simp) ?_)
  obtain ⟨M, hM, hM1, hM2, hM3⟩ : ∃ M : Nat, (if (ch.length : Int) ≤ (l.length : Int) then (ch.length : Int) else (l.length : Int)) = (M : Int) ∧ M ≤ ch.length ∧ M ≤ l.length ∧ (∀ k : Nat, k ≤ ch.length → k ≤ l.length → k ≤ M) := by
    by_cases h : ch.length ≤ l.length
    · exact ⟨ch.length, if_pos (by omega), by omega, h, fun k a b => a⟩
    · exact ⟨l.length, if_neg (by omega), by omega, by omega, fun k a b => b⟩
  have hr3 : room M 16 = true := by simp only [room_eq, decide_eq_true_eq]; omega
  have hMn : (M : Int).toNat = M := Int.toNat_natCast M
  refine EvC.seq (EvC.rg (by (simp only [go_sem, List.length_map, hM, hMn]) <;> rfl) (by simp [hr3]; try omega) ?_)
  refine EvC.seq ?_
  refine EvC.seq (EvC.rg (by (simp only [go_sem, List.length_map]) <;> rfl) (by simp) ?_)
  refine EvC.block ?_  -- 0
  refine EvC.loopS (σ := Nat) (fun k => ⟨[(0, .sl nl (l.map itemC) c), (7, .tl 0 l.length false), (8, .rf 1 0), (9, .sc (.int .i64 (costN l (ch.take k)))), (10, .tv 2 M 0 k (.val M)), (27, .sl cn (ch.map intC) cc), (28, .sc (.int .i64 ch.length)), (29, .sc (.int .i64 k))], [], [(0, .arr 1 (seenL l (ch.take k)) false), (1, .cells (setC (killedP l (ch.take k)))), (2, .arr 2 (roomP M (curveTo l ch k)) false)], 3⟩) (fun k => ch.length - k) (fun k => k ≤ ch.length ∧ OkA l (ch.take k) ∧ choiceB l ch = chFrom l.length (ch.take k) (ch.drop k)) [0, 7, 8, 9, 10, 27, 28, 29] 3 ?_ ?_
  · exact ⟨[(9, 0), (11, 1), (18, 2)], 0, rfl, (by rw [seenL_nil, setC_nil l, roomP_nil]; (simp only [go_sem, Int.natCast_zero, List.take_zero, costN, List.map_nil, List.sum_nil, curveTo]) <;> rfl), Nat.zero_le _, OkA.nil l, rfl⟩
  rintro k ⟨hk1, hok, hinv⟩
  refine EvC.seq (EvC.rg (by (simp only [go_sem]) <;> rfl) (by simp) ?_)
  refine EvC.seq ?_
  refine EvC.cond (by (simp only [go_sem]) <;> rfl) (fun hc => ?_) (fun hc => ?_)
  rotate_left
  · -- else
    refine EvC.exit ?_  -- 0
    obtain rfl : ch.length = k := by have : ¬ k < ch.length := by simpa using hc
                                     omega
    rw [chFrom_end] at hinv
    rw [List.take_length] at hok
    have hML : M = ch.length := by have := hM3 ch.length (by omega) hok.len; omega
    subst hML
    have hcl2 := curveTo_len l ch ch.length
    rw [roomP_full hcl2]
    have hR : curveR l ch = .tu [.sl false ((curveTo l ch ch.length).map pairC) .full, .sc (.int .i64 0)] := by rw [curveR, if_pos hc', if_pos hinv]; rfl
    rw [hR]
    generalize curveTo l ch ch.length = L at hcl2
    refine EvC.frz 2 (by (simp only [go_sem]) <;> rfl) ?_
    refine EvC.seq (EvC.rg (by (simp only [go_sem, List.length_map, hcl2]) <;> rfl) (by simp) ?_)
    refine EvC.ret ⟨.inl rfl, _, (by (simp only [go_sem, List.length_map, hcl2]) <;> rfl), ?_, by simp [AV.noref, AV.norefs]⟩
    simp only [go_sem, List.length_map, hcl2]
  have hkl : k < ch.length := by simpa using hc
  clear hc
  have he : ch[k]? = some (ch[k]'hkl) := List.getElem?_eq_getElem hkl
  have htk : ch.take (k + 1) = ch.take k ++ [ch[k]'hkl] := List.take_succ_eq_append_getElem hkl
  generalize ch[k]'hkl = x at he htk
  rw [chFrom_step he] at hinv
  have hin : (k : Int).toNat = k := Int.toNat_natCast k
  have hsl := seenL_len l (ch.take k)
  refine EvC.skip ?_
  refine EvC.seq ?_
  refine EvC.block ?_  -- 1
  refine EvC.seq (EvC.rg (by (simp only [go_sem, he, intC, hin]) <;> rfl) (by simp) ?_)
  refine EvC.seq ?_
  have hR1 : choiceB l ch = false → curveR l ch = .tu [.sl true [] .unk, .sc (.int .i64 1)] := fun h => by rw [curveR, if_pos hc', if_neg (by rw [h]; simp)]
  by_cases h0 : l.length ≤ x.toNat
  · have hnone : (seenL l (ch.take k))[x.toNat]? = none := List.getElem?_eq_none (by rw [hsl]; exact h0)
    by_cases h1 : x < 0
    · have d1 : decide (x < 0) = true := decide_eq_true h1
      have hb : chBad l.length (ch.take k) x = true := by rw [chBad, d1]; rfl
      rw [hb] at hinv
      rw [hR1 hinv]
      apply EvC.seq
      apply EvC.tr
      · apply Tr.run
        · (simp only [go_sem, List.length_map, d1, hnone]) <;> rfl
        · simp
        apply Tr.cons
        · exact .skipv (.sc (.bool false)) rfl rfl (by (simp only [go_sem]) <;> rfl) (by (simp only [go_sem]) <;> rfl)
        apply Tr.done
        · (simp only [go_sem]) <;> rfl
        · simp
      refine EvC.cond_true (by (simp only [go_sem]) <;> rfl) ?_
      refine EvC.seq (EvC.rg (by (simp only [go_sem]) <;> rfl) (by simp) ?_)
      refine EvC.ret ⟨.inl rfl, _, (by (simp only [go_sem]) <;> rfl), ?_, rfl⟩
      simp only [go_sem]
    have d1 : decide (x < 0) = false := decide_eq_false h1
    have d2 : decide ((l.length : Int) ≤ x) = true := decide_eq_true (by omega)
    have hb : chBad l.length (ch.take k) x = true := by rw [chBad, d1, d2]; rfl
    rw [hb] at hinv
    rw [hR1 hinv]
    apply EvC.seq
    apply EvC.tr
    · apply Tr.run
      · (simp only [go_sem, List.length_map, d1, d2, hnone]) <;> rfl
      · simp
      apply Tr.cons
      · exact .skipv (.sc (.bool false)) rfl rfl (by (simp only [go_sem]) <;> rfl) (by (simp only [go_sem]) <;> rfl)
      apply Tr.done
      · (simp only [go_sem]) <;> rfl
      · simp
    refine EvC.cond_true (by (simp only [go_sem]) <;> rfl) ?_
    refine EvC.seq (EvC.rg (by (simp only [go_sem]) <;> rfl) (by simp) ?_)
    refine EvC.ret ⟨.inl rfl, _, (by (simp only [go_sem]) <;> rfl), ?_, rfl⟩
    simp only [go_sem]
  have hsg0 := seenL_get (ch.take k) (i := x.toNat) (l := l) (by omega)
  by_cases h1 : x < 0
  · have d1 : decide (x < 0) = true := decide_eq_true h1
    have hb : chBad l.length (ch.take k) x = true := by rw [chBad, d1]; rfl
    rw [hb] at hinv
    rw [hR1 hinv]
    apply EvC.seq
    apply EvC.trd
    · (simp only [go_sem, List.length_map, d1, hsg0, hsl]) <;> rfl
    · simp
    refine EvC.cond_true (by (simp only [go_sem]) <;> rfl) ?_
    refine EvC.seq (EvC.rg (by (simp only [go_sem]) <;> rfl) (by simp) ?_)
    refine EvC.ret ⟨.inl rfl, _, (by (simp only [go_sem]) <;> rfl), ?_, rfl⟩
    simp only [go_sem]
  have d1 : decide (x < 0) = false := decide_eq_false h1
  have h2 : ¬ (l.length : Int) ≤ x := by omega
  have d2 : decide ((l.length : Int) ≤ x) = false := decide_eq_false h2
  obtain ⟨j, rfl⟩ : ∃ j : Nat, x = j := ⟨x.toNat, by omega⟩
  have hjl : j < l.length := by omega
  have hjn : (j : Int).toNat = j := Int.toNat_natCast j
  have hsg := seenL_get (ch.take k) hjl
  have hb : chBad l.length (ch.take k) (j : Int) = (ch.take k).contains (j : Int) := by rw [chBad, d1, d2]; rfl
  rw [hb] at hinv
  apply EvC.seq
  apply EvC.trd
  · (simp only [go_sem, List.length_map, d1, d2, hjn, hsg, hsl]) <;> rfl
  · simp [hsl]; try omega
  refine EvC.cond (by (simp only [go_sem]) <;> rfl) (fun hc => ?_) (fun hc => ?_)
  · have hc2 : (ch.take k).contains (j : Int) = true := by simpa using hc
    rw [hc2] at hinv
    rw [hR1 hinv]
    refine EvC.seq (EvC.rg (by (simp only [go_sem]) <;> rfl) (by simp) ?_)
    refine EvC.ret ⟨.inl rfl, _, (by (simp only [go_sem]) <;> rfl), ?_, rfl⟩
    simp only [go_sem]
  have hc2 : (ch.take k).contains (j : Int) = false := by simpa using hc
  rw [hc2] at hinv
  clear hc
  have hok2 := hok.snoc hjl (by simpa using hc2)
  have hlen2 := hok2.len
  rw [← htk] at hok2 hlen2
  rw [List.length_take] at hlen2
  have hkM : k + 1 ≤ M := hM3 (k + 1) (by omega) (by omega)
  have hss := seenL_set l (ch.take k) j
  rw [← htk] at hss
  have hkp := killedP_snoc l (ch.take k) j
  rw [← htk] at hkp
  have hcs := costN_snoc l (ch.take k) (j : Int)
  rw [← htk] at hcs
  have hxb : l[j]? = some (itemAt l (j : Int)) := itemAt_get (i := (j : Int)) ⟨by omega, by omega⟩
  have hxm := List.mem_of_getElem? hxb
  have hxd := hls _ hxm
  have hkl2 := hk _ hxm
  have hlc : ∀ x ∈ l, 0 ≤ x.cost ∧ x.cost ≤ 1000000 := fun x hx => by have := (hls x hx).1; omega
  have hcb := costN_bd hlc hok2.rng
  rw [List.length_take] at hcb
  have hct : curveTo l ch (k + 1) = curveTo l ch k ++ [(costN l (ch.take (k + 1)), ((killedN l (ch.take (k + 1)) : Nat) : Int))] := rfl
  have o := of_is (itemAt l (j : Int)).nl (itemAt l (j : Int)).kills .unk hkl2 hxd.2
  have w := with_is (killedP l (ch.take k)) (inL (itemAt l (j : Int)).kills)
  have n := count_is (killedP l (ch.take (k + 1)))
  rw [← hkp] at w
  have hap := roomP_app (n := M) (os := curveTo l ch k) (costN l (ch.take (k + 1))) ((killedN l (ch.take (k + 1)) : Nat) : Int) (by rw [curveTo_len]; omega)
  have hrl := roomP_len (n := M) (os := curveTo l ch k) (by rw [curveTo_len]; omega)
  rw [← hct, curveTo_len] at hap
  clear hct hkp
  unfold killedN at hap
  generalize itemAt l (j : Int) = x at hxb hcs o w hxd
  generalize ((cnt (killedP l (ch.take (k + 1))) 256 : Nat) : Int) = N at n hap
  generalize hC : costN l (ch.take (k + 1)) = C at hap hcs hcb
  generalize hC0 : costN l (ch.take k) = C0 at hcs
  generalize hP1 : killedP l (ch.take (k + 1)) = P1 at n w
  generalize hT1 : curveTo l ch (k + 1) = T1 at hap
  generalize curveTo l ch k = T at hap hrl
  have hn1 := norefs_seenL l (ch.take (k + 1))
  generalize hS1 : seenL l (ch.take (k + 1)) = S1 at hss hn1
  generalize seenL l (ch.take k) = S0 at hss hsl hsg
  generalize killedP l (ch.take k) = P0 at w
  refine EvC.skip ?_
  refine EvC.seq (EvC.rg (by (simp only [go_sem, hjn, hsg, hsl, hss]) <;> rfl) (by simp [hsl]; try omega) ?_)
  apply EvC.seq  -- R14
  apply EvC.drw mixed
  · apply Tr.run
    · (simp only [go_sem, hxb, itemC, List.length_map, hjn, setC_take]) <;> rfl
    · simp [setC_len]; try omega
    apply Tr.cons
    · exact .call rfl rfl (by (simp only [go_sem]) <;> rfl) (by (simp only [go_sem]) <;> rfl) (by (simp only [go_sem]) <;> rfl) (by (simp only [go_sem]) <;> rfl) (by (simp only [go_sem]) <;> rfl) o
    apply Tr.cons
    · exact .call rfl rfl (by (simp only [go_sem]) <;> rfl) (by (simp only [go_sem]) <;> rfl) (by (simp only [go_sem]) <;> rfl) (by (simp only [go_sem]) <;> rfl) (by (simp only [go_sem]) <;> rfl) w
    apply Tr.done
    · (simp only [go_sem, setC_len]) <;> rfl
    · simp [setC_len]
      try exact setC_acell _ _
  · exact confAll_slots (by simp [rdOk, slotsOf, opSlots, memless, Op.operands, Call.operands, setC_idss, odds]) (by kernel_rfl)
  refine EvC.seq (EvC.rg (by (simp only [go_sem, hxb, itemC, List.length_map, hjn, ← hcs]) <;> rfl) (by simp [inI64_of (x := C) (by omega) (by omega)]) ?_)
  have hdr : List.drop 4 (setC P0) = [] := rfl
  have hrm : room (k + 1) 16 = true := by simp only [room_eq, decide_eq_true_eq]; omega
  apply EvC.tr
  · apply Tr.run
    · (simp only [go_sem, hdr, List.append_nil, setC_take]) <;> rfl
    · simp [setC_len]
    apply Tr.cons
    · exact .call rfl rfl (by (simp only [go_sem]) <;> rfl) (by (simp only [go_sem]) <;> rfl) (by (simp only [go_sem]) <;> rfl) (by (simp only [go_sem]) <;> rfl) (by (simp only [go_sem]) <;> rfl) (n)
    apply Tr.done
    · (simp only [go_sem, hap, hrl, hMn]) <;> rfl
    · simp [hrl, hrm]; try omega
  refine EvC.rg (by (simp only [go_sem]) <;> rfl) (by exact inI64_of (by omega) (by omega)) ?_
  exact ⟨[(0, 0), (1, 1), (2, 2)], k + 1, rfl, (by rw [hC, hP1, hT1, hS1]; (simp only [go_sem, hn1, hdr, Int.natCast_add, Int.natCast_one]) <;> rfl), ⟨hkl, hok2, by simpa using hinv⟩, by omega⟩
end Go.Avl
namespace Go.Avl
open Go Go.Proofs.Tryd
set_option maxRecDepth 10000
set_option linter.unusedSimpArgs false

/-- What plans.Late answers. -/
def lateR (l : List Item) (ch : List Int) : AV :=
  if checkI l = 0 then (if choiceB l ch = true then .tu [.sc (.int .i64 (lateOf l ch)), .sc (.int .i64 0)] else .tu [.sc (.int .i64 0), .sc (.int .i64 1)])
  else .tu [.sc (.int .i64 0), .sc (.int .i64 (checkI l))]
theorem curveTo_get (l : List Item) (ch : List Int) : ∀ {n k : Nat}, k < n → (curveTo l ch n)[k]? = some (costN l (ch.take (k + 1)), ((killedN l (ch.take (k + 1)) : Nat) : Int))
  | 0, k, h => by omega
  | n + 1, k, h => by
    rw [curveTo]
    by_cases hk : k < n
    · rw [List.getElem?_append_left (by rw [curveTo_len]; exact hk)]; exact curveTo_get l ch hk
    · obtain rfl : k = n := by omega
      rw [List.getElem?_append_right (by rw [curveTo_len]; exact Nat.le_refl _), curveTo_len, Nat.sub_self]; rfl
theorem curveR_cases (l : List Item) (ch : List Int) : ∃ (n : Nat) (b : Bool) (cp : Cp) (e : Int), curveR l ch = .tu [.sl b ((curveTo l ch n).map pairC) cp, .sc (.int .i64 e)] ∧ lateR l ch = .tu [.sc (.int .i64 (lateTo l ch n)), .sc (.int .i64 e)] ∧ n ≤ ch.length ∧
    (0 < n → checkI l = 0 ∧ OkA l ch) := by
  unfold curveR lateR
  split
  · rename_i h
    split
    · rename_i h2
      exact ⟨ch.length, _, _, _, rfl, rfl, Nat.le_refl _, fun _ => ⟨h, choiceB_ok.1 h2⟩⟩
    · exact ⟨0, _, _, _, rfl, rfl, Nat.zero_le _, fun h => absurd h (Nat.lt_irrefl 0)⟩
  · exact ⟨0, _, _, _, rfl, rfl, Nat.zero_le _, fun h => absurd h (Nat.lt_irrefl 0)⟩
set_option maxHeartbeats 4000000 in
theorem late_is (nl : Bool) (l : List Item) (c : Cp) (cn : Bool) (ch : List Int) (cc : Cp) (hk : ∀ x ∈ l, x.kills.length < 1000000) (hcl : ch.length ≤ 1000) :
    PureIs prog 17 [.sl nl (l.map itemC) c, .sl cn (ch.map intC) cc] (lateR l ch) := by
  have hq := curve_is nl l c cn ch cc hk hcl
  obtain ⟨n, b, cp, e, h1, h2, hn, hok⟩ := curveR_cases l ch
  rw [h1] at hq
  rw [h2]
  clear h1 h2
  have hlen := curveTo_len l ch n
  refine PureIs.of (nv := 2) (hid := [4, 5, 6, 7, 8, 9, 11, 18, 19, 20, 21]) func17 rfl (by kernel_rfl) (by simp [ntmps17]) fun _ => ?_
  rw [ntmps17, results17]
  refine EvC.seq (EvC.rg (by (simp only [go_sem]) <;> rfl) (by simp) ?_)
  apply EvC.seq
  apply EvC.tr
  · apply Tr.run
    · (simp only [go_sem]) <;> rfl
    · simp
    apply Tr.cons
    · exact .call rfl rfl (by (simp only [go_sem]) <;> rfl) (by (simp only [go_sem]) <;> rfl) (by (simp only [go_sem]) <;> rfl) (by (simp only [go_sem]) <;> rfl) (by (simp only [go_sem]) <;> rfl) (hq)
    apply Tr.done
    · (simp only [go_sem]) <;> rfl
    · simp
  refine EvC.seq (EvC.rg (by (simp only [go_sem]) <;> rfl) (by simp) ?_)
  refine EvC.seq ?_
  refine EvC.seq (EvC.rg (by (simp only [go_sem, List.length_map, hlen]) <;> rfl) (by simp) ?_)
  refine EvC.block ?_  -- 0
  refine EvC.loopS (σ := Nat) (fun k => ⟨[(7, .sc (.int .i64 e)), (8, .sc (.int .i64 (lateTo l ch k))), (9, .sc (.int .i64 ((killedN l (ch.take k) : Nat) : Int))), (18, .sl b ((curveTo l ch n).map pairC) cp), (19, .sc (.int .i64 n)), (20, .sc (.int .i64 k))], [], [], 0⟩) (fun k => n - k) (fun k => k ≤ n) [7, 8, 9, 18, 19, 20] 0 ?_ ?_
  · have h0 : ((killedN l (ch.take 0) : Nat) : Int) = 0 := by
      have : killedP l (ch.take 0) = fun _ => false := by funext k; simp [killedP]
      unfold killedN
      rw [this]
      decide
    exact ⟨[], 0, rfl, (by rw [h0]; (simp only [go_sem, lateTo, Int.natCast_zero]) <;> rfl), Nat.zero_le _⟩
  intro k hk1
  refine EvC.seq (EvC.rg (by (simp only [go_sem]) <;> rfl) (by simp) ?_)
  refine EvC.seq ?_
  refine EvC.cond (by (simp only [go_sem]) <;> rfl) (fun hc => ?_) (fun hc => ?_)
  rotate_left
  · -- else
    refine EvC.exit ?_  -- 0
    obtain rfl : n = k := by have : ¬ k < n := by simpa using hc
                             omega
    refine EvC.seq (EvC.rg (by (simp only [go_sem]) <;> rfl) (by simp) ?_)
    refine EvC.ret ⟨.inl rfl, _, (by (simp only [go_sem]) <;> rfl), ?_, rfl⟩
    simp only [go_sem]
  have hkl : k < n := by simpa using hc
  clear hc
  have he := curveTo_get l ch hkl
  obtain ⟨hck, hok⟩ := hok (by omega)
  have hlc : ∀ x ∈ l, 0 ≤ x.cost ∧ x.cost ≤ 1000000 := fun x hx => by have := ((checkI_sound hck).2 x hx).1; omega
  have hst : lateTo l ch (k + 1) = lateTo l ch k + costN l (ch.take (k + 1)) * (((killedN l (ch.take (k + 1)) : Nat) : Int) - ((killedN l (ch.take k) : Nat) : Int)) := rfl
  have b1 := lateTo_bd hlc hok.rng hcl k
  have b2 := lateTo_bd hlc hok.rng hcl (k + 1)
  have b3 := costs_bd hlc hok.rng hcl (k + 1)
  have b4 := cnt_le (killedP l (ch.take (k + 1))) 256
  have b5 := cnt_le (killedP l (ch.take k)) 256
  have b6 := killedN_mono l ch k
  change killedN l (ch.take (k + 1)) ≤ 256 at b4
  change killedN l (ch.take k) ≤ 256 at b5
  generalize costN l (ch.take (k + 1)) = C at *
  generalize hN : killedN l (ch.take (k + 1)) = N at *
  generalize hN' : killedN l (ch.take k) = N' at *
  generalize hT : lateTo l ch k = T at *
  generalize hT1 : lateTo l ch (k + 1) = T1 at *
  obtain ⟨A, hA⟩ : ∃ A : Int, A = (N : Int) := ⟨_, rfl⟩
  obtain ⟨A', hA'⟩ : ∃ A : Int, A = (N' : Int) := ⟨_, rfl⟩
  rw [← hA] at hst he
  rw [← hA'] at hst
  rw [← hA']
  have m0 : 0 ≤ C * (A - A') := Int.mul_nonneg b3.1 (by omega)
  have hkn : (k : Int).toNat = k := Int.toNat_natCast k
  refine EvC.skip ?_
  refine EvC.seq ?_
  refine EvC.block ?_  -- 1
  refine EvC.seq (EvC.rg (by (simp only [go_sem, he, pairC, hkn]) <;> rfl) (by simp [pairC]) ?_)
  refine EvC.seq (EvC.rg (by (simp only [go_sem, ← hst]) <;> rfl) (by simp [inI64_of (x := A - A') (by omega) (by omega), inI64_of (x := C * (A - A')) (by omega) (by omega)]; exact inI64_of (by omega) (by omega)) ?_)
  refine EvC.rg (by (simp only [go_sem]) <;> rfl) (by simp) ?_
  refine EvC.rg (by (simp only [go_sem]) <;> rfl) (by exact inI64_of (by omega) (by omega)) ?_
  exact ⟨[], k + 1, rfl, (by rw [hT1, hN, ← hA]; (simp only [go_sem, hst, Int.natCast_add, Int.natCast_one]) <;> rfl), hkl, by omega⟩
end Go.Avl
namespace Go.Avl
open Go Go.Proofs.Tryd
set_option maxRecDepth 10000
set_option linter.unusedSimpArgs false

/-! ### The best choice within a budget -/
theorem cnt_congr {P Q : Nat → Bool} : ∀ {n : Nat}, (∀ i, i < n → P i = Q i) → cnt P n = cnt Q n
  | 0, _ => rfl
  | n + 1, h => by
    have e1 : cnt P (n + 1) = cnt P n + (P n).toNat := rfl
    have e2 : cnt Q (n + 1) = cnt Q n + (Q n).toNat := rfl
    rw [e1, e2, cnt_congr (n := n) fun i hi => h i (by omega), h n (by omega)]
def sameP (P Q : Nat → Bool) : Bool := (List.range 256).all fun n => P n == Q n
theorem sameP_iff {P Q : Nat → Bool} : sameP P Q = true ↔ ∀ n, n < 256 → P n = Q n := by
  simp only [sameP, List.all_eq_true, List.mem_range, beq_iff_eq]
def addsOk (l : List Item) (budget : Int) (ch : List Int) (i : Nat) : Bool := !sameP (killedP l (ch ++ [(i : Int)])) (killedP l ch) && decide (costN l (ch ++ [(i : Int)]) ≤ budget)
/-- The choices that the search visits behind ch, out of the last d items. -/
def visR (l : List Item) (budget : Int) : Nat → List Int → List (List Int)
  | 0, _ => []
  | d + 1, ch => (if addsOk l budget ch (l.length - (d + 1)) = true then (ch ++ [((l.length - (d + 1) : Nat) : Int)]) :: visR l budget d (ch ++ [((l.length - (d + 1) : Nat) : Int)]) else []) ++ visR l budget d ch
/-- More kills, or as many for less. -/
def kb (l : List Item) (a b : List Int) : Prop := killedN l b < killedN l a ∨ (killedN l a = killedN l b ∧ costN l a < costN l b)
instance (l : List Item) (a b : List Int) : Decidable (kb l a b) := inferInstanceAs (Decidable (_ ∨ _))
def visitB (l : List Item) : Option (List Int) → List Int → List Int
  | none, ch => ch
  | some b, ch => if kb l ch b then ch else b
def foldV (l : List Item) (s : Option (List Int)) (V : List (List Int)) : Option (List Int) := V.foldl (fun s c => some (visitB l s c)) s
def lexB : List Int → List Int → Bool
  | [], [] => false
  | [], _ :: _ => true
  | _ :: _, [] => false
  | x :: a, y :: b => if x = y then lexB a b else decide (x < y)
/-- .. or as many for as much, and earlier. -/
def btr (l : List Item) (a b : List Int) : Prop := kb l a b ∨ (killedN l a = killedN l b ∧ costN l a = costN l b ∧ lexB a b = true)
instance (l : List Item) (a b : List Int) : Decidable (btr l a b) := inferInstanceAs (Decidable (_ ∨ _))
def setTo (s : Nat) : Nat → List Int
  | 0 => []
  | k + 1 => if s.testBit k = true then setTo s k ++ [(k : Int)] else setTo s k
def setCh (l : List Item) (s : Nat) : List Int := setTo s l.length
def stepC (l : List Item) (budget : Int) (st : Option (List Int)) (ch : List Int) : Option (List Int) :=
  if budget < costN l ch then st else match st with
    | none => some ch
    | some b => if btr l ch b then some ch else some b
def bestTo (l : List Item) (budget : Int) : Nat → Option (List Int)
  | 0 => none
  | k + 1 => stepC l budget (bestTo l budget k) (setCh l k)
def bestL (l : List Item) (budget : Int) : List Int := (bestTo l budget (2 ^ l.length)).getD []

theorem lexB_trans : ∀ {a b c : List Int}, lexB a b = true → lexB b c = true → lexB a c = true
  | [], b, [], h1, h2 => by cases b <;> simp [lexB] at *
  | [], _, _ :: _, _, _ => rfl
  | x :: a, [], _, h1, _ => by simp [lexB] at h1
  | x :: a, y :: b, [], _, h2 => by simp [lexB] at h2
  | x :: a, y :: b, z :: c, h1, h2 => by
    simp only [lexB] at h1 h2 ⊢
    split at h1
    · rename_i e1
      subst e1
      split at h2
      · rename_i e2
        subst e2
        rw [if_pos rfl]; exact lexB_trans h1 h2
      · rename_i e2
        rw [if_neg e2]; exact h2
    · rename_i e1
      split at h2
      · rename_i e2
        subst e2
        rw [if_neg e1]; exact h1
      · have h1 := of_decide_eq_true h1
        have h2 := of_decide_eq_true h2
        rw [if_neg (by omega)]
        exact decide_eq_true (by omega)
theorem lexB_pre : ∀ (ch : List Int) {a b : List Int}, lexB (ch ++ a) (ch ++ b) = lexB a b
  | [], _, _ => rfl
  | x :: ch, a, b => by simp [lexB, lexB_pre ch]
theorem kb_trans {l : List Item} {a b c : List Int} (h1 : kb l a b) (h2 : kb l b c) : kb l a c := by
  unfold kb at *; omega
theorem kb_neg {l : List Item} {a b c : List Int} (h1 : kb l a b) (h2 : ¬ kb l c b) : kb l a c := by
  unfold kb at *; omega
theorem btr_trans {l : List Item} {a b c : List Int} (h1 : btr l a b) (h2 : btr l b c) : btr l a c := by
  unfold btr kb at *
  rcases h1 with h1 | ⟨h1, h1', h1''⟩ <;> rcases h2 with h2 | ⟨h2, h2', h2''⟩
  · exact .inl (by omega)
  · exact .inl (by omega)
  · exact .inl (by omega)
  · exact .inr ⟨by omega, by omega, lexB_trans h1'' h2''⟩
theorem lexB_irr : ∀ a : List Int, lexB a a = false
  | [] => rfl
  | x :: a => by simp [lexB, lexB_irr a]
theorem btr_irr {l : List Item} {a : List Int} : ¬ btr l a a := by
  unfold btr kb
  rintro (h | ⟨_, _, h⟩)
  · omega
  · rw [lexB_irr] at h; cases h

/-! #### What the search finds -/
theorem foldV_spec {l : List Item} : ∀ {V : List (List Int)} {b : List Int}, ∃ r, foldV l (some b) V = some r ∧ ((r = b ∧ ∀ c ∈ V, ¬ kb l c b) ∨ ∃ A B, V = A ++ r :: B ∧ kb l r b ∧ (∀ a ∈ A, kb l r a) ∧ ∀ c ∈ B, ¬ kb l c r)
  | [], b => ⟨b, rfl, .inl ⟨rfl, fun _ h => by cases h⟩⟩
  | c :: V, b => by
    have e : foldV l (some b) (c :: V) = foldV l (some (if kb l c b then c else b)) V := rfl
    rw [e]
    by_cases hk : kb l c b
    · rw [if_pos hk]
      obtain ⟨r, hr, h⟩ := foldV_spec (l := l) (V := V) (b := c)
      refine ⟨r, hr, .inr ?_⟩
      rcases h with ⟨rfl, h⟩ | ⟨A, B, rfl, h1, h2, h3⟩
      · exact ⟨[], V, rfl, hk, (fun _ h => by cases h), h⟩
      · refine ⟨c :: A, B, rfl, kb_trans h1 hk, fun a ha => ?_, h3⟩
        rcases List.mem_cons.1 ha with rfl | ha
        · exact h1
        · exact h2 a ha
    · rw [if_neg hk]
      obtain ⟨r, hr, h⟩ := foldV_spec (l := l) (V := V) (b := b)
      refine ⟨r, hr, ?_⟩
      rcases h with ⟨rfl, h⟩ | ⟨A, B, rfl, h1, h2, h3⟩
      · refine .inl ⟨rfl, fun a ha => ?_⟩
        rcases List.mem_cons.1 ha with rfl | ha
        · exact hk
        · exact h a ha
      · refine .inr ⟨c :: A, B, rfl, h1, fun a ha => ?_, h3⟩
        rcases List.mem_cons.1 ha with rfl | ha
        · exact kb_neg h1 hk
        · exact h2 a ha
theorem foldV_first {l : List Item} {V : List (List Int)} {c : List Int} : ∃ r, foldV l none (c :: V) = some r ∧ ∃ A B, c :: V = A ++ r :: B ∧ (∀ a ∈ A, kb l r a) ∧ ∀ b ∈ B, ¬ kb l b r := by
  have e : foldV l none (c :: V) = foldV l (some c) V := rfl
  rw [e]
  obtain ⟨r, hr, h⟩ := foldV_spec (l := l) (V := V) (b := c)
  refine ⟨r, hr, ?_⟩
  rcases h with ⟨rfl, h⟩ | ⟨A, B, rfl, h1, h2, h3⟩
  · exact ⟨[], V, rfl, (fun _ h => by cases h), h⟩
  · refine ⟨c :: A, B, rfl, fun a ha => ?_, h3⟩
    rcases List.mem_cons.1 ha with rfl | ha
    · exact h1
    · exact h2 a ha
def IncL (lo n : Nat) (r : List Int) : Prop := r.Pairwise (· < ·) ∧ ∀ x ∈ r, (lo : Int) ≤ x ∧ x < n
theorem visR_mem {l : List Item} {budget : Int} : ∀ {d : Nat} {ch c : List Int}, d ≤ l.length → c ∈ visR l budget d ch → ∃ r, c = ch ++ r ∧ r ≠ [] ∧ IncL (l.length - d) l.length r ∧ costN l c ≤ budget
  | 0, _, _, _, h => by cases h
  | d + 1, ch, c, hd, h => by
    rw [visR] at h
    rcases List.mem_append.1 h with h | h
    · split at h
      · rename_i hok
        rw [addsOk, Bool.and_eq_true] at hok
        have hcost := of_decide_eq_true hok.2
        rcases List.mem_cons.1 h with rfl | h
        · refine ⟨[((l.length - (d + 1) : Nat) : Int)], rfl, by simp, ⟨by simp, fun x hx => ?_⟩, hcost⟩
          simp at hx; subst hx; omega
        · obtain ⟨r, rfl, h1, ⟨h2, h3⟩, h4⟩ := visR_mem (by omega) h
          refine ⟨((l.length - (d + 1) : Nat) : Int) :: r, by simp, by simp, ⟨List.pairwise_cons.2 ⟨fun x hx => ?_, h2⟩, fun x hx => ?_⟩, h4⟩
          · have := h3 x hx; omega
          · rcases List.mem_cons.1 hx with rfl | hx
            · omega
            · have := h3 x hx; omega
      · cases h
    · obtain ⟨r, rfl, h1, ⟨h2, h3⟩, h4⟩ := visR_mem (by omega) h
      exact ⟨r, rfl, h1, ⟨h2, fun x hx => by have := h3 x hx; omega⟩, h4⟩
theorem visR_sorted {l : List Item} {budget : Int} : ∀ {d : Nat} {ch : List Int}, d ≤ l.length → (ch :: visR l budget d ch).Pairwise fun a b => lexB a b = true := by
  intro d
  induction d with
  | zero => intro ch _; simp [visR]
  | succ d ih =>
    intro ch hd
    refine List.pairwise_cons.2 ⟨fun c hc => ?_, ?_⟩
    · obtain ⟨r, rfl, hr, _⟩ := visR_mem hd hc
      rw [show lexB ch (ch ++ r) = lexB (ch ++ []) (ch ++ r) by simp, lexB_pre]
      cases r with
      | nil => exact absurd rfl hr
      | cons => rfl
    · rw [visR, List.pairwise_append]
      refine ⟨?_, (List.pairwise_cons.1 (ih (ch := ch) (by omega))).2, fun a ha b hb => ?_⟩
      · split
        · exact ih (by omega)
        · exact .nil
      · obtain ⟨r, rfl, hr, ⟨_, h3⟩, _⟩ := visR_mem (by omega) hb
        split at ha
        rotate_left
        · cases ha
        have : ∃ r1, a = ch ++ (((l.length - (d + 1) : Nat) : Int) :: r1) := by
          rcases List.mem_cons.1 ha with rfl | ha
          · exact ⟨[], rfl⟩
          · obtain ⟨r1, rfl, _⟩ := visR_mem (by omega) ha
            exact ⟨r1, by simp⟩
        obtain ⟨r1, rfl⟩ := this
        rw [lexB_pre]
        cases r with
        | nil => exact absurd rfl hr
        | cons y r2 =>
          have := h3 y List.mem_cons_self
          simp only [lexB]
          rw [if_neg (by omega)]
          exact decide_eq_true (by omega)
theorem visR_has {l : List Item} {budget : Int} : ∀ {d : Nat} {ch r : List Int}, d ≤ l.length → IncL (l.length - d) l.length r → (∀ (a : List Int) (x : Nat) (b : List Int), r = a ++ (x : Int) :: b → addsOk l budget (ch ++ a) x = true) → ch ++ r ∈ ch :: visR l budget d ch
  | d, ch, [], _, _, _ => by simp
  | 0, ch, x :: r, _, h, _ => by have := h.2 x List.mem_cons_self; omega
  | d + 1, ch, x :: r, hd, ⟨h1, h2⟩, h3 => by
    have hx := h2 x List.mem_cons_self
    obtain ⟨h4, h5⟩ := List.pairwise_cons.1 h1
    refine List.mem_cons_of_mem _ ?_
    rw [visR]
    by_cases hxi : x = ((l.length - (d + 1) : Nat) : Int)
    · subst hxi
      have hok := h3 [] (l.length - (d + 1)) r rfl
      rw [List.append_nil] at hok
      rw [if_pos hok]
      refine List.mem_append_left _ ?_
      have := visR_has (l := l) (budget := budget) (d := d) (ch := ch ++ [((l.length - (d + 1) : Nat) : Int)]) (r := r) (by omega) ⟨h5, fun y hy => by have := h4 y hy; have := h2 y (List.mem_cons_of_mem _ hy); omega⟩ fun a y b hab => by
        have := h3 (((l.length - (d + 1) : Nat) : Int) :: a) y b (by rw [hab]; rfl)
        simpa using this
      simpa using this
    · have := visR_has (l := l) (budget := budget) (d := d) (ch := ch) (r := x :: r) (by omega) ⟨h1, fun y hy => by
        have hy2 := h2 y hy
        rcases List.mem_cons.1 hy with rfl | hy
        · omega
        · have := h4 y hy; omega⟩ h3
      rcases List.mem_cons.1 this with h | h
      · have := congrArg List.length h
        simp at this
      · exact List.mem_append_right _ h

/-! #### What the definition says -/
theorem setTo_inc (s : Nat) : ∀ k, IncL 0 k (setTo s k)
  | 0 => ⟨.nil, fun _ h => by cases h⟩
  | k + 1 => by
    obtain ⟨h1, h2⟩ := setTo_inc s k
    rw [setTo]
    split
    · refine ⟨List.pairwise_append.2 ⟨h1, by simp, fun a ha b hb => ?_⟩, fun x hx => ?_⟩
      · simp at hb; subst hb; exact (h2 a ha).2
      · rcases List.mem_append.1 hx with hx | hx
        · have := h2 x hx; omega
        · simp at hx; subst hx; omega
    · exact ⟨h1, fun x hx => by have := h2 x hx; omega⟩
theorem setCh_inc (l : List Item) (s : Nat) : IncL 0 l.length (setCh l s) := setTo_inc s _
theorem ex_bits (p : Nat → Bool) : ∀ n : Nat, ∃ s, s < 2 ^ n ∧ ∀ i, i < n → s.testBit i = p i
  | 0 => ⟨0, by simp, fun i h => by omega⟩
  | n + 1 => by
    obtain ⟨s, h1, h2⟩ := ex_bits p n
    have hp : 2 ^ (n + 1) = 2 ^ n + 2 ^ n := by rw [Nat.pow_succ]; omega
    cases hn : p n with
    | false =>
      refine ⟨s, by omega, fun i hi => ?_⟩
      by_cases h : i = n
      · subst h; rw [Nat.testBit_lt_two_pow h1, hn]
      · exact h2 i (by omega)
    | true =>
      refine ⟨2 ^ n + s, by omega, fun i hi => ?_⟩
      by_cases h : i = n
      · subst h; rw [Nat.testBit_two_pow_add_eq, Nat.testBit_lt_two_pow h1, hn]; rfl
      · rw [Nat.testBit_two_pow_add_gt (by omega)]; exact h2 i (by omega)
theorem inc_filter : ∀ {c : List Int} (k : Nat), c.Pairwise (· < ·) → (c.filter fun x => decide (x < ((k + 1 : Nat) : Int))) = (c.filter fun x => decide (x < (k : Int))) ++ (if (k : Int) ∈ c then [(k : Int)] else [])
  | [], k, _ => by simp
  | x :: c, k, h => by
    obtain ⟨h1, h2⟩ := List.pairwise_cons.1 h
    have ih := inc_filter k h2
    by_cases hx : x < (k : Int)
    · have e1 : decide (x < ((k + 1 : Nat) : Int)) = true := decide_eq_true (by omega)
      have e2 : decide (x < (k : Int)) = true := decide_eq_true hx
      simp only [List.filter_cons, e1, e2, if_true, ih, List.cons_append, List.mem_cons]
      have : ((k : Int) = x ∨ (k : Int) ∈ c) ↔ (k : Int) ∈ c := ⟨fun h => h.resolve_left (by omega), .inr⟩
      simp only [this]
    · have e2 : decide (x < (k : Int)) = false := decide_eq_false hx
      have e3 : (c.filter fun x => decide (x < (k : Int))) = [] := List.filter_eq_nil_iff.2 fun y hy => by have := h1 y hy; simp; omega
      have e4 : ¬ (k : Int) ∈ c := fun hk => by have := h1 _ hk; omega
      rw [e3, if_neg e4, List.append_nil] at ih
      by_cases hk : x = (k : Int)
      · subst hk
        have e1 : decide ((k : Int) < ((k + 1 : Nat) : Int)) = true := decide_eq_true (by omega)
        simp only [List.filter_cons, e1, e2, if_true, ih, e3, List.mem_cons, true_or]
        simp
      · have e1 : decide (x < ((k + 1 : Nat) : Int)) = false := decide_eq_false (by omega)
        have e5 : ¬ (k : Int) ∈ x :: c := fun h => by
          rcases List.mem_cons.1 h with h | h
          · exact hk h.symm
          · exact e4 h
        simp only [List.filter_cons, e1, e2, ih, e3, if_neg e5]
        simp
theorem setCh_all {l : List Item} {c : List Int} (h : IncL 0 l.length c) : ∃ s, s < 2 ^ l.length ∧ setCh l s = c := by
  obtain ⟨s, h1, h2⟩ := ex_bits (fun i => decide ((i : Int) ∈ c)) l.length
  refine ⟨s, h1, ?_⟩
  have key : ∀ k, k ≤ l.length → setTo s k = c.filter fun x => decide (x < (k : Int)) := by
    intro k
    induction k with
    | zero =>
      intro _
      symm
      exact List.filter_eq_nil_iff.2 fun y hy => by have := h.2 y hy; simp; omega
    | succ k ih =>
      intro hk
      rw [setTo, h2 k (by omega), ih (by omega), inc_filter k h.1]
      by_cases hm : (k : Int) ∈ c
      · simp [hm]
      · simp [hm]
  rw [setCh, key _ (Nat.le_refl _)]
  exact List.filter_eq_self.2 fun x hx => by have := h.2 x hx; simp; omega
theorem bestTo_spec (l : List Item) (budget : Int) : ∀ k, (bestTo l budget k = none ∧ ∀ s, s < k → budget < costN l (setCh l s)) ∨ ∃ r s, bestTo l budget k = some r ∧ s < k ∧ r = setCh l s ∧ costN l r ≤ budget ∧ ∀ t, t < k → costN l (setCh l t) ≤ budget → ¬ btr l (setCh l t) r
  | 0 => .inl ⟨rfl, fun s h => by omega⟩
  | k + 1 => by
    have e : bestTo l budget (k + 1) = if budget < costN l (setCh l k) then bestTo l budget k else match bestTo l budget k with | none => some (setCh l k) | some b => if btr l (setCh l k) b then some (setCh l k) else some b := rfl
    rw [e]
    by_cases hb : budget < costN l (setCh l k)
    · rw [if_pos hb]
      rcases bestTo_spec l budget k with ⟨h1, h2⟩ | ⟨r, s, h1, h2, h3, h4, h5⟩
      · refine .inl ⟨h1, fun s hs => ?_⟩
        by_cases e : s = k
        · subst e; exact hb
        · exact h2 s (by omega)
      · refine .inr ⟨r, s, h1, by omega, h3, h4, fun t ht hc => ?_⟩
        by_cases e : t = k
        · subst e; omega
        · exact h5 t (by omega) hc
    · rw [if_neg hb]
      rcases bestTo_spec l budget k with ⟨h1, h2⟩ | ⟨r, s, h1, h2, h3, h4, h5⟩
      · rw [h1]
        refine .inr ⟨setCh l k, k, rfl, by omega, rfl, by omega, fun t ht hc => ?_⟩
        by_cases e : t = k
        · subst e; exact btr_irr
        · have := h2 t (by omega); omega
      · rw [h1]
        simp only
        by_cases hbt : btr l (setCh l k) r
        · rw [if_pos hbt]
          refine .inr ⟨setCh l k, k, rfl, by omega, rfl, by omega, fun t ht hc => ?_⟩
          by_cases e : t = k
          · subst e; exact btr_irr
          · exact fun h => h5 t (by omega) hc (btr_trans h hbt)
        · rw [if_neg hbt]
          refine .inr ⟨r, s, rfl, by omega, h3, h4, fun t ht hc => ?_⟩
          by_cases e : t = k
          · subst e; exact hbt
          · exact h5 t (by omega) hc
theorem costN_app (l : List Item) (a b : List Int) : costN l (a ++ b) = costN l a + costN l b := by simp [costN]
theorem costN_one (l : List Item) (x : Int) (b : List Int) : costN l (x :: b) = (itemAt l x).cost + costN l b := by simp [costN]
theorem InC {l : List Item} {lo : Nat} {r : List Int} (h : IncL lo l.length r) : InCh l r := fun x hx => by have := h.2 x hx; omega
theorem best_spec {l : List Item} (budget : Int) (h0 : 0 ≤ budget) : IncL 0 l.length (bestL l budget) ∧ costN l (bestL l budget) ≤ budget ∧ ∀ c, IncL 0 l.length c → costN l c ≤ budget → ¬ btr l c (bestL l budget) := by
  unfold bestL
  rcases bestTo_spec l budget (2 ^ l.length) with ⟨h1, h2⟩ | ⟨r, s, h1, h2, h3, h4, h5⟩
  · obtain ⟨s, hs, he⟩ := setCh_all (l := l) (c := []) ⟨.nil, fun _ h => by cases h⟩
    have := h2 s hs
    rw [he] at this
    simp [costN] at this
    omega
  · rw [h1, Option.getD_some]
    refine ⟨h3 ▸ setCh_inc l s, h4, fun c hc hb => ?_⟩
    obtain ⟨t, ht, rfl⟩ := setCh_all hc
    exact h5 t ht hb
theorem best_neg {l : List Item} (hl : ∀ x ∈ l, 0 ≤ x.cost ∧ x.cost ≤ 1000000) {budget : Int} (h0 : budget < 0) : bestL l budget = [] := by
  unfold bestL
  rcases bestTo_spec l budget (2 ^ l.length) with ⟨h1, h2⟩ | ⟨r, s, h1, h2, h3, h4, h5⟩
  · rw [h1]; rfl
  · have := (costN_bd hl (InC (setCh_inc l s))).1
    rw [← h3] at this
    omega
/-- What the search finds is what the definition says. -/
theorem best_eq {l : List Item} (hl : ∀ x ∈ l, 1 ≤ x.cost ∧ x.cost ≤ 1000000) (budget : Int) : foldV l none ([] :: visR l budget l.length []) = some (bestL l budget) := by
  have hl0 : ∀ x ∈ l, 0 ≤ x.cost ∧ x.cost ≤ 1000000 := fun x hx => by have := hl x hx; omega
  by_cases h0 : 0 ≤ budget
  rotate_left
  · have hv : visR l budget l.length [] = [] := by
      cases hV : visR l budget l.length [] with
      | nil => rfl
      | cons c V =>
        obtain ⟨r, rfl, _, hi, hb⟩ := visR_mem (Nat.le_refl _) (c := c) (by rw [hV]; exact List.mem_cons_self)
        have := (costN_bd hl0 (InC hi)).1
        omega
    rw [hv, best_neg hl0 (by omega)]
    rfl
  obtain ⟨hi, hb, hopt⟩ := best_spec (l := l) budget h0
  obtain ⟨r, hr, A, B, hAB, hA, hB⟩ := foldV_first (l := l) (V := visR l budget l.length []) (c := [])
  rw [hr]
  congr 1
  -- the best choice is visited
  have hR : bestL l budget ∈ [] :: visR l budget l.length [] := by
    have := visR_has (l := l) (budget := budget) (d := l.length) (ch := []) (r := bestL l budget) (Nat.le_refl _) (by rw [Nat.sub_self]; exact hi) fun a x b hab => by
      rw [List.nil_append]
      rw [hab] at hi hb hopt
      obtain ⟨hp, hr⟩ := hi
      have hx := hr (x : Int) (by simp)
      have hia : IncL 0 l.length a := ⟨(List.pairwise_append.1 hp).1, fun y hy => hr y (by simp [hy])⟩
      have hib : IncL 0 l.length b := ⟨(List.pairwise_cons.1 (List.pairwise_append.1 hp).2.1).2, fun y hy => hr y (by simp [hy])⟩
      have hc1 : costN l (a ++ (x : Int) :: b) = costN l (a ++ [(x : Int)]) + costN l b := by rw [costN_app, costN_app, costN_one, costN_one]; simp [costN]; omega
      have hcb := (costN_bd hl0 (InC hib)).1
      rw [addsOk, Bool.and_eq_true]
      refine ⟨?_, decide_eq_true (by omega)⟩
      rw [Bool.not_eq_true', ← Bool.not_eq_true, sameP_iff]
      intro hsame
      refine hopt (a ++ b) ⟨?_, fun y hy => hr y (by rcases List.mem_append.1 hy with h | h <;> simp [h])⟩ ?_ (.inl (.inr ⟨?_, ?_⟩))
      · rw [List.pairwise_append] at hp ⊢
        exact ⟨hp.1, (List.pairwise_cons.1 hp.2.1).2, fun p hp1 q hq => hp.2.2 p hp1 q (List.mem_cons_of_mem _ hq)⟩
      · have h1 := (hl _ (List.mem_of_getElem? (itemAt_get (l := l) (i := (x : Int)) ⟨by omega, by omega⟩))).1
        rw [costN_app]
        rw [costN_app, costN_one] at hb
        omega
      · refine cnt_congr fun n hn => ?_
        have := hsame n hn
        simp only [killedP, List.any_append, List.any_cons, List.any_nil, Bool.or_false] at this ⊢
        revert this
        generalize (a.any fun i => (itemAt l i).kills.contains (n : Int)) = p
        generalize (b.any fun i => (itemAt l i).kills.contains (n : Int)) = q
        generalize (itemAt l (x : Int)).kills.contains (n : Int) = t
        cases p <;> cases q <;> cases t <;> simp
      · have h1 := (hl _ (List.mem_of_getElem? (itemAt_get (l := l) (i := (x : Int)) ⟨by omega, by omega⟩))).1
        rw [costN_app, costN_app, costN_one]
        omega
    simpa using this
  have hrV : r ∈ [] :: visR l budget l.length [] := by rw [hAB]; simp
  have hri : IncL 0 l.length r ∧ costN l r ≤ budget := by
    rcases List.mem_cons.1 hrV with rfl | h
    · exact ⟨⟨.nil, fun _ h => by cases h⟩, by simp [costN]; exact h0⟩
    · obtain ⟨q, rfl, _, hq, hc⟩ := visR_mem (Nat.le_refl _) h
      rw [Nat.sub_self] at hq
      exact ⟨by simpa using hq, hc⟩
  have hno := hopt r hri.1 hri.2
  have hsort := visR_sorted (l := l) (budget := budget) (d := l.length) (ch := []) (Nat.le_refl _)
  rw [hAB] at hR hsort
  rcases List.mem_append.1 hR with h | h
  · exact absurd (.inl (hA _ h)) hno
  · rcases List.mem_cons.1 h with h | h
    · exact h.symm
    · have h1 := hB _ h
      have h2 : ¬ kb l r (bestL l budget) := fun h => hno (.inl h)
      have h3 : lexB r (bestL l budget) = true := (List.pairwise_cons.1 (List.pairwise_append.1 hsort).2.1).1 _ h
      exact absurd (.inr ⟨by unfold kb at h1 h2; omega, by unfold kb at h1 h2; omega, h3⟩) hno
theorem best_grows {l : List Item} {b c : Int} (hl : ∀ x ∈ l, 0 ≤ x.cost ∧ x.cost ≤ 1000000) (h : b ≤ c) (h0 : 0 ≤ c) : killedN l (bestL l b) ≤ killedN l (bestL l c) := by
  by_cases hb : 0 ≤ b
  · obtain ⟨h1, h2, _⟩ := best_spec (l := l) b hb
    obtain ⟨_, _, h3⟩ := best_spec (l := l) c h0
    have := h3 _ h1 (by omega)
    unfold btr kb at this
    omega
  · rw [best_neg hl (by omega)]
    have : killedP l [] = fun _ => false := by funext k; simp [killedP]
    have e : killedN l [] = 0 := by unfold killedN; rw [this]; decide
    rw [e]; exact Nat.zero_le _
theorem inc_len {n : Nat} {r : List Int} (h : IncL 0 n r) : r.length ≤ n := nodup_len n r (h.1.imp fun hab => by omega) fun i hi => by have := h.2 i hi; omega
end Go.Avl
namespace Go.Avl
open Go Go.Proofs.Tryd
set_option maxRecDepth 10000
set_option linter.unusedSimpArgs false

theorem before_is (na nb : Bool) (a b : List Int) (ca cb : Cp) (hl : a.length < 1000000) (hl2 : b.length < 1000000) :
    PureIs prog 59 [.sl na (a.map intC) ca, .sl nb (b.map intC) cb] (.sc (.bool (lexB a b))) := by
  refine PureIs.of (nv := 2) (hid := [4, 5, 15, 26]) func59 rfl (by kernel_rfl) (by simp [ntmps59]) fun _ => ?_
  rw [ntmps59, results59]
  refine EvC.seq (EvC.rg (by (simp only [go_sem]) <;> rfl) (by simp) ?_)
  refine EvC.seq ?_
  refine EvC.seq (EvC.rg (by (simp only [go_sem]) <;> rfl) (by simp) ?_)
  refine EvC.block ?_  -- 0
  refine EvC.loopS (σ := Nat) (fun i => ⟨[(0, .sl na (a.map intC) ca), (1, .sl nb (b.map intC) cb), (5, .sc (.int .i64 i))], [], [], 0⟩) (fun i => a.length - i) (fun i => i ≤ a.length ∧ i ≤ b.length ∧ lexB a b = lexB (a.drop i) (b.drop i)) [0, 1, 5] 0 ?_ ?_
  · exact ⟨[], 0, rfl, (by (simp only [go_sem, Int.natCast_zero]) <;> rfl), Nat.zero_le _, Nat.zero_le _, rfl⟩
  rintro i ⟨hi, hi2, hinv⟩
  refine EvC.seq ?_
  by_cases hend : i < a.length ∧ i < b.length
  rotate_left
  · -- else
    have hres : lexB a b = decide ((a.length : Int) < b.length) := by
      rw [hinv]
      rcases Nat.lt_or_ge i a.length with h | h
      · have hb : b.length = i := by omega
        rw [← hb, List.drop_length, hb, List.drop_eq_getElem_cons h]
        simp only [lexB]
        symm; exact decide_eq_false (by omega)
      · have ha : a.length = i := by omega
        rw [← ha, List.drop_length]
        rcases Nat.lt_or_ge a.length b.length with h2 | h2
        · rw [List.drop_eq_getElem_cons h2]
          simp only [lexB]
          symm; exact decide_eq_true (by omega)
        · rw [List.drop_of_length_le h2]
          simp only [lexB]
          symm; exact decide_eq_false (by omega)
    rw [hres]
    have hcond : decide ((i : Int) < a.length) = false ∨ (decide ((i : Int) < a.length) = true ∧ decide ((i : Int) < b.length) = false) := by
      by_cases h : i < a.length
      · exact .inr ⟨decide_eq_true (by omega), decide_eq_false (by omega)⟩
      · exact .inl (decide_eq_false (by omega))
    rcases hcond with h | ⟨h, h'⟩
    · apply EvC.seq
      apply EvC.trd
      · (simp only [go_sem, List.length_map, h]) <;> rfl
      · simp
      refine EvC.cond_false (by (simp only [go_sem]) <;> rfl) ?_
      refine EvC.exit ?_  -- 0
      refine EvC.seq (EvC.rg (by (simp only [go_sem, List.length_map]) <;> rfl) (by simp) ?_)
      refine EvC.ret ⟨.inl rfl, _, (by (simp only [go_sem]) <;> rfl), ?_, rfl⟩
      simp only [go_sem]
    · apply EvC.seq
      apply EvC.trd
      · (simp only [go_sem, List.length_map, h, h']) <;> rfl
      · simp
      refine EvC.cond_false (by (simp only [go_sem]) <;> rfl) ?_
      refine EvC.exit ?_  -- 0
      refine EvC.seq (EvC.rg (by (simp only [go_sem, List.length_map]) <;> rfl) (by simp) ?_)
      refine EvC.ret ⟨.inl rfl, _, (by (simp only [go_sem]) <;> rfl), ?_, rfl⟩
      simp only [go_sem]
  obtain ⟨h1, h2⟩ := hend
  have d1 : decide ((i : Int) < a.length) = true := decide_eq_true (by omega)
  have d2 : decide ((i : Int) < b.length) = true := decide_eq_true (by omega)
  apply EvC.seq
  apply EvC.trd
  · (simp only [go_sem, List.length_map, d1, d2]) <;> rfl
  · simp
  refine EvC.cond_true (by (simp only [go_sem]) <;> rfl) ?_
  have he : a[i]? = some (a[i]'h1) := List.getElem?_eq_getElem h1
  have hf : b[i]? = some (b[i]'h2) := List.getElem?_eq_getElem h2
  generalize a[i]'h1 = x at he
  generalize b[i]'h2 = y at hf
  rw [list_step he, list_step hf, lexB] at hinv
  have hin : (i : Int).toNat = i := Int.toNat_natCast i
  refine EvC.skip ?_
  refine EvC.seq ?_
  refine EvC.block ?_  -- 1
  apply EvC.seq
  apply EvC.drd mixed
  · (simp only [go_sem, he, hf, intC, hin]) <;> rfl
  · simp
  · kernel_rfl
  refine EvC.cond (by (simp only [go_sem]) <;> rfl) (fun hc => ?_) (fun hc => ?_)
  · -- then
    have hxy : ¬ x = y := by simpa using hc
    rw [if_neg hxy] at hinv
    rw [hinv]
    apply EvC.seq
    apply EvC.drd mixed
    · (simp only [go_sem, he, hf, intC, hin]) <;> rfl
    · simp
    · kernel_rfl
    refine EvC.ret ⟨.inl rfl, _, (by (simp only [go_sem]) <;> rfl), ?_, rfl⟩
    simp only [go_sem]
  have hxy : x = y := by simpa using hc
  rw [if_pos hxy] at hinv
  refine EvC.skip ?_
  refine EvC.rg (by (simp only [go_sem]) <;> rfl) (by exact inI64_of (by omega) (by omega)) ?_
  exact ⟨[], i + 1, rfl, (by (simp only [go_sem, Int.natCast_add, Int.natCast_one]) <;> rfl), ⟨h1, h2, hinv⟩, by omega⟩

theorem clone62_is (nl : Bool) (xs : List Int) (c : Cp) (hl : xs.length < 1000000) (hn : nl = true → xs = []) : PureIs prog 62 [.sl nl (xs.map intC) c] (.sl nl (xs.map intC) .unk) := by
  refine PureIs.of (nv := 1) (hid := [2, 4]) func62 rfl (by kernel_rfl) (by simp [ntmps62]) fun _ => ?_
  rw [ntmps62, results62]
  refine EvC.seq (EvC.rg (by (simp only [go_sem]) <;> rfl) (by simp) ?_)
  refine EvC.seq ?_
  refine EvC.seq (EvC.rg (by (simp only [go_sem]) <;> rfl) (by simp) ?_)
  cases nl with
  | true =>
    rw [hn rfl]
    refine EvC.cond_true (by (simp only [go_sem]) <;> rfl) ?_
    refine EvC.seq (EvC.rg (by (simp only [go_sem]) <;> rfl) (by simp) ?_)
    refine EvC.ret ⟨.inl rfl, _, (by (simp only [go_sem]) <;> rfl), ?_, rfl⟩
    simp only [go_sem]
  | false =>
    refine EvC.cond_false (by (simp only [go_sem]) <;> rfl) ?_
    refine EvC.skip ?_
    have hr1 : room xs.length 8 = true := by simp only [room_eq, decide_eq_true_eq]; omega
    have hr3 : ∀ x ∈ xs, (intC x).length = 1 := fun _ _ => rfl
    refine EvC.seq (EvC.rg (by (simp only [go_sem, List.length_map]) <;> rfl) (by simp [hr1]; try exact hr3) ?_)
    refine EvC.frz 5 (by (simp only [go_sem, List.length_map]) <;> rfl) ?_
    refine EvC.ret ⟨.inl rfl, _, (by (simp only [go_sem, List.length_map]) <;> rfl), ?_, by simp [AV.noref, norefs_ints]⟩
    simp only [go_sem, List.length_map]
theorem flat_ints (xs : List Int) : flat (xs.map intC) = true := by simp [flat, intC, isSc, List.all_eq_true]
theorem clone62_fr (nl : Bool) (xs : List Int) (c : Cp) (hl : xs.length < 1000000) (hn : nl = true → xs = []) : PureFr prog 62 [.sl nl (xs.map intC) c] (.sl nl (xs.map intC) .unk) := by
  refine PureFr.of (nv := 1) (hid := [2, 4]) func62 rfl (by kernel_rfl) (by simp [ntmps62]) fun _ => ?_
  rw [ntmps62, results62]
  refine EvC.seq (EvC.rg (by (simp only [go_sem]) <;> rfl) (by simp) ?_)
  refine EvC.seq ?_
  refine EvC.seq (EvC.rg (by (simp only [go_sem]) <;> rfl) (by simp) ?_)
  cases nl with
  | true =>
    rw [hn rfl]
    refine EvC.cond_true (by (simp only [go_sem]) <;> rfl) ?_
    refine EvC.seq (EvC.rg (by (simp only [go_sem]) <;> rfl) (by simp) ?_)
    refine EvC.ret ⟨.inl rfl, _, _, (by (simp only [go_sem]) <;> rfl), (by (simp only [go_sem, freshAll, freshOne, flat, List.all_nil]) <;> rfl), ?_⟩
    rfl
  | false =>
    refine EvC.cond_false (by (simp only [go_sem]) <;> rfl) ?_
    refine EvC.skip ?_
    have hr1 : room xs.length 8 = true := by simp only [room_eq, decide_eq_true_eq]; omega
    have hr3 : ∀ x ∈ xs, (intC x).length = 1 := fun _ _ => rfl
    refine EvC.seq (EvC.rg (by (simp only [go_sem, List.length_map]) <;> rfl) (by simp [hr1]; try exact hr3) ?_)
    refine EvC.ret ⟨.inl rfl, _, _, (by (simp only [go_sem]) <;> rfl), (by (simp only [go_sem, freshAll, freshOne, flat_ints, List.length_map]) <;> rfl), ?_⟩
    rfl
theorem clip47_is (nl : Bool) (xs : List Int) (c : Cp) : PureIs prog 47 [.sl nl (xs.map intC) c] (.sl nl (xs.map intC) .full) := by
  have hr3 : ∀ x ∈ xs, (intC x).length = 1 := fun _ _ => rfl
  refine PureIs.of (nv := 1) (hid := [2]) func47 rfl (by kernel_rfl) (by simp [ntmps47]) fun _ => ?_
  rw [ntmps47, results47]
  refine EvC.seq (EvC.rg (by (simp only [go_sem]) <;> rfl) (by simp) ?_)
  refine EvC.seq (EvC.rg (by (simp only [go_sem, List.length_map, Int.toNat_natCast, List.drop_zero]) <;> rfl) (by simp; try exact hr3) ?_)
  refine EvC.ret ⟨.inl rfl, _, (by (simp only [go_sem]) <;> rfl), ?_, by simp [AV.noref, norefs_ints]⟩
  simp only [go_sem]
  rw [List.take_of_length_le (by simp)]
end Go.Avl
namespace Go.Avl
open Go Go.Proofs.Tryd
set_option maxRecDepth 10000
set_option linter.unusedSimpArgs false

theorem val1_inj : ∀ {a b : List Nat}, a.length = b.length → (∀ d ∈ a, d ≤ 1) → (∀ d ∈ b, d ≤ 1) → val 1 a = val 1 b → a = b
  | [], [], _, _, _, _ => rfl
  | x :: a, y :: b, h, ha, hb, he => by
    simp only [val] at he
    have h1 := ha x List.mem_cons_self
    have h2 := hb y List.mem_cons_self
    have hxy : x = y := by omega
    have hv : val 1 a = val 1 b := by omega
    rw [hxy, val1_inj (by simpa using h) (fun d hd => ha d (List.mem_cons_of_mem _ hd)) (fun d hd => hb d (List.mem_cons_of_mem _ hd)) hv]
  | [], _ :: _, h, _, _, _ => by simp at h
  | _ :: _, [], h, _, _, _ => by simp at h
theorem wrd_inj {P Q : Nat → Bool} : wrd P = wrd Q ↔ ∀ b, b < 64 → P b = Q b := by
  unfold wrd dval
  constructor
  · intro h b hb
    have hm := val1_inj (by simp) (fun d hd => by obtain ⟨i, _, rfl⟩ := List.mem_map.1 hd; exact bD_le P i) (fun d hd => by obtain ⟨i, _, rfl⟩ := List.mem_map.1 hd; exact bD_le Q i) h
    have := List.map_inj_left.1 hm b (List.mem_range.2 hb)
    unfold bD at this
    generalize P b = p at *
    generalize Q b = q at *
    cases p <;> cases q <;> simp_all
  · intro h
    congr 1
    refine List.map_congr_left fun b hb => ?_
    unfold bD
    rw [h b (List.mem_range.1 hb)]
theorem setW_eq4 {P Q : Nat → Bool} : (decide (((setW P 0 : Nat) : Int) = (setW Q 0 : Nat)) && (decide (((setW P 1 : Nat) : Int) = (setW Q 1 : Nat)) && (decide (((setW P 2 : Nat) : Int) = (setW Q 2 : Nat)) && decide (((setW P 3 : Nat) : Int) = (setW Q 3 : Nat))))) = sameP P Q := by
  rw [Bool.eq_iff_iff]
  simp only [Bool.and_eq_true, decide_eq_true_eq, Int.natCast_inj, sameP_iff]
  unfold setW
  rw [wrd_inj, wrd_inj, wrd_inj, wrd_inj]
  constructor
  · rintro ⟨h0, h1, h2, h3⟩ n hn
    by_cases a0 : n < 64
    · have := h0 n a0; simpa using this
    by_cases a1 : n < 128
    · have := h1 (n - 64) (by omega); rwa [show 64 * 1 + (n - 64) = n by omega] at this
    by_cases a2 : n < 192
    · have := h2 (n - 128) (by omega); rwa [show 64 * 2 + (n - 128) = n by omega] at this
    · have := h3 (n - 192) (by omega); rwa [show 64 * 3 + (n - 192) = n by omega] at this
  · intro h
    exact ⟨fun b hb => h _ (by omega), fun b hb => h _ (by omega), fun b hb => h _ (by omega), fun b hb => h _ (by omega)⟩

/-! ### The search -/
def setI (x : Item) : List AV := setC (inL x.kills)
@[go_sem] theorem norefs_setI (l : List Item) : (l.map setI).all AV.norefs = true := by
  simp only [List.all_eq_true]
  intro c hc
  obtain ⟨x, _, rfl⟩ := List.mem_map.1 hc
  rfl
/-- What the search knows: its choice, the best one, what this kills and costs, and whether there is one. -/
def sObj (ln : Bool) (l : List Item) (lc : Cp) (sn : Bool) (budget : Int) (v bc : AV) (P : Nat → Bool) (cost : Int) (f : Bool) : RObj :=
  .cells [.sl ln (l.map itemC) lc, .sl sn (l.map setI) .unk, .sc (.int .i64 budget), v, bc, .sc (.int .u64 (setW P 0 : Nat)), .sc (.int .u64 (setW P 1 : Nat)), .sc (.int .u64 (setW P 2 : Nat)), .sc (.int .u64 (setW P 3 : Nat)), .sc (.int .i64 cost), .sc (.bool f)]
def sBest : Option (List Int) → AV
  | none => .sl true [] .zer
  | some b => .sl b.isEmpty (b.map intC) .unk
def sList (s : Option (List Int)) : List Int := s.getD []
/-- How the choice so far lies in its object. -/
def ChOk (l : List Item) (v : AV) (E : List Int) (ch : List Int) : Prop :=
  (ch = [] ∧ E = [] ∧ v = .tl 1 0 true) ∨ (v = .tv 1 E.length 0 ch.length .rest ∧ E.take ch.length = ch ∧ E ≠ [] ∧ ch.length ≤ E.length ∧ E.length ≤ l.length)
set_option maxHeartbeats 4000000 in
theorem try_body (ln : Bool) (l : List Item) (lc : Cp) (sn : Bool) (budget : Int) (hl : ∀ x ∈ l, (1 ≤ x.cost ∧ x.cost ≤ 1000000) ∧ x.kills.length < 1000000) (hn : l.length ≤ 16) (hb : budget ≤ 9223372036854775807) :
    ∀ (d : Nat) (ch : List Int) (s : Option (List Int)) (v : AV) (E : List Int) {R : AV → Mem → Nat → Prop}, d ≤ l.length → IncL 0 (l.length - d) ch → ChOk l v E ch → (ch = [] → E = []) → IncL 0 l.length (sList s) →
      (∀ b v' E', foldV l s (ch :: visR l budget d ch) = some b → ChOk l v' E' ch → R (mkRes []) [(0, sObj ln l lc sn budget v' (.sl b.isEmpty (b.map intC) .unk) (killedP l b) (costN l b) true), (1, .arr 1 (E'.map intC) false)] 2) →
      BodyIs prog 46 [.rf 0 0, .sc (.int .i64 ((l.length - d : Nat) : Int)), .ag (setC (killedP l ch)), .sc (.int .i64 (costN l ch))] [(0, sObj ln l lc sn budget v (sBest s) (killedP l (sList s)) (costN l (sList s)) s.isSome), (1, .arr 1 (E.map intC) false)] 2 R := by
  intro d
  induction d using Nat.strongRecOn with
  | _ d ih =>
  intro ch s v E R hd hch hv hpre hs hR
  refine BodyIs.of (nv := 4) (hid := [6, 8, 9, 10, 39, 66, 97, 108, 110, 111, 121]) func46 rfl (by kernel_rfl) (by simp [ntmps46]) fun h0 => ?_
  rw [ntmps46, results46]
  have hlc : ∀ x ∈ l, 0 ≤ x.cost ∧ x.cost ≤ 1000000 := fun x hx => by have := (hl x hx).1; omega
  have hcl := inc_len hch
  have n1 := count_is (killedP l ch)
  have n2 := count_is (killedP l (sList s))
  have kb1 := cnt_le (killedP l ch) 256
  have kb2 := cnt_le (killedP l (sList s)) 256
  have hchI : InCh l ch := fun x hx => by have := hch.2 x hx; omega
  have cb1 := costN_bd hlc hchI
  unfold sObj
  unfold setC at n1 n2
  refine EvC.seq (EvC.rg (by (simp only [go_sem, setC]) <;> rfl) (by simp) ?_)
  refine EvC.frzB 2 (by (simp only [go_sem]) <;> rfl) ?_
  obtain ⟨A, hA⟩ : ∃ A : Int, A = ((cnt (killedP l ch) 256 : Nat) : Int) := ⟨_, rfl⟩
  obtain ⟨B, hB⟩ : ∃ A : Int, A = ((cnt (killedP l (sList s)) 256 : Nat) : Int) := ⟨_, rfl⟩
  rw [← hA] at n1
  rw [← hB] at n2
  refine EvC.mergeS (α := List Int) (fun p => ⟨[(0, .rf 0 0), (1, .sc (.int .i64 ((l.length - d : Nat) : Int))), (3, .sc (.int .i64 (costN l ch))), (6, .ia (setC (killedP l ch)))], [], [(0, sObj ln l lc sn budget v (.sl p.isEmpty (p.map intC) .unk) (killedP l p) (costN l p) true), (1, .arr 1 (E.map intC) false)], 2⟩)
    (fun p => p = visitB l s ch) [0, 1, 3, 6] 2 ?_ ?_
  · -- the visit
    have kbA : ∀ b : List Int, sList s = b → (kb l ch b ↔ (0 < A - B ∨ (A - B = 0 ∧ costN l ch < costN l b))) := fun b hbb => by
      subst hbb
      unfold kb killedN
      omega
    cases s with
    | none =>
      simp only [sList, Option.map_none, Option.getD_none, Option.isSome_none] at *
      have hvis : visitB l none ch = ch := rfl
      apply EvC.seq
      apply EvC.drw mixed
      · apply Tr.run
        · (simp only [go_sem]) <;> rfl
        · simp
        apply Tr.cons
        · exact .call rfl rfl (by (simp only [go_sem]) <;> rfl) (by (simp only [go_sem]) <;> rfl) (by (simp only [go_sem]) <;> rfl) (by (simp only [go_sem]) <;> rfl) (by (simp only [go_sem]) <;> rfl) (n1)
        apply Tr.run
        · (simp only [go_sem]) <;> rfl
        · simp
        apply Tr.cons
        · exact .call rfl rfl (by (simp only [go_sem]) <;> rfl) (by (simp only [go_sem]) <;> rfl) (by (simp only [go_sem]) <;> rfl) (by (simp only [go_sem]) <;> rfl) (by (simp only [go_sem]) <;> rfl) (n2)
        apply Tr.done
        · (simp only [go_sem]) <;> rfl
        · exact inI64_of (by omega) (by omega)
      · kernel_rfl
      apply EvC.seq
      apply EvC.trd
      · (simp only [go_sem]) <;> rfl
      · simp
      refine EvC.cond_true (by (simp only [go_sem]) <;> rfl) ?_
      rcases hv with ⟨rfl, rfl, rfl⟩ | ⟨rfl, hE, hE0, hE1, hE2⟩
      · apply EvC.drw mixed  -- R3
        · apply Tr.run
          · (simp only [go_sem]) <;> rfl
          · simp
          apply Tr.cons
          · exact .callD (xs := [.sl true (([] : List Int).map intC) .unk]) 2 rfl rfl (by (simp only [go_sem]) <;> rfl) (by (simp only [go_sem]) <;> rfl) (by (simp only [go_sem]) <;> rfl) (by (simp only [go_sem]) <;> rfl) (by (simp only [go_sem]) <;> rfl) (clone62_fr true [] .unk (by simp) (fun _ => rfl))
          apply Tr.done
          · (simp only [go_sem]) <;> rfl
          · simp
        · kernel_rfl
        exact ⟨rfl, [(0, 0), (1, 1)], [], rfl, (by (simp only [go_sem]) <;> rfl), rfl⟩
      · have hEt : (if ch.length = (E.map intC).length then E.map intC else List.take ch.length (E.map intC)) = ch.map intC := by
          split
          · rename_i h
            rw [List.length_map] at h
            rw [← hE, List.take_of_length_le (by omega)]
          · rw [← List.map_take, hE]
        have hElen : (E.map intC).length = E.length := List.length_map _
        rw [hElen] at hEt
        apply EvC.drw mixed  -- R3
        · apply Tr.run
          · (simp only [go_sem]) <;> rfl
          · simp
          apply Tr.cons
          · exact .callD (xs := [.sl false (ch.map intC) .unk]) 2 rfl rfl (by (simp only [go_sem]) <;> rfl) (by (simp only [go_sem]) <;> rfl) (by (simp only [go_sem, hElen, hEt]) <;> rfl) (by (simp only [go_sem, hElen, hEt]) <;> rfl) (by (simp only [go_sem]) <;> rfl) (clone62_fr false ch .unk (by omega) (fun h => by cases h))
          apply Tr.done
          · (simp only [go_sem]) <;> rfl
          · simp
        · kernel_rfl
        have hce : ch.isEmpty = false := by cases ch with | nil => exact absurd (hpre rfl) hE0 | cons => rfl
        exact ⟨rfl, [(0, 0), (1, 1)], ch, rfl, (by (simp only [go_sem, hce]) <;> rfl), rfl⟩
    | some b0 =>
      simp only [sList, Option.map_some, Option.getD_some, Option.isSome_some, sBest] at *
      have hvis : visitB l (some b0) ch = if kb l ch b0 then ch else b0 := rfl
      have kbA := kbA b0 rfl
      apply EvC.seq
      apply EvC.drw mixed
      · apply Tr.run
        · (simp only [go_sem]) <;> rfl
        · simp
        apply Tr.cons
        · exact .call rfl rfl (by (simp only [go_sem]) <;> rfl) (by (simp only [go_sem]) <;> rfl) (by (simp only [go_sem]) <;> rfl) (by (simp only [go_sem]) <;> rfl) (by (simp only [go_sem]) <;> rfl) (n1)
        apply Tr.run
        · (simp only [go_sem]) <;> rfl
        · simp
        apply Tr.cons
        · exact .call rfl rfl (by (simp only [go_sem]) <;> rfl) (by (simp only [go_sem]) <;> rfl) (by (simp only [go_sem]) <;> rfl) (by (simp only [go_sem]) <;> rfl) (by (simp only [go_sem]) <;> rfl) (n2)
        apply Tr.done
        · (simp only [go_sem]) <;> rfl
        · exact inI64_of (by omega) (by omega)
      · kernel_rfl
      apply EvC.seq
      apply EvC.trd
      · (simp only [go_sem]) <;> rfl
      · simp
      refine EvC.cond (by (simp only [go_sem]) <;> rfl) (fun hc => ?_) (fun hc => ?_)
      · have hyes : kb l ch b0 := kbA.2 (by simpa using hc)
        have hvis2 : ch = visitB l (some b0) ch := by rw [hvis, if_pos hyes]
        rcases hv with ⟨rfl, rfl, rfl⟩ | ⟨rfl, hE, hE0, hE1, hE2⟩
        · apply EvC.drw mixed  -- R3
          · apply Tr.run
            · (simp only [go_sem]) <;> rfl
            · simp
            apply Tr.cons
            · exact .callD (xs := [.sl true (([] : List Int).map intC) .unk]) 2 rfl rfl (by (simp only [go_sem]) <;> rfl) (by (simp only [go_sem]) <;> rfl) (by (simp only [go_sem]) <;> rfl) (by (simp only [go_sem]) <;> rfl) (by (simp only [go_sem]) <;> rfl) (clone62_fr true [] .unk (by simp) (fun _ => rfl))
            apply Tr.done
            · (simp only [go_sem]) <;> rfl
            · simp
          · kernel_rfl
          exact ⟨rfl, [(0, 0), (1, 1)], [], rfl, (by (simp only [go_sem]) <;> rfl), hvis2⟩
        · have hEt : (if ch.length = (E.map intC).length then E.map intC else List.take ch.length (E.map intC)) = ch.map intC := by
            split
            · rename_i h
              rw [List.length_map] at h
              rw [← hE, List.take_of_length_le (by omega)]
            · rw [← List.map_take, hE]
          have hElen : (E.map intC).length = E.length := List.length_map _
          rw [hElen] at hEt
          apply EvC.drw mixed  -- R3
          · apply Tr.run
            · (simp only [go_sem]) <;> rfl
            · simp
            apply Tr.cons
            · exact .callD (xs := [.sl false (ch.map intC) .unk]) 2 rfl rfl (by (simp only [go_sem]) <;> rfl) (by (simp only [go_sem]) <;> rfl) (by (simp only [go_sem, hElen, hEt]) <;> rfl) (by (simp only [go_sem, hElen, hEt]) <;> rfl) (by (simp only [go_sem]) <;> rfl) (clone62_fr false ch .unk (by omega) (fun h => by cases h))
            apply Tr.done
            · (simp only [go_sem]) <;> rfl
            · simp
          · kernel_rfl
          have hce : ch.isEmpty = false := by cases ch with | nil => exact absurd (hpre rfl) hE0 | cons => rfl
          exact ⟨rfl, [(0, 0), (1, 1)], ch, rfl, (by (simp only [go_sem, hce]) <;> rfl), hvis2⟩
      · have hno : ¬ kb l ch b0 := fun h => by
          have h := kbA.1 h
          simp at hc
          omega
        rcases hv with ⟨rfl, rfl, rfl⟩ | ⟨rfl, hE, hE0, hE1, hE2⟩
        · exact EvC.skip ⟨rfl, [(0, 0), (1, 1)], b0, rfl, (by (simp only [go_sem]) <;> rfl), by rw [hvis, if_neg hno]⟩
        · exact EvC.skip ⟨rfl, [(0, 0), (1, 1)], b0, rfl, (by (simp only [go_sem]) <;> rfl), by rw [hvis, if_neg hno]⟩
  intro b hbv
  simp only at hbv ⊢
  have hbi : IncL 0 l.length b := by
    have hch0 : IncL 0 l.length ch := ⟨hch.1, fun x hx => by have := hch.2 x hx; omega⟩
    rw [hbv]
    cases s with
    | none => exact hch0
    | some q =>
      show IncL 0 l.length (if kb l ch q then ch else q)
      split
      · exact hch0
      · exact hs
  have hfold : foldV l s (ch :: visR l budget d ch) = foldV l (some b) (visR l budget d ch) := by rw [hbv]; rfl
  clear n1 n2 kb1 kb2 hA hB hbv hs
  refine EvC.seq (EvC.rg (by (simp only [go_sem]) <;> rfl) (by simp) ?_)
  refine EvC.block ?_  -- 0
  refine EvC.loopS (σ := Nat × AV × List Int × List Int) (fun p => ⟨[(0, .rf 0 0), (3, .sc (.int .i64 (costN l ch))), (6, .ia (setC (killedP l ch))), (9, .sc (.int .i64 ((l.length - p.1 : Nat) : Int)))], [], [(0, sObj ln l lc sn budget p.2.1 (.sl p.2.2.2.isEmpty (p.2.2.2.map intC) .unk) (killedP l p.2.2.2) (costN l p.2.2.2) true), (1, .arr 1 (p.2.2.1.map intC) false)], 2⟩)
    (fun p => p.1) (fun p => p.1 ≤ d ∧ ChOk l p.2.1 p.2.2.1 ch ∧ IncL 0 l.length p.2.2.2 ∧ foldV l s (ch :: visR l budget d ch) = foldV l (some p.2.2.2) (visR l budget p.1 ch)) [0, 3, 6, 9] 2 ?_ ?_
  · rcases hv with ⟨rfl, rfl, rfl⟩ | ⟨rfl, hE, hE0, hE1, hE2⟩
    · exact ⟨[(0, 0), (1, 1)], (d, .tl 1 0 true, [], b), rfl, (by (simp only [go_sem, sObj]) <;> rfl), Nat.le_refl _, .inl ⟨rfl, rfl, rfl⟩, hbi, hfold⟩
    · exact ⟨[(0, 0), (1, 1)], (d, .tv 1 E.length 0 ch.length .rest, E, b), rfl, (by (simp only [go_sem, sObj]) <;> rfl), Nat.le_refl _, .inr ⟨rfl, hE, hE0, hE1, hE2⟩, hbi, hfold⟩
  clear hv hbi hfold
  rintro ⟨d1, v, E, b⟩ ⟨hd1, hv, hbi, hinv⟩
  simp only at hd1 hv hbi hinv ⊢
  refine EvC.seq ?_
  refine EvC.seq (EvC.rg (by (simp only [go_sem, sObj, List.length_map]) <;> rfl) (by simp) ?_)
  refine EvC.cond (by (simp only [go_sem]) <;> rfl) (fun hc => ?_) (fun hc => ?_)
  rotate_left
  · -- else
    have hd0 : d1 = 0 := by have : ¬ ((l.length - d1 : Nat) : Int) < l.length := by simpa using hc
                            omega
    subst hd0
    have hres : foldV l s (ch :: visR l budget d ch) = some b := by rw [hinv]; rfl
    rcases hv with ⟨rfl, rfl, rfl⟩ | ⟨rfl, hE, hE0, hE1, hE2⟩
    · refine EvC.gc [] [(0, 0), (1, 1)] 2 rfl ?_
      refine EvC.exit ?_  -- 0
      refine ⟨.inr rfl, _, rfl, ?_⟩
      exact hR b (.tl 1 0 true) [] hres (.inl ⟨rfl, rfl, rfl⟩)
    · refine EvC.gc [] [(0, 0), (1, 1)] 2 rfl ?_
      refine EvC.exit ?_  -- 0
      refine ⟨.inr rfl, _, rfl, ?_⟩
      simp only [go_sem]
      exact hR b _ E hres (.inr ⟨rfl, hE, hE0, hE1, hE2⟩)
  have hdl : d1 ≠ 0 := by have : ((l.length - d1 : Nat) : Int) < l.length := by simpa using hc
                          omega
  clear hc
  obtain ⟨d2, rfl⟩ : ∃ k, d1 = k + 1 := ⟨d1 - 1, by omega⟩
  obtain ⟨i, hi⟩ : ∃ i : Nat, i = l.length - (d2 + 1) := ⟨_, rfl⟩
  rw [← hi]
  have hil : i < l.length := by omega
  have hin : (i : Int).toNat = i := Int.toNat_natCast i
  have hi1 : (i : Int) + 1 = ((l.length - d2 : Nat) : Int) := by omega
  have hx : l[i]? = some (itemAt l (i : Int)) := itemAt_get (i := (i : Int)) ⟨by omega, by omega⟩
  have hxm := hl _ (List.mem_of_getElem? hx)
  have hsx : (l.map setI)[i]? = some (setC (inL (itemAt l (i : Int)).kills)) := by rw [List.getElem?_map, hx]; rfl
  have w := with_is (killedP l ch) (inL (itemAt l (i : Int)).kills)
  have hkp := killedP_snoc l ch (i : Int)
  rw [← hkp] at w
  have hcs := costN_snoc l ch (i : Int)
  have hok : addsOk l budget ch i = (!sameP (killedP l (ch ++ [(i : Int)])) (killedP l ch) && decide (costN l (ch ++ [(i : Int)]) ≤ budget)) := rfl
  have hvis : visR l budget (d2 + 1) ch = (if addsOk l budget ch i = true then (ch ++ [(i : Int)]) :: visR l budget d2 (ch ++ [(i : Int)]) else []) ++ visR l budget d2 ch := by rw [hi]; rfl
  have hinc1 : IncL 0 (l.length - d2) (ch ++ [(i : Int)]) := by
    refine ⟨List.pairwise_append.2 ⟨hch.1, by simp, fun a ha b hb => ?_⟩, fun x hx => ?_⟩
    · simp at hb; subst hb; have := hch.2 a ha; omega
    · rcases List.mem_append.1 hx with hx | hx
      · have := hch.2 x hx; omega
      · simp at hx; subst hx; omega
  have hlen1 := inc_len hinc1
  have hInC1 : InCh l (ch ++ [(i : Int)]) := fun x hx => by have := hinc1.2 x hx; omega
  have cb2 := costN_bd hlc hInC1
  rw [List.length_append, List.length_singleton] at hlen1 cb2
  generalize hC1 : costN l (ch ++ [(i : Int)]) = C1 at *
  generalize hP1 : killedP l (ch ++ [(i : Int)]) = P1 at *
  generalize itemAt l (i : Int) = x at *
  refine EvC.skip ?_
  refine EvC.seq ?_
  refine EvC.block ?_  -- 1
  apply EvC.seq  -- R7
  apply EvC.drw mixed
  · apply Tr.run
    · (simp only [go_sem, hsx, hin, List.length_map, setC_take]) <;> rfl
    · simp [setC_len]; try omega
    apply Tr.cons
    · exact .call rfl rfl (by (simp only [go_sem]) <;> rfl) (by (simp only [go_sem]) <;> rfl) (by (simp only [go_sem]) <;> rfl) (by (simp only [go_sem]) <;> rfl) (by (simp only [go_sem]) <;> rfl) w
    apply Tr.done
    · (simp only [go_sem, setC_len]) <;> rfl
    · simp [setC_len]
      try exact setC_acell _ _
  · kernel_rfl
  refine EvC.frzB 18 (by (simp only [go_sem, setC_len]) <;> rfl) ?_
  refine EvC.seq ?_
  have hdr : ∀ P : Nat → Bool, List.drop 4 (setC P) = [] := fun _ => rfl
  have hcx : costN l ch + x.cost = C1 := hcs.symm
  apply EvC.seq
  apply EvC.drd mixed
  · (simp only [go_sem, setC, setW_eq4, hx, itemC, hin, List.length_map, hcx]) <;> rfl
  · simp [inI64_of (x := C1) (by omega) (by omega)]; try omega
  · kernel_rfl
  refine EvC.cond (by (simp only [go_sem]) <;> rfl) (fun hc => ?_) (fun hc => ?_)
  · -- skipped
    have hno : addsOk l budget ch i = false := by
      rw [hok]
      generalize sameP P1 (killedP l ch) = q at *
      cases q with
      | true => rfl
      | false =>
        have : budget < C1 := by simpa using hc
        simp; omega
    rw [hno] at hvis
    have hvis : visR l budget (d2 + 1) ch = visR l budget d2 ch := hvis
    rw [hvis] at hinv
    refine EvC.exit ?_  -- 1
    refine EvC.rg (by (simp only [go_sem]) <;> rfl) (by exact inI64_of (by omega) (by omega)) ?_
    rcases hv with ⟨rfl, rfl, rfl⟩ | ⟨rfl, hE, hE0, hE1, hE2⟩
    · exact ⟨[(0, 0), (1, 1)], (d2, .tl 1 0 true, [], b), rfl, (by (simp only [go_sem, sObj, hi1]) <;> rfl), ⟨by omega, .inl ⟨rfl, rfl, rfl⟩, hbi, hinv⟩, by simp⟩
    · exact ⟨[(0, 0), (1, 1)], (d2, .tv 1 E.length 0 ch.length .rest, E, b), rfl, (by (simp only [go_sem, sObj, hi1]) <;> rfl), ⟨by omega, .inr ⟨rfl, hE, hE0, hE1, hE2⟩, hbi, hinv⟩, by simp⟩
  have hyes : addsOk l budget ch i = true := by
    rw [hok]
    generalize sameP P1 (killedP l ch) = q at *
    cases q with
    | true => simp at hc
    | false =>
      have : ¬ budget < C1 := by simpa using hc
      simp; omega
  rw [if_pos hyes] at hvis
  clear hc
  refine EvC.skip ?_
  refine EvC.mergeC (α := List Int) (fun E' => ⟨[(0, .rf 0 0), (3, .sc (.int .i64 (costN l ch))), (6, .ia (setC (killedP l ch))), (9, .sc (.int .i64 i)), (10, .ia (setC P1))], [], [(0, sObj ln l lc sn budget (.tv 1 E'.length 0 (ch.length + 1) .rest) (.sl b.isEmpty (b.map intC) .unk) (killedP l b) (costN l b) true), (1, .arr 1 (E'.map intC) false)], 2⟩)
    (fun E' => E'.take (ch.length + 1) = ch ++ [(i : Int)] ∧ E' ≠ [] ∧ ch.length + 1 ≤ E'.length ∧ E'.length ≤ l.length) ?_ ?_
  · -- the choice grows
    rcases hv with ⟨rfl, rfl, rfl⟩ | ⟨rfl, hE, hE0, hE1, hE2⟩
    · have hr2 : room 1 8 = true := by simp only [room_eq]; decide
      refine EvC.rg (by (simp only [go_sem]) <;> rfl) (by simp [hr2]) ?_
      refine ⟨rfl, [(i : Int)], ⟨rfl, by simp, by simp, by simp; omega⟩, fun c Q h => ?_⟩
      refine EvC.toTv 1 ?_
      refine EvC.gcE [0, 3, 6, 9, 10] [(0, 0), (1, 1)] 2 rfl (by (simp only [go_sem]) <;> rfl) h
    · have hElen : (E.map intC).length = E.length := List.length_map _
      by_cases hfull : ch.length = E.length
      · have hEc : E = ch := by rw [← hE, List.take_of_length_le (by omega)]
        have hr2 : room (E.length + 1) 8 = true := by simp only [room_eq, decide_eq_true_eq]; omega
        have hne : E.length ≠ 0 := by simpa using hE0
        obtain ⟨E1, hE1d⟩ : ∃ E1, E1 = E ++ [(i : Int)] := ⟨_, rfl⟩
        have hsn : E.map intC ++ [[.sc (.int .i64 (i : Int))]] = E1.map intC := by rw [hE1d]; simp [intC]
        have hl2 : E1.length = E.length + 1 := by rw [hE1d]; simp
        have ht2 : E1.take (ch.length + 1) = ch ++ [(i : Int)] := by rw [hE1d, hEc, List.take_of_length_le (by simp)]
        refine EvC.rg (by (simp only [go_sem, hfull, hElen, hsn]) <;> rfl) (by simp [hr2]; try omega) ?_
        exact ⟨rfl, E1, ⟨ht2, fun h => by rw [h] at hl2; simp at hl2, by omega, by omega⟩, fun c Q h => EvC.gcE [0, 3, 6, 9, 10] [(0, 0), (1, 1)] 2 rfl (by (simp only [go_sem, hfull, hl2]) <;> rfl) h⟩
      · obtain ⟨E1, hE1d⟩ : ∃ E1, E1 = E.take ch.length ++ (i : Int) :: E.drop (ch.length + 1) := ⟨_, rfl⟩
        have hsn : List.take ch.length (E.map intC) ++ [.sc (.int .i64 (i : Int))] :: List.drop (ch.length + 1) (E.map intC) = E1.map intC := by rw [hE1d]; simp [intC, List.map_take, List.map_drop]
        have hl2 : E1.length = E.length := by rw [hE1d]; simp; omega
        have ht2 : E1.take (ch.length + 1) = ch ++ [(i : Int)] := by
          rw [hE1d, hE, List.take_append]
          simp [List.take_of_length_le]
        refine EvC.rg (by (simp only [go_sem, hfull, hElen, hsn]) <;> rfl) (by simp; try omega) ?_
        exact ⟨rfl, E1, ⟨ht2, fun h => by rw [h] at hl2; exact hE0 (List.length_eq_zero_iff.1 hl2.symm), by omega, by omega⟩, fun c Q h => EvC.gcE [0, 3, 6, 9, 10] [(0, 0), (1, 1)] 2 rfl (by (simp only [go_sem, hl2]) <;> rfl) h⟩
  rintro E' ⟨hE, hE0, hE1, hE2⟩
  apply EvC.seq  -- R10
  apply EvC.drl mixed
  · apply TrTo.run
    · (simp only [go_sem, sObj, setC_take, hx, itemC, hin, List.length_map, hcx]) <;> rfl
    · simp [setC_len, inI64_of (x := C1) (by omega) (by omega), inI64_of (x := (i : Int) + 1) (by omega) (by omega)]; try omega
    exact TrTo.here
  · kernel_rfl
  · kernel_rfl
  · kernel_rfl
  have hlast : (ch ++ [(i : Int)]).length = ch.length + 1 := by simp
  refine XR.gcTo ⟨[(0, .rf 0 0), (3, .sc (.int .i64 (costN l ch))), (6, .ia (setC (killedP l ch))), (9, .sc (.int .i64 i)), (108, .rf 0 0), (110, .sc (.int .i64 ((l.length - d2 : Nat) : Int))), (111, .ag (setC P1)), (121, .sc (.int .i64 C1))], [], [(0, sObj ln l lc sn budget (.tv 1 E'.length 0 (ch.length + 1) .rest) (.sl b.isEmpty (b.map intC) .unk) (killedP l b) (costN l b) true), (1, .arr 1 (E'.map intC) false)], 2⟩ [0, 3, 6, 9, 108, 110, 111, 121] [(0, 0), (1, 1)] rfl (by (simp only [go_sem, hi1, sObj]) <;> rfl) ?_
  apply XR.callI rfl rfl (by (simp only [go_sem]) <;> rfl) (by (simp only [go_sem]) <;> rfl) (by (simp only [go_sem]) <;> rfl)
  subst hP1
  subst hC1
  refine ih d2 (by omega) (ch ++ [(i : Int)]) (some b) (.tv 1 E'.length 0 (ch.length + 1) .rest) E' (by omega) hinc1 (.inr ⟨by rw [hlast], by rw [hlast]; exact hE, hE0, by rw [hlast]; exact hE1, hE2⟩) (fun h => by simp at h) hbi ?_
  intro b' v' E2 hf hv'
  rcases hv' with ⟨h, _⟩ | ⟨rfl, hF, hF0, hF1, hF2⟩
  · simp at h
  rw [hlast] at hF hF1
  rw [hlast]
  refine XR.nil ?_
  have hE2len : (E2.map intC).length = E2.length := List.length_map _
  have hE2ne : E2.length ≠ 0 := by simpa using hF0
  have hcl1 : ((ch.length : Int) + 1 - 1).toNat = ch.length := by omega
  have hcl2 : (List.take (ch.length + 1) (E2.map intC)).length = ch.length + 1 := by simp; omega
  have hcc : (if ch.length + 1 = E2.length then E2.map intC else List.take (ch.length + 1) (E2.map intC)) = (ch ++ [(i : Int)]).map intC := by
    split
    · rename_i h
      rw [← hF, List.take_of_length_le (by omega)]
    · rw [← List.map_take, hF]
  have hnext : foldV l s (ch :: visR l budget d ch) = foldV l (some b') (visR l budget d2 ch) := by
    rw [hinv, hvis]
    have e : foldV l (some b) ((ch ++ [(i : Int)]) :: visR l budget d2 (ch ++ [(i : Int)]) ++ visR l budget d2 ch) = foldV l (foldV l (some b) ((ch ++ [(i : Int)]) :: visR l budget d2 (ch ++ [(i : Int)]))) (visR l budget d2 ch) := List.foldl_append
    rw [e]
    exact congrArg (fun z => foldV l z (visR l budget d2 ch)) hf
  have hbi' : IncL 0 l.length b' := by
    have hch0 : IncL 0 l.length (ch ++ [(i : Int)]) := ⟨hinc1.1, fun x hx => by have := hinc1.2 x hx; omega⟩
    obtain ⟨r, hr, hrr⟩ := foldV_spec (l := l) (V := (ch ++ [(i : Int)]) :: visR l budget d2 (ch ++ [(i : Int)])) (b := b)
    have hf2 : foldV l (some b) ((ch ++ [(i : Int)]) :: visR l budget d2 (ch ++ [(i : Int)])) = some b' := hf
    rw [hr] at hf2
    obtain rfl : r = b' := Option.some.inj hf2
    rcases hrr with ⟨hrb, _⟩ | ⟨A, B, hAB, _⟩
    · rw [hrb]; exact hbi
    · have hm : r ∈ (ch ++ [(i : Int)]) :: visR l budget d2 (ch ++ [(i : Int)]) := by rw [hAB]; simp
      rcases List.mem_cons.1 hm with rfl | hm
      · exact hch0
      · obtain ⟨q, rfl, _, ⟨q1, q2⟩, _⟩ := visR_mem (by omega) hm
        refine ⟨List.pairwise_append.2 ⟨hch0.1, q1, fun a ha b hb => ?_⟩, fun x hx => ?_⟩
        · have := hinc1.2 a ha; have := q2 b hb; omega
        · rcases List.mem_append.1 hx with hx | hx
          · exact hch0.2 x hx
          · have := q2 x hx; omega
  have hE3 : E2.take ch.length = ch := by
    have := congrArg (List.take ch.length) hF
    rw [List.take_take, Nat.min_eq_left (by omega)] at this
    rw [this]; simp
  apply EvC.drd mixed
  · (simp only [go_sem, sObj, hE2len, hcl1, hcl2, Int.natCast_add, Int.natCast_one]) <;> rfl
  · simp [inI64_of (x := (ch.length : Int)) (by omega) (by omega)]; try exact hF0
  · kernel_rfl
  refine EvC.rg (by (simp only [go_sem]) <;> rfl) (by exact inI64_of (by omega) (by omega)) ?_
  exact ⟨[(0, 0), (1, 1)], (d2, .tv 1 E2.length 0 ch.length .rest, E2, b'), rfl, (by (simp only [go_sem, sObj, hi1]) <;> rfl), ⟨by omega, .inr ⟨rfl, hE3, hF0, by simp only at *; omega, hF2⟩, hbi', hnext⟩, by simp⟩
end Go.Avl
namespace Go.Avl
open Go Go.Proofs.Tryd
set_option maxRecDepth 10000
set_option linter.unusedSimpArgs false

/-- What plans.Best answers. -/
def bestR (l : List Item) (budget : Int) : AV :=
  if checkI l = 0 then (if 16 < l.length then .tu [.sl true [] .unk, .sc (.int .i64 3)] else .tu [.sl (bestL l budget).isEmpty ((bestL l budget).map intC) .full, .sc (.int .i64 0)])
  else .tu [.sl true [] .unk, .sc (.int .i64 (checkI l))]
theorem bestR_noref (l : List Item) (budget : Int) : (bestR l budget).noref = true := by unfold bestR; split <;> (try split) <;> simp [AV.noref, AV.norefs]
set_option maxHeartbeats 4000000 in
theorem best_is (nl : Bool) (l : List Item) (c : Cp) (budget : Int) (hk : ∀ x ∈ l, x.kills.length < 1000000) (hll : l.length < 1000000) (hb : budget ≤ 9223372036854775807) :
    PureIs prog 18 [.sl nl (l.map itemC) c, .sc (.int .i64 budget)] (bestR l budget) := by
  refine PureIs.of (nv := 2) (hid := [4, 5, 6, 7, 9, 13, 17, 22, 23, 24, 25, 41, 42]) func18 rfl (by kernel_rfl) (by simp [ntmps18]) fun _ => ?_
  rw [ntmps18, results18]
  refine EvC.seq (EvC.rg (by (simp only [go_sem]) <;> rfl) (by simp) ?_)
  refine EvC.seq ?_
  apply EvC.seq
  apply EvC.tr
  · apply Tr.run
    · (simp only [go_sem]) <;> rfl
    · simp
    apply Tr.cons
    · exact .call rfl rfl (by (simp only [go_sem]) <;> rfl) (by (simp only [go_sem]) <;> rfl) (by (simp only [go_sem]) <;> rfl) (by (simp only [go_sem]) <;> rfl) (by (simp only [go_sem]) <;> rfl) (check_items_is nl l c hk)
    apply Tr.done
    · (simp only [go_sem]) <;> rfl
    · simp
  refine EvC.seq (EvC.rg (by (simp only [go_sem]) <;> rfl) (by simp) ?_)
  refine EvC.cond (by (simp only [go_sem]) <;> rfl) (fun hc => ?_) (fun hc => ?_)
  · -- then
    have hc' : ¬ checkI l = 0 := by simpa using hc
    refine EvC.seq (EvC.rg (by (simp only [go_sem]) <;> rfl) (by simp) ?_)
    refine EvC.ret ⟨.inl rfl, _, (by (simp only [go_sem]) <;> rfl), ?_, bestR_noref l budget⟩
    simp only [go_sem]
    rw [bestR, if_neg hc']
  have hc' : checkI l = 0 := by simpa using hc
  clear hc
  obtain ⟨_, hls⟩ := checkI_sound hc'
  refine EvC.skip ?_
  refine EvC.seq ?_
  refine EvC.seq (EvC.rg (by (simp only [go_sem, List.length_map]) <;> rfl) (by simp) ?_)
  refine EvC.cond (by (simp only [go_sem]) <;> rfl) (fun hc => ?_) (fun hc => ?_)
  · -- then
    have h16 : 16 < l.length := by have : (16 : Int) < l.length := by simpa using hc
                                   omega
    refine EvC.seq (EvC.rg (by (simp only [go_sem]) <;> rfl) (by simp) ?_)
    refine EvC.ret ⟨.inl rfl, _, (by (simp only [go_sem]) <;> rfl), ?_, bestR_noref l budget⟩
    simp only [go_sem]
    rw [bestR, if_pos hc', if_pos h16]
  have h16 : l.length ≤ 16 := by have : ¬ (16 : Int) < l.length := by simpa using hc
                                 omega
  have hR : bestR l budget = .tu [.sl (bestL l budget).isEmpty ((bestL l budget).map intC) .full, .sc (.int .i64 0)] := by rw [bestR, if_pos hc', if_neg (by omega)]
  rw [hR]
  clear hc hR
  refine EvC.skip ?_
  refine EvC.seq (EvC.rg (by (simp only [go_sem]) <;> rfl) (by simp) ?_)
  refine EvC.ownC 13 1 4 (by (simp only [go_sem]) <;> rfl) ?_
  refine EvC.seq ?_
  refine EvC.seq (EvC.rg (by (simp only [go_sem, List.length_map]) <;> rfl) (by simp) ?_)
  refine EvC.block ?_  -- 0
  refine EvC.loopS (σ := Nat) (fun k => ⟨[(7, .rf 0 0), (22, .sl nl (l.map itemC) c), (23, .sc (.int .i64 l.length)), (24, .sc (.int .i64 k))], [], [(0, .cells [.sl nl (l.map itemC) c, .tl 1 (l.take k).length (l.take k).isEmpty, .sc (.int .i64 budget), .sl true [] .zer, .sl true [] .zer, .sc (.int .u64 0), .sc (.int .u64 0), .sc (.int .u64 0), .sc (.int .u64 0), .sc (.int .i64 0), .sc (.bool false)]), (1, .arr 4 ((l.take k).map setI) true)], 2⟩) (fun k => l.length - k) (fun k => k ≤ l.length) [7, 22, 23, 24] 2 ?_ ?_
  · exact ⟨[(13, 0), (15, 1)], 0, rfl, (by (simp only [go_sem, Int.natCast_zero, List.take_zero, List.map_nil, List.length_nil, List.isEmpty_nil]) <;> rfl), Nat.zero_le _⟩
  intro k hk1
  refine EvC.seq (EvC.rg (by (simp only [go_sem]) <;> rfl) (by simp) ?_)
  refine EvC.seq ?_
  refine EvC.cond (by (simp only [go_sem]) <;> rfl) (fun hc => ?_) (fun hc => ?_)
  rotate_left
  · -- else
    refine EvC.exit ?_  -- 0
    obtain rfl : l.length = k := by have : ¬ k < l.length := by simpa using hc
                                    omega
    rw [List.take_length]
    clear hc
    refine EvC.frzD 1 (by (simp only [go_sem, List.length_map]) <;> rfl) ?_
    refine EvC.ownC 0 3 1 (by (simp only [go_sem]) <;> rfl) ?_
    refine EvC.thaw 3 (by (simp only [go_sem]) <;> rfl) ?_
    have hz := setC_nil l
    simp only [setC, List.cons.injEq, AV.sc.injEq, Value.int.injEq, true_and, and_true] at hz
    obtain ⟨w0, w1, w2, w3⟩ := hz
    have hc0 : costN l [] = 0 := rfl
    have hl0 : ((l.length - l.length : Nat) : Int) = 0 := by omega
    apply EvC.seq  -- R12
    apply EvC.region
    apply XR.run
    · (simp only [go_sem]) <;> rfl
    · simp
    refine XR.gcTo ⟨[(7, .rf 0 0), (41, .rf 0 0), (42, .ag (setC (killedP l [])))], [], [(0, sObj nl l c l.isEmpty budget (.tl 1 0 true) (sBest none) (killedP l (sList none)) (costN l (sList none)) false), (1, .arr 1 (([] : List Int).map intC) false)], 2⟩ [7, 41, 42] [(0, 0), (3, 1)] rfl (by (simp only [go_sem, sObj, setC, sBest, sList, Option.getD_none, ← w0, ← w1, ← w2, ← w3, hc0, List.map_nil]) <;> rfl) ?_
    apply XR.callI rfl rfl (by (simp only [go_sem]) <;> rfl) (by (simp only [go_sem]) <;> rfl) (by (simp only [go_sem]) <;> rfl)
    have inc0 : ∀ m, IncL 0 m ([] : List Int) := fun _ => ⟨.nil, fun _ h => by cases h⟩
    have tb := @try_body nl l c l.isEmpty budget (fun x hx => ⟨(hls x hx).1, hk x hx⟩) h16 hb l.length [] none (.tl 1 0 true) []
    rw [hl0] at tb
    refine tb (Nat.le_refl _) (inc0 _) (.inl ⟨rfl, rfl, rfl⟩) (fun _ => rfl) (inc0 _) ?_
    intro b v' E' hf hv'
    rw [best_eq (fun x hx => (hls x hx).1)] at hf
    obtain rfl : bestL l budget = b := Option.some.inj hf
    refine XR.nil ?_
    have q := clip47_is (bestL l budget).isEmpty (bestL l budget) .unk
    rcases hv' with ⟨_, rfl, rfl⟩ | ⟨rfl, _⟩
    · apply EvC.seq
      apply EvC.tr
      · apply Tr.run
        · (simp only [go_sem, sObj]) <;> rfl
        · simp
        apply Tr.cons
        · exact .call rfl rfl (by (simp only [go_sem]) <;> rfl) (by (simp only [go_sem]) <;> rfl) (by (simp only [go_sem]) <;> rfl) (by (simp only [go_sem]) <;> rfl) (by (simp only [go_sem]) <;> rfl) (q)
        apply Tr.done
        · (simp only [go_sem]) <;> rfl
        · simp
      refine EvC.ret ⟨.inl rfl, _, (by (simp only [go_sem]) <;> rfl), ?_, rfl⟩
      simp only [go_sem]
    · apply EvC.seq
      apply EvC.tr
      · apply Tr.run
        · (simp only [go_sem, sObj]) <;> rfl
        · simp
        apply Tr.cons
        · exact .call rfl rfl (by (simp only [go_sem]) <;> rfl) (by (simp only [go_sem]) <;> rfl) (by (simp only [go_sem]) <;> rfl) (by (simp only [go_sem]) <;> rfl) (by (simp only [go_sem]) <;> rfl) (q)
        apply Tr.done
        · (simp only [go_sem]) <;> rfl
        · simp
      refine EvC.ret ⟨.inl rfl, _, (by (simp only [go_sem]) <;> rfl), ?_, rfl⟩
      simp only [go_sem]
  have hkl : k < l.length := by simpa using hc
  clear hc
  have he : l[k]? = some (l[k]'hkl) := List.getElem?_eq_getElem hkl
  have hkb := hk _ (List.getElem_mem hkl)
  have hxd := hls _ (List.getElem_mem hkl)
  have htk : l.take (k + 1) = l.take k ++ [l[k]'hkl] := List.take_succ_eq_append_getElem hkl
  have htl : (l.take k).length = k := by rw [List.length_take]; omega
  generalize l[k]'hkl = x at he hkb hxd htk
  have hin : (k : Int).toNat = k := Int.toNat_natCast k
  refine EvC.skip ?_
  refine EvC.seq ?_
  refine EvC.block ?_  -- 1
  refine EvC.seq (EvC.rg (by (simp only [go_sem, he, hin, itemC]) <;> rfl) (by simp) ?_)
  have hsn : (l.take k).map setI ++ [setC (inL x.kills)] = (l.take (k + 1)).map setI := by rw [htk]; simp [setI]
  have hsl : (l.take k).length + 1 = (l.take (k + 1)).length := by rw [htk]; simp
  have hse : (l.take (k + 1)).isEmpty = false := by rw [htk]; simp
  have hr2 : room ((l.take k).length + 1) 32 = true := by simp only [room_eq, decide_eq_true_eq]; omega
  have hw : ∀ y ∈ l.take k, (setI y).length = 4 := fun _ _ => rfl
  have o := of_is x.nl x.kills .unk hkb hxd.2
  rw [hsl] at hr2
  generalize hT1 : l.take (k + 1) = T1 at hsn hsl hse hr2
  generalize hT : l.take k = T at hsn hsl hw
  apply EvC.drw mixed
  · apply Tr.run
    · (simp only [go_sem, itemC]) <;> rfl
    · simp
    apply Tr.cons
    · exact .call rfl rfl (by (simp only [go_sem]) <;> rfl) (by (simp only [go_sem]) <;> rfl) (by (simp only [go_sem]) <;> rfl) (by (simp only [go_sem]) <;> rfl) (by (simp only [go_sem]) <;> rfl) o
    apply Tr.done
    · (simp only [go_sem, hsn, hsl, List.length_map, setC_len, setC_take]) <;> rfl
    · have hn4 : AV.norefs (setC (inL x.kills)) = true := rfl
      simp [hr2, setC_len, hn4, ← hsl, acell, mset, mlook]
      try (rw [← hsl] at hr2; simp [hr2])
  · kernel_rfl
  refine EvC.rg (by (simp only [go_sem]) <;> rfl) (by exact inI64_of (by omega) (by omega)) ?_
  exact ⟨[(0, 0), (1, 1)], k + 1, rfl, (by rw [hT1]; (simp only [go_sem, hsn, hsl, hse, Int.natCast_add, Int.natCast_one]) <;> rfl), hkl, by omega⟩
end Go.Avl
namespace Go.Avl
open Go Go.Proofs.Tryd
set_option maxRecDepth 10000
set_option linter.unusedSimpArgs false

/-! ### Words, and runs of machines -/
theorem set_mid {α : Type} (a b : List α) (x y : α) : (a ++ x :: b).set a.length y = a ++ y :: b := by simp
def findIdxI (p : Int → Bool) : List Int → Int → Int
  | [], _ => -1
  | e :: es, i => if p e = true then i else findIdxI p es (i + 1)
theorem findIdxI_any (p : Int → Bool) : ∀ (es : List Int) (i : Int), 0 ≤ i → decide (0 ≤ findIdxI p es i) = es.any p
  | [], i, _ => by simp [findIdxI]
  | e :: es, i, h => by
    unfold findIdxI
    split
    · rename_i hp; simp [hp, h]
    · rename_i hp
      rw [findIdxI_any p es (i + 1) (by omega)]
      simp [hp]
theorem indexInt_is (nl : Bool) (xs : List Int) (c : Cp) (f : FuncId) (cs : List AV) (hcs : AV.norefs cs = true) (p : Int → Bool) (hp : ∀ e ∈ xs, PureIs prog f (.sc (.int .i64 e) :: cs) (.sc (.bool (p e)))) (hl : xs.length < 1000000) :
    PureIs prog 82 [.sl nl (xs.map intC) c, .fn f cs] (.sc (.int .i64 (findIdxI p xs 0))) := by
  refine PureIs.of (nv := 2) (hid := [4, 5, 7, 8, 9, 16]) func82 rfl (by kernel_rfl) (by simp [ntmps82]) fun _ => ?_
  rw [ntmps82, results82]
  refine EvC.seq (EvC.rg (by (simp only [go_sem]) <;> rfl) (by simp) ?_)
  refine EvC.seq ?_
  refine EvC.seq (EvC.rg (by (simp only [go_sem]) <;> rfl) (by simp) ?_)
  refine EvC.block ?_  -- 0
  refine EvC.loopS (σ := Nat) (fun i => ⟨[(0, .sl nl (xs.map intC) c), (1, .fn f cs), (7, .sc (.int .i64 xs.length)), (8, .sc (.int .i64 i))], [], [], 0⟩) (fun i => xs.length - i) (fun i => i ≤ xs.length ∧ findIdxI p xs 0 = findIdxI p (xs.drop i) i) [0, 1, 7, 8] 0 ?_ ?_
  · refine ⟨[], 0, rfl, (by (simp only [go_sem, hcs]) <;> rfl), Nat.zero_le _, by simp⟩
  rintro i ⟨h1, h2⟩
  refine EvC.seq (EvC.rg (by (simp only [go_sem]) <;> rfl) (by simp) ?_)
  refine EvC.seq ?_
  refine EvC.cond (by (simp only [go_sem]) <;> rfl) (fun hc => ?_) (fun hc => ?_)
  rotate_left
  · refine EvC.exit ?_  -- 0
    have hi : ¬ i < xs.length := by simpa using hc
    refine EvC.seq (EvC.rg (by (simp only [go_sem]) <;> rfl) (by simp) ?_)
    refine EvC.ret ⟨.inl rfl, _, (by (simp only [go_sem]) <;> rfl), ?_, rfl⟩
    simp only [go_sem]
    rw [h2, List.drop_of_length_le (by omega)]; rfl
  have hi : i < xs.length := by simpa using hc
  have he : xs[i]? = some xs[i] := List.getElem?_eq_getElem hi
  have hd : xs.drop i = xs[i] :: xs.drop (i + 1) := List.drop_eq_getElem_cons hi
  have hm : xs[i] ∈ xs := List.getElem_mem hi
  generalize xs[i] = e at he hd hm
  refine EvC.skip ?_
  refine EvC.seq ?_
  refine EvC.block ?_  -- 1
  refine EvC.seq (EvC.rg (by (simp only [go_sem]) <;> rfl) (by simp) ?_)
  apply EvC.seq
  apply EvC.tr
  · apply Tr.run
    · (simp only [go_sem, he, intC]) <;> rfl
    · simp
    apply Tr.cons
    · exact .call rfl rfl (by (simp only [go_sem]) <;> rfl) (by (simp only [go_sem]) <;> rfl) (by (simp only [go_sem]) <;> rfl) (by (simp only [go_sem, hcs]) <;> rfl) (by (simp only [go_sem]) <;> rfl) (hp e hm)
    apply Tr.done
    · (simp only [go_sem]) <;> rfl
    · simp
  refine EvC.cond (by (simp only [go_sem]) <;> rfl) (fun hc => ?_) (fun hc => ?_)
  · refine EvC.seq (EvC.rg (by (simp only [go_sem]) <;> rfl) (by simp) ?_)
    refine EvC.ret ⟨.inl rfl, _, (by (simp only [go_sem]) <;> rfl), ?_, rfl⟩
    simp only [go_sem]
    rw [h2, hd, findIdxI, if_pos hc]
  refine EvC.skip ?_
  refine EvC.rg (by (simp only [go_sem]) <;> rfl) (by exact inI64_of (by omega) (by omega)) ?_
  refine ⟨[], i + 1, rfl, (by (simp only [go_sem, hcs]) <;> rfl), ⟨by omega, ?_⟩, by omega⟩
  rw [h2, hd, findIdxI, if_neg (by simp [hc])]; rfl
theorem containsInt_is (nl : Bool) (xs : List Int) (c : Cp) (f : FuncId) (cs : List AV) (hcs : AV.norefs cs = true) (p : Int → Bool) (hp : ∀ e ∈ xs, PureIs prog f (.sc (.int .i64 e) :: cs) (.sc (.bool (p e)))) (hl : xs.length < 1000000) :
    PureIs prog 72 [.sl nl (xs.map intC) c, .fn f cs] (.sc (.bool (xs.any p))) := by
  refine PureIs.of (nv := 2) (hid := [4]) func72 rfl (by kernel_rfl) (by simp [ntmps72]) fun _ => ?_
  rw [ntmps72, results72]
  refine EvC.seq (EvC.rg (by (simp only [go_sem]) <;> rfl) (by simp) ?_)
  apply EvC.seq
  apply EvC.tr
  · apply Tr.run
    · (simp only [go_sem]) <;> rfl
    · simp
    apply Tr.cons
    · exact .call rfl rfl (by (simp only [go_sem]) <;> rfl) (by (simp only [go_sem]) <;> rfl) (by (simp only [go_sem]) <;> rfl) (by (simp only [go_sem, hcs]) <;> rfl) (by (simp only [go_sem]) <;> rfl) (indexInt_is _ _ _ _ _ hcs _ hp hl)
    apply Tr.done
    · (simp only [go_sem]) <;> rfl
    · simp
  refine EvC.ret ⟨.inl rfl, _, (by (simp only [go_sem]) <;> rfl), ?_, rfl⟩
  simp only [go_sem]
  rw [findIdxI_any _ _ _ (Int.le_refl 0)]

theorem wcheck1_is (x n : Int) : PureIs prog 73 [.sc (.int .i64 x), .ia [.sc (.int .i64 n)]] (.sc (.bool (decide (x < 0) || decide (n ≤ x)))) := by
  refine PureIs.of (nv := 2) (hid := [3]) func73 rfl (by kernel_rfl) (by simp [ntmps73]) fun _ => ?_
  rw [ntmps73, results73]
  refine EvC.seq (EvC.rg (by (simp only [go_sem]) <;> rfl) (by simp) ?_)
  apply EvC.seq
  apply EvC.trd
  · (simp only [go_sem]) <;> rfl
  · simp
  refine EvC.ret ⟨.inl rfl, _, (by (simp only [go_sem]) <;> rfl), ?_, rfl⟩
  simp only [go_sem]
  by_cases h : x < 0 <;> simp [h]
def wordErr (n : Int) (w : List Int) : Int := if 16 < n ∨ 256 < w.length then 3 else if n < 1 ∨ w.any (fun c => decide (c < 0) || decide (n ≤ c)) = true then 1 else 0
theorem wordCheck_is (nl : Bool) (w : List Int) (c : Cp) (n : Int) (hl : w.length < 1000000) : PureIs prog 51 [.sl nl (w.map intC) c, .sc (.int .i64 n)] (.sc (.int .i64 (wordErr n w))) := by
  refine PureIs.of (nv := 2) (hid := [3, 4, 11, 18]) func51 rfl (by kernel_rfl) (by simp [ntmps51]) fun _ => ?_
  rw [ntmps51, results51]
  refine EvC.seq (EvC.rg (by (simp only [go_sem]) <;> rfl) (by simp) ?_)
  refine EvC.frzB 0 (by (simp only [go_sem]) <;> rfl) ?_
  refine EvC.seq ?_
  apply EvC.seq
  apply EvC.trd
  · (simp only [go_sem]) <;> rfl
  · simp
  refine EvC.cond (by (simp only [go_sem]) <;> rfl) (fun hc => ?_) (fun hc => ?_)
  · have h : 16 < n ∨ 256 < w.length := by by_cases h1 : 16 < n <;> simp_all; omega
    refine EvC.seq (EvC.rg (by (simp only [go_sem]) <;> rfl) (by simp) ?_)
    refine EvC.ret ⟨.inl rfl, _, (by (simp only [go_sem]) <;> rfl), ?_, rfl⟩
    simp only [go_sem]
    rw [wordErr, if_pos h]
  have hn : ¬ (16 < n ∨ 256 < w.length) := by by_cases h1 : 16 < n <;> simp_all; omega
  refine EvC.skip ?_
  refine EvC.seq ?_
  by_cases h1 : n < 1
  · have h1' : decide (n < 1) = true := by simp [h1]
    apply EvC.seq
    apply EvC.tr
    · apply Tr.run
      · (simp only [go_sem]) <;> rfl
      · simp
      apply Tr.cons
      · exact .skipv (.sc (.bool false)) rfl rfl (by (simp only [go_sem, h1']) <;> rfl) (by (simp only [go_sem]) <;> rfl)
      apply Tr.done
      · (simp only [go_sem, h1']) <;> rfl
      · simp
    refine EvC.cond_true (by (simp only [go_sem]) <;> rfl) ?_
    refine EvC.seq (EvC.rg (by (simp only [go_sem]) <;> rfl) (by simp) ?_)
    refine EvC.ret ⟨.inl rfl, _, (by (simp only [go_sem]) <;> rfl), ?_, rfl⟩
    simp only [go_sem]
    rw [wordErr, if_neg hn, if_pos (.inl h1)]
  have h1' : decide (n < 1) = false := by simp [h1]
  apply EvC.seq
  apply EvC.tr
  · apply Tr.run
    · (simp only [go_sem, h1']) <;> rfl
    · simp
    apply Tr.cons
    · exact .callG rfl rfl (by (simp only [go_sem]) <;> rfl) rfl (by (simp only [go_sem]) <;> rfl) (by (simp only [go_sem]) <;> rfl) (by (simp only [go_sem]) <;> rfl) (by (simp only [go_sem]) <;> rfl) (by (simp only [go_sem]) <;> rfl) (containsInt_is nl w c 73 [.ia [.sc (.int .i64 n)]] rfl (fun c => decide (c < 0) || decide (n ≤ c)) (fun e _ => wcheck1_is e n) hl)
    apply Tr.done
    · (simp only [go_sem, h1']) <;> rfl
    · simp
  refine EvC.cond (by (simp only [go_sem]) <;> rfl) (fun hc => ?_) (fun hc => ?_)
  · refine EvC.seq (EvC.rg (by (simp only [go_sem]) <;> rfl) (by simp) ?_)
    refine EvC.ret ⟨.inl rfl, _, (by (simp only [go_sem]) <;> rfl), ?_, rfl⟩
    simp only [go_sem]
    rw [wordErr, if_neg hn, if_pos (.inr hc)]
  refine EvC.skip ?_
  refine EvC.seq (EvC.rg (by (simp only [go_sem]) <;> rfl) (by simp) ?_)
  refine EvC.ret ⟨.inl rfl, _, (by (simp only [go_sem]) <;> rfl), ?_, rfl⟩
  simp only [go_sem]
  rw [wordErr, if_neg hn, if_neg (by simp only [not_or]; exact ⟨h1, by simpa using hc⟩)]

def stateErr (m : Mach) (l : List Int) : Int := if checkM m ≠ 0 then checkM m else if l.any (fun x => decide (x < 0) || decide ((m.rows.length : Int) ≤ x)) = true then 1 else 0
theorem mstate_is (m : Mach) (hr : ∀ r ∈ m.rows, r.2.length < 1000000) (s : Int) : PureIs prog 74 [.ag m.cells, .sc (.int .i64 s)] (.sc (.int .i64 (stateErr m [s]))) := by
  refine PureIs.of (nv := 3) (hid := [4, 5, 9, 19]) func74 rfl (by kernel_rfl) (by simp [ntmps74]) fun _ => ?_
  rw [ntmps74, results74]
  refine EvC.seq (EvC.rg (by (simp only [go_sem, Mach.cells]) <;> rfl) (by simp) ?_)
  refine EvC.frzB 0 (by (simp only [go_sem]) <;> rfl) ?_
  refine EvC.seq ?_
  apply EvC.seq
  apply EvC.tr
  · apply Tr.run
    · (simp only [go_sem, Mach.cells]) <;> rfl
    · simp
    apply Tr.cons
    · exact .call rfl rfl (by (simp only [go_sem]) <;> rfl) (by (simp only [go_sem]) <;> rfl) (by (simp only [go_sem]) <;> rfl) (by (simp only [go_sem]) <;> rfl) (by (simp only [go_sem]) <;> rfl) (check_is m hr)
    apply Tr.done
    · (simp only [go_sem]) <;> rfl
    · simp
  refine EvC.seq (EvC.rg (by (simp only [go_sem]) <;> rfl) (by simp) ?_)
  refine EvC.cond (by (simp only [go_sem]) <;> rfl) (fun hc => ?_) (fun hc => ?_)
  · refine EvC.seq (EvC.rg (by (simp only [go_sem]) <;> rfl) (by simp) ?_)
    refine EvC.ret ⟨.inl rfl, _, (by (simp only [go_sem]) <;> rfl), ?_, rfl⟩
    simp only [go_sem]
    rw [stateErr, if_pos (by simpa using hc)]
  have hck : ¬ checkM m ≠ 0 := by simpa using hc
  refine EvC.skip ?_
  refine EvC.seq ?_
  apply EvC.seq
  apply EvC.trd
  · (simp only [go_sem, Mach.cells]) <;> rfl
  · simp
  refine EvC.cond (by (simp only [go_sem]) <;> rfl) (fun hc => ?_) (fun hc => ?_)
  · have h : s < 0 ∨ (m.rows.length : Int) ≤ s := by by_cases h1 : s < 0 <;> simp_all
    refine EvC.seq (EvC.rg (by (simp only [go_sem]) <;> rfl) (by simp) ?_)
    refine EvC.ret ⟨.inl rfl, _, (by (simp only [go_sem]) <;> rfl), ?_, rfl⟩
    simp only [go_sem]
    rw [stateErr, if_neg hck, if_pos (by simpa using h)]
  have h : ¬ (s < 0 ∨ (m.rows.length : Int) ≤ s) := by by_cases h1 : s < 0 <;> simp_all
  refine EvC.skip ?_
  refine EvC.seq (EvC.rg (by (simp only [go_sem]) <;> rfl) (by simp) ?_)
  refine EvC.ret ⟨.inl rfl, _, (by (simp only [go_sem]) <;> rfl), ?_, rfl⟩
  simp only [go_sem]
  rw [stateErr, if_neg hck, if_neg (by simpa using h)]
def afterR (m : Mach) : Int → List Int → Int
  | s, [] => s
  | s, a :: w => afterR m (stepR m s a).1 w
theorem run75_is {m : Mach} (hv : Valid m) (s : Int) (hs : s < m.rows.length) (hs0 : -1 ≤ s) (nl : Bool) (w : List Int) (c : Cp) (hw : ∀ a ∈ w, 0 ≤ a ∧ a < m.ins) (hl : w.length < 1000000) :
    PureIs prog 75 [.ag m.cells, .sc (.int .i64 s), .sl nl (w.map intC) c] (.tu [.sl false ((runR m s w).map intC) .unk, .sc (.int .i64 (afterR m s w))]) := by
  refine PureIs.of (nv := 4) (hid := [6, 7, 8, 9, 10, 11, 15, 16, 17, 18, 24]) func75 rfl (by kernel_rfl) (by simp [ntmps75]) fun _ => ?_
  rw [ntmps75, results75]
  refine EvC.seq (EvC.rg (by (simp only [go_sem, Mach.cells]) <;> rfl) (by simp) ?_)
  refine EvC.frzB 0 (by (simp only [go_sem]) <;> rfl) ?_
  refine EvC.seq (EvC.rg (by (simp only [go_sem]) <;> rfl) (by simp [room_eq]; omega) ?_)
  refine EvC.seq ?_
  refine EvC.seq (EvC.rg (by (simp only [go_sem]) <;> rfl) (by simp) ?_)
  refine EvC.block ?_  -- 0
  have hz : ∀ n : Nat, List.replicate n [AV.sc (.int .i64 0)] = (List.replicate n (0 : Int)).map intC := fun n => by simp [intC]
  refine EvC.loopS (σ := Nat × Int × List Int × List Int) (fun g => ⟨[(1, .sc (.int .i64 g.2.1)), (3, .ia m.cells), (8, .tl 0 w.length false), (15, .sl nl (w.map intC) c), (16, .sc (.int .i64 w.length)), (17, .sc (.int .i64 g.1))], [], [(0, .arr 1 (g.2.2.2.map intC) false)], 1⟩) (fun g => w.length - g.1)
    (fun g => g.1 ≤ w.length ∧ g.2.2.1.length = g.1 ∧ g.2.1 < m.rows.length ∧ -1 ≤ g.2.1 ∧ runR m s w = g.2.2.1 ++ runR m g.2.1 (w.drop g.1) ∧ afterR m s w = afterR m g.2.1 (w.drop g.1) ∧ g.2.2.2 = g.2.2.1 ++ List.replicate (w.length - g.1) 0) [1, 3, 8, 15, 16, 17] 1 ?_ ?_
  · refine ⟨[(5, 0)], (0, s, [], List.replicate w.length 0), rfl, (by (simp only [go_sem, Mach.cells, hz, Int.toNat_natCast]) <;> rfl), Nat.zero_le _, rfl, hs, hs0, rfl, rfl, by simp⟩
  rintro ⟨i, t, os, out⟩ ⟨h1, h2, h3, h4, h5, h6, ho⟩
  simp only at h1 h2 h3 h4 h5 h6 ho
  have hlen : out.length = w.length := by rw [ho]; simp; omega
  refine EvC.seq (EvC.rg (by (simp only [go_sem]) <;> rfl) (by simp) ?_)
  refine EvC.seq ?_
  refine EvC.cond (by (simp only [go_sem]) <;> rfl) (fun hc => ?_) (fun hc => ?_)
  rotate_left
  · refine EvC.exit ?_  -- 0
    obtain rfl : i = w.length := by have : ¬ i < w.length := by simpa using hc
                                    omega
    rw [List.drop_length] at h5 h6
    refine EvC.frz 0 (by (simp only [go_sem, hlen, List.length_map]) <;> rfl) ?_
    refine EvC.seq (EvC.rg (by (simp only [go_sem]) <;> rfl) (by simp) ?_)
    refine EvC.ret ⟨.inl rfl, _, (by (simp only [go_sem]) <;> rfl), ?_, rfl⟩
    simp only [go_sem]
    rw [h5, h6, ho]
    simp [runR, afterR]
  have hi : i < w.length := by simpa using hc
  have he : w[i]? = some w[i] := List.getElem?_eq_getElem hi
  have hd : w.drop i = w[i] :: w.drop (i + 1) := List.drop_eq_getElem_cons hi
  have ha := hw _ (List.getElem_mem hi)
  generalize w[i] = a at he hd ha
  rw [hd, runR] at h5
  rw [hd, afterR] at h6
  refine EvC.skip ?_
  refine EvC.seq ?_
  refine EvC.block ?_  -- 1
  refine EvC.seq (EvC.rg (by (simp only [go_sem, he, intC]) <;> rfl) (by simp) ?_)
  apply EvC.seq
  apply EvC.tr
  · apply Tr.run
    · (simp only [go_sem]) <;> rfl
    · simp
    apply Tr.cons
    · exact .call rfl rfl (by (simp only [go_sem]) <;> rfl) (by (simp only [go_sem]) <;> rfl) (by (simp only [go_sem]) <;> rfl) (by (simp only [go_sem]) <;> rfl) (by (simp only [go_sem]) <;> rfl) (none_is)
    apply Tr.done
    · (simp only [go_sem]) <;> rfl
    · simp
  refine EvC.seq ?_
  refine EvC.seq (EvC.rg (by (simp only [go_sem]) <;> rfl) (by simp) ?_)
  have hr : w.length - i = (w.length - (i + 1)) + 1 := by omega
  have hset' : ∀ y : Int, out.set i y = (os ++ [y]) ++ List.replicate (w.length - (i + 1)) 0 := fun y => by
    rw [ho, hr, List.replicate_succ, ← h2, set_mid]
    simp
  have hset : ∀ y : Int, (out.map intC).set i [.sc (.int .i64 y)] = (out.set i y).map intC := fun y => by
    rw [show [AV.sc (.int .i64 y)] = intC y from rfl, ← List.map_set]
  have hge : out[i]? = some 0 := by
    rw [ho, List.getElem?_append_right (by omega), hr, h2]; simp
  have hlt := stepR_lt hv h3 ha
  have hge1 : -1 ≤ (stepR m t a).1 := by
    by_cases h0 : 0 ≤ t
    · obtain ⟨r, e, _, _, k3, k4⟩ := stepR_get hv h0 h3 ha
      rw [k3]; unfold fitsR at k4; simp at k4; omega
    · rw [stepR, if_pos (by omega)]; simp
  refine EvC.cond (by (simp only [go_sem]) <;> rfl) (fun hc => ?_) (fun hc => ?_)
  · have hc : ¬ t = -1 := by simpa using hc
    obtain ⟨r, e, k1, k2, k3, k4⟩ := stepR_get hv (show 0 ≤ t by omega) h3 ha
    have htl : t.toNat < m.rows.length := by omega
    refine EvC.rg (by (simp only [go_sem, Mach.cells, k1, rowC, k2, edgeC]) <;> rfl) (by simp; omega) ?_
    apply EvC.drd mixed
    · (simp only [go_sem, hset, hge, intC]) <;> rfl
    · simp [hlen]; omega
    · kernel_rfl
    refine EvC.rg (by (simp only [go_sem]) <;> rfl) (by exact inI64_of (by omega) (by omega)) ?_
    rw [k3] at h5 h6 hlt hge1
    refine ⟨[(0, 0)], (i + 1, e.1, os ++ [e.2], out.set i e.2), rfl, (by (simp only [go_sem, Mach.cells]) <;> rfl), ⟨by simp only; omega, by simp [h2], hlt, hge1, ?_, h6, hset' _⟩, by simp only; omega⟩
    simp only [h5, List.append_assoc]; rfl
  have hc : t = -1 := by simpa using hc
  refine EvC.skip ?_
  apply EvC.drd mixed
  · (simp only [go_sem, hset, hge, intC]) <;> rfl
  · simp [hlen]; omega
  · kernel_rfl
  refine EvC.rg (by (simp only [go_sem]) <;> rfl) (by exact inI64_of (by omega) (by omega)) ?_
  have k3 : stepR m t a = (-1, -1) := by rw [stepR, if_pos (by omega)]
  rw [k3] at h5 h6 hlt hge1
  refine ⟨[(0, 0)], (i + 1, -1, os ++ [-1], out.set i (-1)), rfl, (by (simp only [go_sem, Mach.cells]) <;> rfl), ⟨by simp only; omega, by simp [h2], hlt, hge1, ?_, h6, hset' _⟩, by simp only; omega⟩
  simp only [h5, List.append_assoc]; rfl
theorem runR_len (m : Mach) : ∀ (s : Int) (w : List Int), (runR m s w).length = w.length
  | _, [] => rfl
  | s, a :: w => by simp only [runR, List.length_cons]; rw [runR_len m _ w]
theorem wordErr_zero {n : Int} {w : List Int} (h : wordErr n w = 0) : ∀ a ∈ w, 0 ≤ a ∧ a < n := by
  unfold wordErr at h
  split at h
  · cases h
  · split at h
    · cases h
    · rename_i h2
      simp only [not_or, Bool.not_eq_true, List.any_eq_false] at h2
      intro a ha
      have := h2.2 a ha
      simp at this; omega
theorem wordErr_of {n : Int} {w : List Int} (hn : 1 ≤ n ∧ n ≤ 16) (hl : w.length ≤ 256) (h : ∀ a ∈ w, 0 ≤ a ∧ a < n) : wordErr n w = 0 := by
  have h2 : ¬ (n < 1 ∨ w.any (fun c => decide (c < 0) || decide (n ≤ c)) = true) := by
    simp only [not_or, Bool.not_eq_true, List.any_eq_false]
    exact ⟨by omega, fun a ha => by have := h a ha; simp; omega⟩
  rw [wordErr, if_neg (by omega), if_neg h2]
theorem checkM_of {m : Mach} (hv : Valid m) : checkM m = 0 := by
  have h1 := hv.ins
  have h2 := hv.outs
  have h3 := hv.rows
  have h4 : m.rows.all (rowOk m) = true := by
    rw [List.all_eq_true]
    intro r hr
    obtain ⟨k1, k2⟩ := hv.row r hr
    simp only [rowOk, Bool.and_eq_true, decide_eq_true_eq, Bool.not_eq_true', List.any_eq_false]
    exact ⟨k1, fun e he => by simp [k2 e he]⟩
  rw [checkM, if_neg (by omega), if_neg (by omega), if_pos h4]
theorem stateErr_zero {m : Mach} {l : List Int} (h : stateErr m l = 0) : Valid m ∧ ∀ s ∈ l, 0 ≤ s ∧ s < m.rows.length := by
  unfold stateErr at h
  split at h
  · contradiction
  · rename_i h1
    split at h
    · cases h
    · rename_i h2
      simp only [Bool.not_eq_true, List.any_eq_false] at h2
      exact ⟨.of (by simpa using h1), fun s hs => by have := h2 s hs; simp at this; omega⟩
theorem stateErr_of {m : Mach} {l : List Int} (hv : Valid m) (h : ∀ s ∈ l, 0 ≤ s ∧ s < m.rows.length) : stateErr m l = 0 := by
  have h2 : ¬ l.any (fun x => decide (x < 0) || decide ((m.rows.length : Int) ≤ x)) = true := by
    simp only [Bool.not_eq_true, List.any_eq_false]
    exact fun s hs => by have := h s hs; simp; omega
  rw [stateErr, if_neg (by simp [checkM_of hv]), if_neg h2]
theorem Valid.small {m : Mach} (hv : Valid m) : ∀ r ∈ m.rows, r.2.length < 1000000 := fun r hr => by
  have := (hv.row r hr).1
  have := hv.ins
  omega
theorem run52_is {m : Mach} (hv : Valid m) (s : Int) (hs : 0 ≤ s ∧ s < m.rows.length) (nl : Bool) (w : List Int) (c : Cp) (hw : wordErr m.ins w = 0) (hl : w.length < 1000000) :
    PureIs prog 52 [.ag m.cells, .sc (.int .i64 s), .sl nl (w.map intC) c] (.tu [.sl false ((runR m s w).map intC) .unk, .sc (.int .i64 0)]) := by
  refine PureIs.of (nv := 4) (hid := [6, 7, 8, 9, 10, 16, 23]) func52 rfl (by kernel_rfl) (by simp [ntmps52]) fun _ => ?_
  rw [ntmps52, results52]
  have h1 : stateErr m [s] = 0 := stateErr_of hv (by simpa using hs)
  refine EvC.seq (EvC.rg (by (simp only [go_sem, Mach.cells]) <;> rfl) (by simp) ?_)
  refine EvC.frzB 0 (by (simp only [go_sem]) <;> rfl) ?_
  refine EvC.seq ?_
  apply EvC.seq
  apply EvC.tr
  · apply Tr.run
    · (simp only [go_sem, Mach.cells]) <;> rfl
    · simp
    apply Tr.cons
    · exact .call rfl rfl (by (simp only [go_sem]) <;> rfl) (by (simp only [go_sem]) <;> rfl) (by (simp only [go_sem]) <;> rfl) (by (simp only [go_sem]) <;> rfl) (by (simp only [go_sem]) <;> rfl) (mstate_is m hv.small s)
    apply Tr.done
    · (simp only [go_sem, h1]) <;> rfl
    · simp
  refine EvC.seq (EvC.rg (by (simp only [go_sem]) <;> rfl) (by simp) ?_)
  refine EvC.cond_false (by (simp only [go_sem]) <;> rfl) ?_
  refine EvC.skip ?_
  refine EvC.seq ?_
  apply EvC.seq
  apply EvC.tr
  · apply Tr.run
    · (simp only [go_sem, Mach.cells]) <;> rfl
    · simp
    apply Tr.cons
    · exact .call rfl rfl (by (simp only [go_sem]) <;> rfl) (by (simp only [go_sem]) <;> rfl) (by (simp only [go_sem]) <;> rfl) (by (simp only [go_sem]) <;> rfl) (by (simp only [go_sem]) <;> rfl) (wordCheck_is nl w c m.ins hl)
    apply Tr.done
    · (simp only [go_sem, hw]) <;> rfl
    · simp
  refine EvC.seq (EvC.rg (by (simp only [go_sem]) <;> rfl) (by simp) ?_)
  refine EvC.cond_false (by (simp only [go_sem]) <;> rfl) ?_
  refine EvC.skip ?_
  apply EvC.seq
  apply EvC.tr
  · apply Tr.run
    · (simp only [go_sem, Mach.cells]) <;> rfl
    · simp
    apply Tr.cons
    · exact .call rfl rfl (by (simp only [go_sem]) <;> rfl) (by (simp only [go_sem]) <;> rfl) (by (simp only [go_sem]) <;> rfl) (by (simp only [go_sem]) <;> rfl) (by (simp only [go_sem]) <;> rfl) (run75_is hv s hs.2 (by omega) nl w c (wordErr_zero hw) hl)
    apply Tr.done
    · (simp only [go_sem]) <;> rfl
    · simp
  refine EvC.seq (EvC.rg (by (simp only [go_sem]) <;> rfl) (by simp) ?_)
  refine EvC.ret ⟨.inl rfl, _, (by (simp only [go_sem]) <;> rfl), ?_, rfl⟩
  simp only [go_sem]

theorem after35_is {m : Mach} (hv : Valid m) : ∀ (w : List Int) (s : Int) (nl : Bool) (c : Cp), s < m.rows.length → (∀ a ∈ w, 0 ≤ a ∧ a < m.ins) → w.length < 1000000 →
    PureIs prog 35 [.ag m.cells, .sc (.int .i64 s), .sl nl (w.map intC) c] (.sc (.int .i64 (afterR m s w)))
  | [], s, nl, c, hs, hw, hl => by
    refine PureIs.of (nv := 4) (hid := [6, 9]) func35 rfl (by kernel_rfl) (by simp [ntmps35]) fun _ => ?_
    rw [ntmps35, results35]
    refine EvC.seq (EvC.rg (by (simp only [go_sem, Mach.cells]) <;> rfl) (by simp) ?_)
    refine EvC.frzB 0 (by (simp only [go_sem]) <;> rfl) ?_
    refine EvC.seq ?_
    refine EvC.seq (EvC.rg (by (simp only [go_sem]) <;> rfl) (by simp) ?_)
    refine EvC.cond_true (by (simp only [go_sem]) <;> rfl) ?_
    refine EvC.seq (EvC.rg (by (simp only [go_sem]) <;> rfl) (by simp) ?_)
    refine EvC.ret ⟨.inl rfl, _, (by (simp only [go_sem]) <;> rfl), ?_, rfl⟩
    simp only [go_sem]
    rfl
  | a :: w, s, nl, c, hs, hw, hl => by
    have ha := hw a List.mem_cons_self
    have ih := after35_is hv w (stepR m s a).1 nl (cutTail c) (stepR_lt hv hs ha) (fun b hb => hw b (List.mem_cons_of_mem _ hb)) (by simp at hl; omega)
    refine PureIs.of (nv := 4) (hid := [6, 9]) func35 rfl (by kernel_rfl) (by simp [ntmps35]) fun _ => ?_
    rw [ntmps35, results35]
    refine EvC.seq (EvC.rg (by (simp only [go_sem, Mach.cells]) <;> rfl) (by simp) ?_)
    refine EvC.frzB 0 (by (simp only [go_sem]) <;> rfl) ?_
    refine EvC.seq ?_
    refine EvC.seq (EvC.rg (by (simp only [go_sem]) <;> rfl) (by simp) ?_)
    have h0 : decide (((w.length + 1 : Nat) : Int) = 0) = false := by simp; omega
    refine EvC.cond_false (by (simp only [go_sem, h0]) <;> rfl) ?_
    refine EvC.skip ?_
    apply EvC.seq
    apply EvC.drw mixed
    · apply Tr.run
      · (simp only [go_sem, Mach.cells, intC, edgeA, Option.getD_some]) <;> rfl
      · simp [intC]; try omega
      apply Tr.cons
      · exact .call rfl rfl (by (simp only [go_sem]) <;> rfl) (by (simp only [go_sem]) <;> rfl) (by (simp only [go_sem]) <;> rfl) (by (simp only [go_sem]) <;> rfl) (by (simp only [go_sem]) <;> rfl) (stepR_is hv hs ha)
      apply Tr.run
      · (simp only [go_sem, Mach.cells, intC, edgeA, Option.getD_some]) <;> rfl
      · simp [intC]; try omega
      apply Tr.cons
      · exact .call rfl rfl (by (simp only [go_sem]) <;> rfl) (by (simp only [go_sem]) <;> rfl) (by (simp only [go_sem]) <;> rfl) (by (simp only [go_sem]) <;> rfl) (by (simp only [go_sem]) <;> rfl) (ih)
      apply Tr.done
      · (simp only [go_sem]) <;> rfl
      · simp
    · kernel_rfl
    refine EvC.ret ⟨.inl rfl, _, (by (simp only [go_sem]) <;> rfl), ?_, rfl⟩
    simp only [go_sem]
    rfl
theorem after63_is {m : Mach} (hv : Valid m) (s : Int) (hs : 0 ≤ s ∧ s < m.rows.length) (nl : Bool) (w : List Int) (c : Cp) (hw : wordErr m.ins w = 0) (hl : w.length < 1000000) :
    PureIs prog 63 [.ag m.cells, .sc (.int .i64 s), .sl nl (w.map intC) c] (.tu [.sc (.int .i64 (afterR m s w)), .sc (.int .i64 0)]) := by
  refine PureIs.of (nv := 4) (hid := [6, 7, 8, 9, 11, 16, 23]) func63 rfl (by kernel_rfl) (by simp [ntmps63]) fun _ => ?_
  rw [ntmps63, results63]
  have h1 : stateErr m [s] = 0 := stateErr_of hv (by simpa using hs)
  refine EvC.seq (EvC.rg (by (simp only [go_sem, Mach.cells]) <;> rfl) (by simp) ?_)
  refine EvC.frzB 0 (by (simp only [go_sem]) <;> rfl) ?_
  refine EvC.seq ?_
  apply EvC.seq
  apply EvC.tr
  · apply Tr.run
    · (simp only [go_sem, Mach.cells]) <;> rfl
    · simp
    apply Tr.cons
    · exact .call rfl rfl (by (simp only [go_sem]) <;> rfl) (by (simp only [go_sem]) <;> rfl) (by (simp only [go_sem]) <;> rfl) (by (simp only [go_sem]) <;> rfl) (by (simp only [go_sem]) <;> rfl) (mstate_is m hv.small s)
    apply Tr.done
    · (simp only [go_sem, h1]) <;> rfl
    · simp
  refine EvC.seq (EvC.rg (by (simp only [go_sem]) <;> rfl) (by simp) ?_)
  refine EvC.cond_false (by (simp only [go_sem]) <;> rfl) ?_
  refine EvC.skip ?_
  refine EvC.seq ?_
  apply EvC.seq
  apply EvC.tr
  · apply Tr.run
    · (simp only [go_sem, Mach.cells]) <;> rfl
    · simp
    apply Tr.cons
    · exact .call rfl rfl (by (simp only [go_sem]) <;> rfl) (by (simp only [go_sem]) <;> rfl) (by (simp only [go_sem]) <;> rfl) (by (simp only [go_sem]) <;> rfl) (by (simp only [go_sem]) <;> rfl) (wordCheck_is nl w c m.ins hl)
    apply Tr.done
    · (simp only [go_sem, hw]) <;> rfl
    · simp
  refine EvC.seq (EvC.rg (by (simp only [go_sem]) <;> rfl) (by simp) ?_)
  refine EvC.cond_false (by (simp only [go_sem]) <;> rfl) ?_
  refine EvC.skip ?_
  apply EvC.seq
  apply EvC.tr
  · apply Tr.run
    · (simp only [go_sem, Mach.cells]) <;> rfl
    · simp
    apply Tr.cons
    · exact .call rfl rfl (by (simp only [go_sem]) <;> rfl) (by (simp only [go_sem]) <;> rfl) (by (simp only [go_sem]) <;> rfl) (by (simp only [go_sem]) <;> rfl) (by (simp only [go_sem]) <;> rfl) (run75_is hv s hs.2 (by omega) nl w c (wordErr_zero hw) hl)
    apply Tr.done
    · (simp only [go_sem]) <;> rfl
    · simp
  refine EvC.seq (EvC.rg (by (simp only [go_sem]) <;> rfl) (by simp) ?_)
  refine EvC.ret ⟨.inl rfl, _, (by (simp only [go_sem]) <;> rfl), ?_, rfl⟩
  simp only [go_sem]

end Go.Avl
namespace Go.Avl
open Go Go.Proofs.Tryd
set_option maxRecDepth 10000
set_option linter.unusedSimpArgs false

/-! ### Faults -/
structure FA where
  kind : Int
  state : Int
  input : Int
  to : Int
  at' : Int
  out : Int
def FA.cells (f : FA) : List AV := [.sc (.int .i64 f.kind), .sc (.int .i64 f.state), .sc (.int .i64 f.input), .sc (.int .i64 f.to), .sc (.int .i64 f.at'), .sc (.int .i64 f.out)]
def inN (i n : Int) : Bool := decide (0 ≤ i) && decide (i < n)
def definedB (m : Mach) (s i : Int) : Bool := decide (0 ≤ s) && (decide (s < m.rows.length) && (decide (0 ≤ i) && (decide (i < m.ins) && !decide ((stepM m s i).1 = -1))))
def plainB (f : FA) : Bool :=
  if f.kind = 0 then decide (f.to = 0) && decide (f.at' = 0)
  else if f.kind = 1 then decide (f.at' = 0) && decide (f.out = 0)
  else if f.kind = 2 then decide (f.to = 0) && (decide (f.at' = 0) && decide (f.out = 0))
  else if f.kind = 3 then decide (f.at' = 0) && decide (f.out = 0)
  else if f.kind = 4 then decide (f.to = 0) else false
theorem within85_is (i n : Int) : PureIs prog 85 [.sc (.int .i64 i), .sc (.int .i64 n)] (.sc (.bool (inN i n))) := by
  refine PureIs.of (nv := 2) (hid := [4]) func85 rfl (by kernel_rfl) (by simp [ntmps85]) fun _ => ?_
  rw [ntmps85, results85]
  refine EvC.seq (EvC.rg (by (simp only [go_sem]) <;> rfl) (by simp) ?_)
  apply EvC.seq
  apply EvC.trd
  · (simp only [go_sem]) <;> rfl
  · simp
  refine EvC.ret ⟨.inl rfl, _, (by (simp only [go_sem]) <;> rfl), ?_, rfl⟩
  simp only [go_sem]
  unfold inN
  by_cases h : 0 ≤ i <;> simp [h]
theorem stepM_get {m : Mach} (hv : Valid m) {s i : Int} (hs : 0 ≤ s ∧ s < m.rows.length) (hi : 0 ≤ i ∧ i < m.ins) :
    ∃ r, m.rows[s.toNat]? = some r ∧ r.2[i.toNat]? = some (stepM m s i) ∧ fitsR m.rows.length m.outs (stepM m s i).1 (stepM m s i).2 = true := by
  obtain ⟨r, e, h1, h2, h3, h4⟩ := stepR_get hv hs.1 hs.2 hi
  have : stepR m s i = stepM m s i := by rw [stepR, if_neg (by omega)]; rfl
  rw [← h3, this] at h2 h4
  exact ⟨r, h1, h2, h4⟩
theorem defined84_is {m : Mach} (hv : Valid m) (s i : Int) : PureIs prog 84 [.ag m.cells, .sc (.int .i64 s), .sc (.int .i64 i)] (.sc (.bool (definedB m s i))) := by
  refine PureIs.of (nv := 4) (hid := [6]) func84 rfl (by kernel_rfl) (by simp [ntmps84]) fun _ => ?_
  rw [ntmps84, results84]
  refine EvC.seq (EvC.rg (by (simp only [go_sem, Mach.cells]) <;> rfl) (by simp) ?_)
  refine EvC.frzB 0 (by (simp only [go_sem]) <;> rfl) ?_
  have hn1 := hv.rows
  have hi1 := hv.ins
  cases h1 : m.rows[s.toNat]? with
  | none =>
    have hs : m.rows.length ≤ s.toNat := List.getElem?_eq_none_iff.1 h1
    have d1 : decide (0 ≤ s) = true := decide_eq_true (by omega)
    have d2 : decide (s < (m.rows.length : Int)) = false := decide_eq_false (by omega)
    have hres : definedB m s i = false := by simp [definedB, d1, d2]
    rw [hres]
    apply EvC.seq
    apply EvC.tr
    · apply Tr.run
      · (simp only [go_sem, Mach.cells, List.length_map, h1, d1, d2]) <;> rfl
      · simp
      apply Tr.cons
      · exact .skipv (.ia [.sl false [] .unk]) rfl rfl (by (simp only [go_sem]) <;> rfl) (by (simp only [go_sem]) <;> rfl)
      apply Tr.run
      · (simp only [go_sem, Mach.cells, List.length_map, h1, d1, d2]) <;> rfl
      · simp
      apply Tr.cons
      · exact .skipv (.ia [.sc (.int .i64 0), .sc (.int .i64 0)]) rfl rfl (by (simp only [go_sem]) <;> rfl) (by (simp only [go_sem]) <;> rfl)
      apply Tr.done
      · (simp only [go_sem]) <;> rfl
      · simp
    refine EvC.ret ⟨.inl rfl, _, (by (simp only [go_sem]) <;> rfl), ?_, rfl⟩
    simp only [go_sem]
  | some r =>
    have hsl : s.toNat < m.rows.length := (List.getElem?_eq_some_iff.1 h1).1
    have hrl := (hv.row _ (List.mem_of_getElem? h1)).1
    cases h2 : r.2[i.toNat]? with
    | none =>
      have hi : r.2.length ≤ i.toNat := List.getElem?_eq_none_iff.1 h2
      have d3 : decide (0 ≤ i) = true := decide_eq_true (by omega)
      have d4 : decide (i < m.ins) = false := decide_eq_false (by omega)
      have hres : definedB m s i = false := by simp [definedB, d3, d4]
      rw [hres]
      by_cases h0 : 0 ≤ s
      · have d1 : decide (0 ≤ s) = true := decide_eq_true h0
        have d2 : decide (s < (m.rows.length : Int)) = true := decide_eq_true (by omega)
        apply EvC.seq
        apply EvC.tr
        · apply Tr.run
          · (simp only [go_sem, Mach.cells, rowC, List.length_map, h1, h2, d1, d2, d3, d4]) <;> rfl
          · simp
          apply Tr.cons
          · exact .skipv (.ia [.sc (.int .i64 0), .sc (.int .i64 0)]) rfl rfl (by (simp only [go_sem]) <;> rfl) (by (simp only [go_sem]) <;> rfl)
          apply Tr.done
          · (simp only [go_sem]) <;> rfl
          · simp
        refine EvC.ret ⟨.inl rfl, _, (by (simp only [go_sem]) <;> rfl), ?_, rfl⟩
        simp only [go_sem]
      · have d1 : decide (0 ≤ s) = false := decide_eq_false h0
        apply EvC.seq
        apply EvC.tr
        · apply Tr.run
          · (simp only [go_sem, Mach.cells, rowC, List.length_map, h1, h2, d1, d3, d4]) <;> rfl
          · simp
          apply Tr.cons
          · exact .skipv (.ia [.sc (.int .i64 0), .sc (.int .i64 0)]) rfl rfl (by (simp only [go_sem]) <;> rfl) (by (simp only [go_sem]) <;> rfl)
          apply Tr.done
          · (simp only [go_sem]) <;> rfl
          · simp
        refine EvC.ret ⟨.inl rfl, _, (by (simp only [go_sem]) <;> rfl), ?_, rfl⟩
        simp only [go_sem]
    | some e =>
      have he : stepM m s i = e := by rw [stepM, h1]; simp [h2]
      unfold definedB
      rw [he]
      apply EvC.seq
      apply EvC.trd
      · (simp only [go_sem, Mach.cells, h1, h2, rowC, edgeC, List.length_map]) <;> rfl
      · by_cases k1 : 0 ≤ s <;> by_cases k3 : 0 ≤ i <;> simp [k1, k3]
      refine EvC.ret ⟨.inl rfl, _, (by (simp only [go_sem]) <;> rfl), ?_, rfl⟩
      simp only [go_sem]
      by_cases k1 : 0 ≤ s <;> by_cases k2 : s < m.rows.length <;> by_cases k3 : 0 ≤ i <;> by_cases k4 : i < m.ins <;> simp [k1, k2, k3, k4]
theorem kind_cases (k : Int) : (k = 0 ∨ k = 1 ∨ k = 2 ∨ k = 3 ∨ k = 4) ∨ inN k 5 = false := by
  by_cases h : 0 ≤ k ∧ k < 5
  · exact .inl (by omega)
  · refine .inr ?_
    unfold inN
    rw [Bool.and_eq_false_iff]
    by_cases h1 : 0 ≤ k
    · exact .inr (decide_eq_false fun h2 => h ⟨h1, h2⟩)
    · exact .inl (decide_eq_false h1)
theorem plain83_is (f : FA) : PureIs prog 83 [.ag f.cells] (.sc (.bool (plainB f))) := by
  obtain ⟨k, s, i, t, a, o⟩ := f
  have q := within85_is k 5
  refine PureIs.of (nv := 4) (hid := [7]) func83 rfl (by kernel_rfl) (by simp [ntmps83]) fun _ => ?_
  rw [ntmps83, results83]
  refine EvC.seq (EvC.rg (by (simp only [go_sem, FA.cells]) <;> rfl) (by simp) ?_)
  refine EvC.frzB 0 (by (simp only [go_sem]) <;> rfl) ?_
  refine EvC.seq ?_
  rcases kind_cases k with hk | hk
  rotate_left
  · rw [hk] at q
    have hres : plainB ⟨k, s, i, t, a, o⟩ = false := by
      unfold inN at hk
      rw [Bool.and_eq_false_iff, decide_eq_false_iff_not, decide_eq_false_iff_not] at hk
      unfold plainB
      simp only
      rw [if_neg (by omega), if_neg (by omega), if_neg (by omega), if_neg (by omega), if_neg (by omega)]
    rw [hres]
    apply EvC.seq
    apply EvC.tr
    · apply Tr.run
      · (simp only [go_sem]) <;> rfl
      · simp
      apply Tr.cons
      · exact .call rfl rfl (by (simp only [go_sem]) <;> rfl) (by (simp only [go_sem]) <;> rfl) (by (simp only [go_sem]) <;> rfl) (by (simp only [go_sem]) <;> rfl) (by (simp only [go_sem]) <;> rfl) (q)
      apply Tr.done
      · (simp only [go_sem]) <;> rfl
      · simp
    refine EvC.cond_true (by (simp only [go_sem]) <;> rfl) ?_
    refine EvC.seq (EvC.rg (by (simp only [go_sem]) <;> rfl) (by simp) ?_)
    refine EvC.ret ⟨.inl rfl, _, (by (simp only [go_sem]) <;> rfl), ?_, rfl⟩
    simp only [go_sem]
  have q5 : inN k 5 = true := by unfold inN; simp; omega
  rw [q5] at q
  have n2 : (2 : Int).toNat = 2 := rfl
  have n3 : (3 : Int).toNat = 3 := rfl
  have n4 : (4 : Int).toNat = 4 := rfl
  have n1 : (1 : Int).toNat = 1 := rfl
  have n0 : (0 : Int).toNat = 0 := rfl
  apply EvC.seq
  apply EvC.tr
  · apply Tr.run
    · (simp only [go_sem]) <;> rfl
    · simp
    apply Tr.cons
    · exact .call rfl rfl (by (simp only [go_sem]) <;> rfl) (by (simp only [go_sem]) <;> rfl) (by (simp only [go_sem]) <;> rfl) (by (simp only [go_sem]) <;> rfl) (by (simp only [go_sem]) <;> rfl) (q)
    apply Tr.done
    · (simp only [go_sem]) <;> rfl
    · simp
  refine EvC.cond_false (by (simp only [go_sem]) <;> rfl) ?_
  refine EvC.skip ?_
  rcases hk with rfl | rfl | rfl | rfl | rfl
  all_goals
    refine EvC.seq (EvC.rg (by (simp only [go_sem, kindTab, kindN, n0, n1, n2, n3, n4, Nat.reduceMul]) <;> rfl) (by simp) ?_)
    apply EvC.seq
    apply EvC.trd
    · (simp only [go_sem]) <;> rfl
    · simp
    refine EvC.ret ⟨.inl rfl, _, (by (simp only [go_sem]) <;> rfl), ?_, rfl⟩
    simp only [go_sem]
    unfold plainB
    by_cases e1 : t = 0 <;> by_cases e2 : a = 0 <;> by_cases e3 : o = 0 <;> simp [e1, e2, e3]
end Go.Avl
