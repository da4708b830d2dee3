/-
  Lemmas.
  Lemmas.
  Lemmas.
  Lemmas.
  Lemmas.
  Lemmas.
  Lemmas.
  Lemmas.
-/
import Derived.Test.YthdaggogdocmfaaDoorPart7
set_option linter.unusedSimpArgs false
set_option linter.unusedVariables false
set_option linter.unnecessarySimpa false
set_option linter.deprecated false
namespace Go.Avl
open Go Go.Proofs.Tryd
set_option maxRecDepth 10000
set_option linter.unusedSimpArgs false

theorem val1_inj : ∀ {a b : List Nat}, a.length = b.length → (∀ d ∈ a, d ≤ 1) → (∀ d ∈ b, d ≤ 1) → val 1 a = val 1 b → a = b
  | [], [], _, _, _, _ => rfl
  | x :: a, y :: b, h, ha, hb, he => by
    simp only [val] at he
    have h1 := ha x List.mem_cons_self
    have h2 := hb y List.mem_cons_self
    have hxy : x = y := by omega
    have hv : val 1 a = val 1 b := by omega
    rw [hxy, val1_inj (by simpa using h) (fun d hd => ha d (List.mem_cons_of_mem _ hd)) (fun d hd => hb d (List.mem_cons_of_mem _ hd)) hv]
  | [], _ :: _, h, _, _, _ => by simp at h
  | _ :: _, [], h, _, _, _ => by simp at h
theorem wrd_inj {P Q : Nat → Bool} : wrd P = wrd Q ↔ ∀ b, b < 64 → P b = Q b := by
  unfold wrd dval
  constructor
  · intro h b hb
    have hm := val1_inj (by simp) (fun d hd => by obtain ⟨i, _, rfl⟩ := List.mem_map.1 hd; exact bD_le P i) (fun d hd => by obtain ⟨i, _, rfl⟩ := List.mem_map.1 hd; exact bD_le Q i) h
    have := List.map_inj_left.1 hm b (List.mem_range.2 hb)
    unfold bD at this
    generalize P b = p at *
    generalize Q b = q at *
    cases p <;> cases q <;> simp_all
  · intro h
    congr 1
    refine List.map_congr_left fun b hb => ?_
    unfold bD
    rw [h b (List.mem_range.1 hb)]
theorem setW_eq4 {P Q : Nat → Bool} : (decide (((setW P 0 : Nat) : Int) = (setW Q 0 : Nat)) && (decide (((setW P 1 : Nat) : Int) = (setW Q 1 : Nat)) && (decide (((setW P 2 : Nat) : Int) = (setW Q 2 : Nat)) && decide (((setW P 3 : Nat) : Int) = (setW Q 3 : Nat))))) = sameP P Q := by
  rw [Bool.eq_iff_iff]
  simp only [Bool.and_eq_true, decide_eq_true_eq, Int.natCast_inj, sameP_iff]
  unfold setW
  rw [wrd_inj, wrd_inj, wrd_inj, wrd_inj]
  constructor
  · rintro ⟨h0, h1, h2, h3⟩ n hn
    by_cases a0 : n < 64
    · have := h0 n a0; simpa using this
    by_cases a1 : n < 128
    · have := h1 (n - 64) (by omega); rwa [show 64 * 1 + (n - 64) = n by omega] at this
    by_cases a2 : n < 192
    · have := h2 (n - 128) (by omega); rwa [show 64 * 2 + (n - 128) = n by omega] at this
    · have := h3 (n - 192) (by omega); rwa [show 64 * 3 + (n - 192) = n by omega] at this
  · intro h
    exact ⟨fun b hb => h _ (by omega), fun b hb => h _ (by omega), fun b hb => h _ (by omega), fun b hb => h _ (by omega)⟩

/-! ### The search -/
def setI (x : Item) : List AV := setC (inL x.kills)
@[go_sem] theorem norefs_setI (l : List Item) : (l.map setI).all AV.norefs = true := by
  simp only [List.all_eq_true]
  intro c hc
  obtain ⟨x, _, rfl⟩ := List.mem_map.1 hc
  rfl
/-- What the search knows: its choice, the best one, what this kills and costs, and whether there is one. -/
def sObj (ln : Bool) (l : List Item) (lc : Cp) (sn : Bool) (budget : Int) (v bc : AV) (P : Nat → Bool) (cost : Int) (f : Bool) : RObj :=
  .cells [.sl ln (l.map itemC) lc, .sl sn (l.map setI) .unk, .sc (.int .i64 budget), v, bc, .sc (.int .u64 (setW P 0 : Nat)), .sc (.int .u64 (setW P 1 : Nat)), .sc (.int .u64 (setW P 2 : Nat)), .sc (.int .u64 (setW P 3 : Nat)), .sc (.int .i64 cost), .sc (.bool f)]
def sBest : Option (List Int) → AV
  | none => .sl true [] .zer
  | some b => .sl b.isEmpty (b.map intC) .unk
def sList (s : Option (List Int)) : List Int := s.getD []
/-- How the choice so far lies in its object. -/
def ChOk (l : List Item) (v : AV) (E : List Int) (ch : List Int) : Prop :=
  (ch = [] ∧ E = [] ∧ v = .tl 1 0 true) ∨ (v = .tv 1 E.length 0 ch.length .rest ∧ E.take ch.length = ch ∧ E ≠ [] ∧ ch.length ≤ E.length ∧ E.length ≤ l.length)
set_option maxHeartbeats 4000000 in
theorem try_body (ln : Bool) (l : List Item) (lc : Cp) (sn : Bool) (budget : Int) (hl : ∀ x ∈ l, (1 ≤ x.cost ∧ x.cost ≤ 1000000) ∧ x.kills.length < 1000000) (hn : l.length ≤ 16) (hb : budget ≤ 9223372036854775807) :
    ∀ (d : Nat) (ch : List Int) (s : Option (List Int)) (v : AV) (E : List Int) {R : AV → Mem → Nat → Prop}, d ≤ l.length → IncL 0 (l.length - d) ch → ChOk l v E ch → (ch = [] → E = []) → IncL 0 l.length (sList s) →
      (∀ b v' E', foldV l s (ch :: visR l budget d ch) = some b → ChOk l v' E' ch → R (mkRes []) [(0, sObj ln l lc sn budget v' (.sl b.isEmpty (b.map intC) .unk) (killedP l b) (costN l b) true), (1, .arr 1 (E'.map intC) false)] 2) →
      BodyIs prog 46 [.rf 0 0, .sc (.int .i64 ((l.length - d : Nat) : Int)), .ag (setC (killedP l ch)), .sc (.int .i64 (costN l ch))] [(0, sObj ln l lc sn budget v (sBest s) (killedP l (sList s)) (costN l (sList s)) s.isSome), (1, .arr 1 (E.map intC) false)] 2 R := by
  intro d
  induction d using Nat.strongRecOn with
  | _ d ih =>
  intro ch s v E R hd hch hv hpre hs hR
  refine BodyIs.of (nv := 4) (hid := [6, 8, 9, 10, 39, 66, 97, 108, 110, 111, 121]) func46 rfl (by kernel_rfl) (by simp [ntmps46]) fun h0 => ?_
  rw [ntmps46, results46]
  have hlc : ∀ x ∈ l, 0 ≤ x.cost ∧ x.cost ≤ 1000000 := fun x hx => by have := (hl x hx).1; omega
  have hcl := inc_len hch
  have n1 := count_is (killedP l ch)
  have n2 := count_is (killedP l (sList s))
  have kb1 := cnt_le (killedP l ch) 256
  have kb2 := cnt_le (killedP l (sList s)) 256
  have hchI : InCh l ch := fun x hx => by have := hch.2 x hx; omega
  have cb1 := costN_bd hlc hchI
  unfold sObj
  unfold setC at n1 n2
  refine EvC.seq (EvC.rg (by (simp only [go_sem, setC]) <;> rfl) (by simp) ?_)
  refine EvC.frzB 2 (by (simp only [go_sem]) <;> rfl) ?_
  obtain ⟨A, hA⟩ : ∃ A : Int, A = ((cnt (killedP l ch) 256 : Nat) : Int) := ⟨_, rfl⟩
  obtain ⟨B, hB⟩ : ∃ A : Int, A = ((cnt (killedP l (sList s)) 256 : Nat) : Int) := ⟨_, rfl⟩
  rw [← hA] at n1
  rw [← hB] at n2
  refine EvC.mergeS (α := List Int) (fun p => ⟨[(0, .rf 0 0), (1, .sc (.int .i64 ((l.length - d : Nat) : Int))), (3, .sc (.int .i64 (costN l ch))), (6, .ia (setC (killedP l ch)))], [], [(0, sObj ln l lc sn budget v (.sl p.isEmpty (p.map intC) .unk) (killedP l p) (costN l p) true), (1, .arr 1 (E.map intC) false)], 2⟩)
    (fun p => p = visitB l s ch) [0, 1, 3, 6] 2 ?_ ?_
  · -- the visit
    have kbA : ∀ b : List Int, sList s = b → (kb l ch b ↔ (0 < A - B ∨ (A - B = 0 ∧ costN l ch < costN l b))) := fun b hbb => by
      subst hbb
      unfold kb killedN
      omega
    cases s with
    | none =>
      simp only [sList, Option.map_none, Option.getD_none, Option.isSome_none] at *
      have hvis : visitB l none ch = ch := rfl
      apply EvC.seq
      apply EvC.drw mixed
      · apply Tr.run
        · (simp only [go_sem]) <;> rfl
        · simp
        apply Tr.cons
        · exact .call rfl rfl (by (simp only [go_sem]) <;> rfl) (by (simp only [go_sem]) <;> rfl) (by (simp only [go_sem]) <;> rfl) (by (simp only [go_sem]) <;> rfl) (by (simp only [go_sem]) <;> rfl) (n1)
        apply Tr.run
        · (simp only [go_sem]) <;> rfl
        · simp
        apply Tr.cons
        · exact .call rfl rfl (by (simp only [go_sem]) <;> rfl) (by (simp only [go_sem]) <;> rfl) (by (simp only [go_sem]) <;> rfl) (by (simp only [go_sem]) <;> rfl) (by (simp only [go_sem]) <;> rfl) (n2)
        apply Tr.done
        · (simp only [go_sem]) <;> rfl
        · exact inI64_of (by omega) (by omega)
      · kernel_rfl
      apply EvC.seq
      apply EvC.trd
      · (simp only [go_sem]) <;> rfl
      · simp
      refine EvC.cond_true (by (simp only [go_sem]) <;> rfl) ?_
      rcases hv with ⟨rfl, rfl, rfl⟩ | ⟨rfl, hE, hE0, hE1, hE2⟩
      · apply EvC.drw mixed  -- R3
        · apply Tr.run
          · (simp only [go_sem]) <;> rfl
          · simp
          apply Tr.cons
          · exact .callD (xs := [.sl true (([] : List Int).map intC) .unk]) 2 rfl rfl (by (simp only [go_sem]) <;> rfl) (by (simp only [go_sem]) <;> rfl) (by (simp only [go_sem]) <;> rfl) (by (simp only [go_sem]) <;> rfl) (by (simp only [go_sem]) <;> rfl) (clone62_fr true [] .unk (by simp) (fun _ => rfl))
          apply Tr.done
          · (simp only [go_sem]) <;> rfl
          · simp
        · kernel_rfl
        exact ⟨rfl, [(0, 0), (1, 1)], [], rfl, (by (simp only [go_sem]) <;> rfl), rfl⟩
      · have hEt : (if ch.length = (E.map intC).length then E.map intC else List.take ch.length (E.map intC)) = ch.map intC := by
          split
          · rename_i h
            rw [List.length_map] at h
            rw [← hE, List.take_of_length_le (by omega)]
          · rw [← List.map_take, hE]
        have hElen : (E.map intC).length = E.length := List.length_map _
        rw [hElen] at hEt
        apply EvC.drw mixed  -- R3
        · apply Tr.run
          · (simp only [go_sem]) <;> rfl
          · simp
          apply Tr.cons
          · exact .callD (xs := [.sl false (ch.map intC) .unk]) 2 rfl rfl (by (simp only [go_sem]) <;> rfl) (by (simp only [go_sem]) <;> rfl) (by (simp only [go_sem, hElen, hEt]) <;> rfl) (by (simp only [go_sem, hElen, hEt]) <;> rfl) (by (simp only [go_sem]) <;> rfl) (clone62_fr false ch .unk (by omega) (fun h => by cases h))
          apply Tr.done
          · (simp only [go_sem]) <;> rfl
          · simp
        · kernel_rfl
        have hce : ch.isEmpty = false := by cases ch with | nil => exact absurd (hpre rfl) hE0 | cons => rfl
        exact ⟨rfl, [(0, 0), (1, 1)], ch, rfl, (by (simp only [go_sem, hce]) <;> rfl), rfl⟩
    | some b0 =>
      simp only [sList, Option.map_some, Option.getD_some, Option.isSome_some, sBest] at *
      have hvis : visitB l (some b0) ch = if kb l ch b0 then ch else b0 := rfl
      have kbA := kbA b0 rfl
      apply EvC.seq
      apply EvC.drw mixed
      · apply Tr.run
        · (simp only [go_sem]) <;> rfl
        · simp
        apply Tr.cons
        · exact .call rfl rfl (by (simp only [go_sem]) <;> rfl) (by (simp only [go_sem]) <;> rfl) (by (simp only [go_sem]) <;> rfl) (by (simp only [go_sem]) <;> rfl) (by (simp only [go_sem]) <;> rfl) (n1)
        apply Tr.run
        · (simp only [go_sem]) <;> rfl
        · simp
        apply Tr.cons
        · exact .call rfl rfl (by (simp only [go_sem]) <;> rfl) (by (simp only [go_sem]) <;> rfl) (by (simp only [go_sem]) <;> rfl) (by (simp only [go_sem]) <;> rfl) (by (simp only [go_sem]) <;> rfl) (n2)
        apply Tr.done
        · (simp only [go_sem]) <;> rfl
        · exact inI64_of (by omega) (by omega)
      · kernel_rfl
      apply EvC.seq
      apply EvC.trd
      · (simp only [go_sem]) <;> rfl
      · simp
      refine EvC.cond (by (simp only [go_sem]) <;> rfl) (fun hc => ?_) (fun hc => ?_)
      · have hyes : kb l ch b0 := kbA.2 (by simpa using hc)
        have hvis2 : ch = visitB l (some b0) ch := by rw [hvis, if_pos hyes]
        rcases hv with ⟨rfl, rfl, rfl⟩ | ⟨rfl, hE, hE0, hE1, hE2⟩
        · apply EvC.drw mixed  -- R3
          · apply Tr.run
            · (simp only [go_sem]) <;> rfl
            · simp
            apply Tr.cons
            · exact .callD (xs := [.sl true (([] : List Int).map intC) .unk]) 2 rfl rfl (by (simp only [go_sem]) <;> rfl) (by (simp only [go_sem]) <;> rfl) (by (simp only [go_sem]) <;> rfl) (by (simp only [go_sem]) <;> rfl) (by (simp only [go_sem]) <;> rfl) (clone62_fr true [] .unk (by simp) (fun _ => rfl))
            apply Tr.done
            · (simp only [go_sem]) <;> rfl
            · simp
          · kernel_rfl
          exact ⟨rfl, [(0, 0), (1, 1)], [], rfl, (by (simp only [go_sem]) <;> rfl), hvis2⟩
        · have hEt : (if ch.length = (E.map intC).length then E.map intC else List.take ch.length (E.map intC)) = ch.map intC := by
            split
            · rename_i h
              rw [List.length_map] at h
              rw [← hE, List.take_of_length_le (by omega)]
            · rw [← List.map_take, hE]
          have hElen : (E.map intC).length = E.length := List.length_map _
          rw [hElen] at hEt
          apply EvC.drw mixed  -- R3
          · apply Tr.run
            · (simp only [go_sem]) <;> rfl
            · simp
            apply Tr.cons
            · exact .callD (xs := [.sl false (ch.map intC) .unk]) 2 rfl rfl (by (simp only [go_sem]) <;> rfl) (by (simp only [go_sem]) <;> rfl) (by (simp only [go_sem, hElen, hEt]) <;> rfl) (by (simp only [go_sem, hElen, hEt]) <;> rfl) (by (simp only [go_sem]) <;> rfl) (clone62_fr false ch .unk (by omega) (fun h => by cases h))
            apply Tr.done
            · (simp only [go_sem]) <;> rfl
            · simp
          · kernel_rfl
          have hce : ch.isEmpty = false := by cases ch with | nil => exact absurd (hpre rfl) hE0 | cons => rfl
          exact ⟨rfl, [(0, 0), (1, 1)], ch, rfl, (by (simp only [go_sem, hce]) <;> rfl), hvis2⟩
      · have hno : ¬ kb l ch b0 := fun h => by
          have h := kbA.1 h
          simp at hc
          omega
        rcases hv with ⟨rfl, rfl, rfl⟩ | ⟨rfl, hE, hE0, hE1, hE2⟩
        · exact EvC.skip ⟨rfl, [(0, 0), (1, 1)], b0, rfl, (by (simp only [go_sem]) <;> rfl), by rw [hvis, if_neg hno]⟩
        · exact EvC.skip ⟨rfl, [(0, 0), (1, 1)], b0, rfl, (by (simp only [go_sem]) <;> rfl), by rw [hvis, if_neg hno]⟩
  intro b hbv
  simp only at hbv ⊢
  have hbi : IncL 0 l.length b := by
    have hch0 : IncL 0 l.length ch := ⟨hch.1, fun x hx => by have := hch.2 x hx; omega⟩
    rw [hbv]
    cases s with
    | none => exact hch0
    | some q =>
      show IncL 0 l.length (if kb l ch q then ch else q)
      split
      · exact hch0
      · exact hs
  have hfold : foldV l s (ch :: visR l budget d ch) = foldV l (some b) (visR l budget d ch) := by rw [hbv]; rfl
  clear n1 n2 kb1 kb2 hA hB hbv hs
  refine EvC.seq (EvC.rg (by (simp only [go_sem]) <;> rfl) (by simp) ?_)
  refine EvC.block ?_  -- 0
  refine EvC.loopS (σ := Nat × AV × List Int × List Int) (fun p => ⟨[(0, .rf 0 0), (3, .sc (.int .i64 (costN l ch))), (6, .ia (setC (killedP l ch))), (9, .sc (.int .i64 ((l.length - p.1 : Nat) : Int)))], [], [(0, sObj ln l lc sn budget p.2.1 (.sl p.2.2.2.isEmpty (p.2.2.2.map intC) .unk) (killedP l p.2.2.2) (costN l p.2.2.2) true), (1, .arr 1 (p.2.2.1.map intC) false)], 2⟩)
    (fun p => p.1) (fun p => p.1 ≤ d ∧ ChOk l p.2.1 p.2.2.1 ch ∧ IncL 0 l.length p.2.2.2 ∧ foldV l s (ch :: visR l budget d ch) = foldV l (some p.2.2.2) (visR l budget p.1 ch)) [0, 3, 6, 9] 2 ?_ ?_
  · rcases hv with ⟨rfl, rfl, rfl⟩ | ⟨rfl, hE, hE0, hE1, hE2⟩
    · exact ⟨[(0, 0), (1, 1)], (d, .tl 1 0 true, [], b), rfl, (by (simp only [go_sem, sObj]) <;> rfl), Nat.le_refl _, .inl ⟨rfl, rfl, rfl⟩, hbi, hfold⟩
    · exact ⟨[(0, 0), (1, 1)], (d, .tv 1 E.length 0 ch.length .rest, E, b), rfl, (by (simp only [go_sem, sObj]) <;> rfl), Nat.le_refl _, .inr ⟨rfl, hE, hE0, hE1, hE2⟩, hbi, hfold⟩
  clear hv hbi hfold
  rintro ⟨d1, v, E, b⟩ ⟨hd1, hv, hbi, hinv⟩
  simp only at hd1 hv hbi hinv ⊢
  refine EvC.seq ?_
  refine EvC.seq (EvC.rg (by (simp only [go_sem, sObj, List.length_map]) <;> rfl) (by simp) ?_)
  refine EvC.cond (by (simp only [go_sem]) <;> rfl) (fun hc => ?_) (fun hc => ?_)
  rotate_left
  · -- else
    have hd0 : d1 = 0 := by have : ¬ ((l.length - d1 : Nat) : Int) < l.length := by simpa using hc
                            omega
    subst hd0
    have hres : foldV l s (ch :: visR l budget d ch) = some b := by rw [hinv]; rfl
    rcases hv with ⟨rfl, rfl, rfl⟩ | ⟨rfl, hE, hE0, hE1, hE2⟩
    · refine EvC.gc [] [(0, 0), (1, 1)] 2 rfl ?_
      refine EvC.exit ?_  -- 0
      refine ⟨.inr rfl, _, rfl, ?_⟩
      exact hR b (.tl 1 0 true) [] hres (.inl ⟨rfl, rfl, rfl⟩)
    · refine EvC.gc [] [(0, 0), (1, 1)] 2 rfl ?_
      refine EvC.exit ?_  -- 0
      refine ⟨.inr rfl, _, rfl, ?_⟩
      simp only [go_sem]
      exact hR b _ E hres (.inr ⟨rfl, hE, hE0, hE1, hE2⟩)
  have hdl : d1 ≠ 0 := by have : ((l.length - d1 : Nat) : Int) < l.length := by simpa using hc
                          omega
  clear hc
  obtain ⟨d2, rfl⟩ : ∃ k, d1 = k + 1 := ⟨d1 - 1, by omega⟩
  obtain ⟨i, hi⟩ : ∃ i : Nat, i = l.length - (d2 + 1) := ⟨_, rfl⟩
  rw [← hi]
  have hil : i < l.length := by omega
  have hin : (i : Int).toNat = i := Int.toNat_natCast i
  have hi1 : (i : Int) + 1 = ((l.length - d2 : Nat) : Int) := by omega
  have hx : l[i]? = some (itemAt l (i : Int)) := itemAt_get (i := (i : Int)) ⟨by omega, by omega⟩
  have hxm := hl _ (List.mem_of_getElem? hx)
  have hsx : (l.map setI)[i]? = some (setC (inL (itemAt l (i : Int)).kills)) := by rw [List.getElem?_map, hx]; rfl
  have w := with_is (killedP l ch) (inL (itemAt l (i : Int)).kills)
  have hkp := killedP_snoc l ch (i : Int)
  rw [← hkp] at w
  have hcs := costN_snoc l ch (i : Int)
  have hok : addsOk l budget ch i = (!sameP (killedP l (ch ++ [(i : Int)])) (killedP l ch) && decide (costN l (ch ++ [(i : Int)]) ≤ budget)) := rfl
  have hvis : visR l budget (d2 + 1) ch = (if addsOk l budget ch i = true then (ch ++ [(i : Int)]) :: visR l budget d2 (ch ++ [(i : Int)]) else []) ++ visR l budget d2 ch := by rw [hi]; rfl
  have hinc1 : IncL 0 (l.length - d2) (ch ++ [(i : Int)]) := by
    refine ⟨List.pairwise_append.2 ⟨hch.1, by simp, fun a ha b hb => ?_⟩, fun x hx => ?_⟩
    · simp at hb; subst hb; have := hch.2 a ha; omega
    · rcases List.mem_append.1 hx with hx | hx
      · have := hch.2 x hx; omega
      · simp at hx; subst hx; omega
  have hlen1 := inc_len hinc1
  have hInC1 : InCh l (ch ++ [(i : Int)]) := fun x hx => by have := hinc1.2 x hx; omega
  have cb2 := costN_bd hlc hInC1
  rw [List.length_append, List.length_singleton] at hlen1 cb2
  generalize hC1 : costN l (ch ++ [(i : Int)]) = C1 at *
  generalize hP1 : killedP l (ch ++ [(i : Int)]) = P1 at *
  generalize itemAt l (i : Int) = x at *
  refine EvC.skip ?_
  refine EvC.seq ?_
  refine EvC.block ?_  -- 1
  apply EvC.seq  -- R7
  apply EvC.drw mixed
  · apply Tr.run
    · (simp only [go_sem, hsx, hin, List.length_map, setC_take]) <;> rfl
    · simp [setC_len]; try omega
    apply Tr.cons
    · exact .call rfl rfl (by (simp only [go_sem]) <;> rfl) (by (simp only [go_sem]) <;> rfl) (by (simp only [go_sem]) <;> rfl) (by (simp only [go_sem]) <;> rfl) (by (simp only [go_sem]) <;> rfl) w
    apply Tr.done
    · (simp only [go_sem, setC_len]) <;> rfl
    · simp [setC_len]
      try exact setC_acell _ _
  · kernel_rfl
  refine EvC.frzB 18 (by (simp only [go_sem, setC_len]) <;> rfl) ?_
  refine EvC.seq ?_
  have hdr : ∀ P : Nat → Bool, List.drop 4 (setC P) = [] := fun _ => rfl
  have hcx : costN l ch + x.cost = C1 := hcs.symm
  apply EvC.seq
  apply EvC.drd mixed
  · (simp only [go_sem, setC, setW_eq4, hx, itemC, hin, List.length_map, hcx]) <;> rfl
  · simp [inI64_of (x := C1) (by omega) (by omega)]; try omega
  · kernel_rfl
  refine EvC.cond (by (simp only [go_sem]) <;> rfl) (fun hc => ?_) (fun hc => ?_)
  · -- skipped
    have hno : addsOk l budget ch i = false := by
      rw [hok]
      generalize sameP P1 (killedP l ch) = q at *
      cases q with
      | true => rfl
      | false =>
        have : budget < C1 := by simpa using hc
        simp; omega
    rw [hno] at hvis
    have hvis : visR l budget (d2 + 1) ch = visR l budget d2 ch := hvis
    rw [hvis] at hinv
    refine EvC.exit ?_  -- 1
    refine EvC.rg (by (simp only [go_sem]) <;> rfl) (by exact inI64_of (by omega) (by omega)) ?_
    rcases hv with ⟨rfl, rfl, rfl⟩ | ⟨rfl, hE, hE0, hE1, hE2⟩
    · exact ⟨[(0, 0), (1, 1)], (d2, .tl 1 0 true, [], b), rfl, (by (simp only [go_sem, sObj, hi1]) <;> rfl), ⟨by omega, .inl ⟨rfl, rfl, rfl⟩, hbi, hinv⟩, by simp⟩
    · exact ⟨[(0, 0), (1, 1)], (d2, .tv 1 E.length 0 ch.length .rest, E, b), rfl, (by (simp only [go_sem, sObj, hi1]) <;> rfl), ⟨by omega, .inr ⟨rfl, hE, hE0, hE1, hE2⟩, hbi, hinv⟩, by simp⟩
  have hyes : addsOk l budget ch i = true := by
    rw [hok]
    generalize sameP P1 (killedP l ch) = q at *
    cases q with
    | true => simp at hc
    | false =>
      have : ¬ budget < C1 := by simpa using hc
      simp; omega
  rw [if_pos hyes] at hvis
  clear hc
  refine EvC.skip ?_
  refine EvC.mergeC (α := List Int) (fun E' => ⟨[(0, .rf 0 0), (3, .sc (.int .i64 (costN l ch))), (6, .ia (setC (killedP l ch))), (9, .sc (.int .i64 i)), (10, .ia (setC P1))], [], [(0, sObj ln l lc sn budget (.tv 1 E'.length 0 (ch.length + 1) .rest) (.sl b.isEmpty (b.map intC) .unk) (killedP l b) (costN l b) true), (1, .arr 1 (E'.map intC) false)], 2⟩)
    (fun E' => E'.take (ch.length + 1) = ch ++ [(i : Int)] ∧ E' ≠ [] ∧ ch.length + 1 ≤ E'.length ∧ E'.length ≤ l.length) ?_ ?_
  · -- the choice grows
    rcases hv with ⟨rfl, rfl, rfl⟩ | ⟨rfl, hE, hE0, hE1, hE2⟩
    · have hr2 : room 1 8 = true := by simp only [room_eq]; decide
      refine EvC.rg (by (simp only [go_sem]) <;> rfl) (by simp [hr2]) ?_
      refine ⟨rfl, [(i : Int)], ⟨rfl, by simp, by simp, by simp; omega⟩, fun c Q h => ?_⟩
      refine EvC.toTv 1 ?_
      refine EvC.gcE [0, 3, 6, 9, 10] [(0, 0), (1, 1)] 2 rfl (by (simp only [go_sem]) <;> rfl) h
    · have hElen : (E.map intC).length = E.length := List.length_map _
      by_cases hfull : ch.length = E.length
      · have hEc : E = ch := by rw [← hE, List.take_of_length_le (by omega)]
        have hr2 : room (E.length + 1) 8 = true := by simp only [room_eq, decide_eq_true_eq]; omega
        have hne : E.length ≠ 0 := by simpa using hE0
        obtain ⟨E1, hE1d⟩ : ∃ E1, E1 = E ++ [(i : Int)] := ⟨_, rfl⟩
        have hsn : E.map intC ++ [[.sc (.int .i64 (i : Int))]] = E1.map intC := by rw [hE1d]; simp [intC]
        have hl2 : E1.length = E.length + 1 := by rw [hE1d]; simp
        have ht2 : E1.take (ch.length + 1) = ch ++ [(i : Int)] := by rw [hE1d, hEc, List.take_of_length_le (by simp)]
        refine EvC.rg (by (simp only [go_sem, hfull, hElen, hsn]) <;> rfl) (by simp [hr2]; try omega) ?_
        exact ⟨rfl, E1, ⟨ht2, fun h => by rw [h] at hl2; simp at hl2, by omega, by omega⟩, fun c Q h => EvC.gcE [0, 3, 6, 9, 10] [(0, 0), (1, 1)] 2 rfl (by (simp only [go_sem, hfull, hl2]) <;> rfl) h⟩
      · obtain ⟨E1, hE1d⟩ : ∃ E1, E1 = E.take ch.length ++ (i : Int) :: E.drop (ch.length + 1) := ⟨_, rfl⟩
        have hsn : List.take ch.length (E.map intC) ++ [.sc (.int .i64 (i : Int))] :: List.drop (ch.length + 1) (E.map intC) = E1.map intC := by rw [hE1d]; simp [intC, List.map_take, List.map_drop]
        have hl2 : E1.length = E.length := by rw [hE1d]; simp; omega
        have ht2 : E1.take (ch.length + 1) = ch ++ [(i : Int)] := by
          rw [hE1d, hE, List.take_append]
          simp [List.take_of_length_le]
        refine EvC.rg (by (simp only [go_sem, hfull, hElen, hsn]) <;> rfl) (by simp; try omega) ?_
        exact ⟨rfl, E1, ⟨ht2, fun h => by rw [h] at hl2; exact hE0 (List.length_eq_zero_iff.1 hl2.symm), by omega, by omega⟩, fun c Q h => EvC.gcE [0, 3, 6, 9, 10] [(0, 0), (1, 1)] 2 rfl (by (simp only [go_sem, hl2]) <;> rfl) h⟩
  rintro E' ⟨hE, hE0, hE1, hE2⟩
  apply EvC.seq  -- R10
  apply EvC.drl mixed
  · apply TrTo.run
    · (simp only [go_sem, sObj, setC_take, hx, itemC, hin, List.length_map, hcx]) <;> rfl
    · simp [setC_len, inI64_of (x := C1) (by omega) (by omega), inI64_of (x := (i : Int) + 1) (by omega) (by omega)]; try omega
    exact TrTo.here
  · kernel_rfl
  · kernel_rfl
  · kernel_rfl
  have hlast : (ch ++ [(i : Int)]).length = ch.length + 1 := by simp
  refine XR.gcTo ⟨[(0, .rf 0 0), (3, .sc (.int .i64 (costN l ch))), (6, .ia (setC (killedP l ch))), (9, .sc (.int .i64 i)), (108, .rf 0 0), (110, .sc (.int .i64 ((l.length - d2 : Nat) : Int))), (111, .ag (setC P1)), (121, .sc (.int .i64 C1))], [], [(0, sObj ln l lc sn budget (.tv 1 E'.length 0 (ch.length + 1) .rest) (.sl b.isEmpty (b.map intC) .unk) (killedP l b) (costN l b) true), (1, .arr 1 (E'.map intC) false)], 2⟩ [0, 3, 6, 9, 108, 110, 111, 121] [(0, 0), (1, 1)] rfl (by (simp only [go_sem, hi1, sObj]) <;> rfl) ?_
  apply XR.callI rfl rfl (by (simp only [go_sem]) <;> rfl) (by (simp only [go_sem]) <;> rfl) (by (simp only [go_sem]) <;> rfl)
  subst hP1
  subst hC1
  refine ih d2 (by omega) (ch ++ [(i : Int)]) (some b) (.tv 1 E'.length 0 (ch.length + 1) .rest) E' (by omega) hinc1 (.inr ⟨by rw [hlast], by rw [hlast]; exact hE, hE0, by rw [hlast]; exact hE1, hE2⟩) (fun h => by simp at h) hbi ?_
  intro b' v' E2 hf hv'
  rcases hv' with ⟨h, _⟩ | ⟨rfl, hF, hF0, hF1, hF2⟩
  · simp at h
  rw [hlast] at hF hF1
  rw [hlast]
  refine XR.nil ?_
  have hE2len : (E2.map intC).length = E2.length := List.length_map _
  have hE2ne : E2.length ≠ 0 := by simpa using hF0
  have hcl1 : ((ch.length : Int) + 1 - 1).toNat = ch.length := by omega
  have hcl2 : (List.take (ch.length + 1) (E2.map intC)).length = ch.length + 1 := by simp; omega
  have hcc : (if ch.length + 1 = E2.length then E2.map intC else List.take (ch.length + 1) (E2.map intC)) = (ch ++ [(i : Int)]).map intC := by
    split
    · rename_i h
      rw [← hF, List.take_of_length_le (by omega)]
    · rw [← List.map_take, hF]
  have hnext : foldV l s (ch :: visR l budget d ch) = foldV l (some b') (visR l budget d2 ch) := by
    rw [hinv, hvis]
    have e : foldV l (some b) ((ch ++ [(i : Int)]) :: visR l budget d2 (ch ++ [(i : Int)]) ++ visR l budget d2 ch) = foldV l (foldV l (some b) ((ch ++ [(i : Int)]) :: visR l budget d2 (ch ++ [(i : Int)]))) (visR l budget d2 ch) := List.foldl_append
    rw [e]
    exact congrArg (fun z => foldV l z (visR l budget d2 ch)) hf
  have hbi' : IncL 0 l.length b' := by
    have hch0 : IncL 0 l.length (ch ++ [(i : Int)]) := ⟨hinc1.1, fun x hx => by have := hinc1.2 x hx; omega⟩
    obtain ⟨r, hr, hrr⟩ := foldV_spec (l := l) (V := (ch ++ [(i : Int)]) :: visR l budget d2 (ch ++ [(i : Int)])) (b := b)
    have hf2 : foldV l (some b) ((ch ++ [(i : Int)]) :: visR l budget d2 (ch ++ [(i : Int)])) = some b' := hf
    rw [hr] at hf2
    obtain rfl : r = b' := Option.some.inj hf2
    rcases hrr with ⟨hrb, _⟩ | ⟨A, B, hAB, _⟩
    · rw [hrb]; exact hbi
    · have hm : r ∈ (ch ++ [(i : Int)]) :: visR l budget d2 (ch ++ [(i : Int)]) := by rw [hAB]; simp
      rcases List.mem_cons.1 hm with rfl | hm
      · exact hch0
      · obtain ⟨q, rfl, _, ⟨q1, q2⟩, _⟩ := visR_mem (by omega) hm
        refine ⟨List.pairwise_append.2 ⟨hch0.1, q1, fun a ha b hb => ?_⟩, fun x hx => ?_⟩
        · have := hinc1.2 a ha; have := q2 b hb; omega
        · rcases List.mem_append.1 hx with hx | hx
          · exact hch0.2 x hx
          · have := q2 x hx; omega
  have hE3 : E2.take ch.length = ch := by
    have := congrArg (List.take ch.length) hF
    rw [List.take_take, Nat.min_eq_left (by omega)] at this
    rw [this]; simp
  apply EvC.drd mixed
  · (simp only [go_sem, sObj, hE2len, hcl1, hcl2, Int.natCast_add, Int.natCast_one]) <;> rfl
  · simp [inI64_of (x := (ch.length : Int)) (by omega) (by omega)]; try exact hF0
  · kernel_rfl
  refine EvC.rg (by (simp only [go_sem]) <;> rfl) (by exact inI64_of (by omega) (by omega)) ?_
  exact ⟨[(0, 0), (1, 1)], (d2, .tv 1 E2.length 0 ch.length .rest, E2, b'), rfl, (by (simp only [go_sem, sObj, hi1]) <;> rfl), ⟨by omega, .inr ⟨rfl, hE3, hF0, by simp only at *; omega, hF2⟩, hbi', hnext⟩, by simp⟩
end Go.Avl
namespace Go.Avl
open Go Go.Proofs.Tryd
set_option maxRecDepth 10000
set_option linter.unusedSimpArgs false

/-- What plans.Best answers. -/
def bestR (l : List Item) (budget : Int) : AV :=
  if checkI l = 0 then (if 16 < l.length then .tu [.sl true [] .unk, .sc (.int .i64 3)] else .tu [.sl (bestL l budget).isEmpty ((bestL l budget).map intC) .full, .sc (.int .i64 0)])
  else .tu [.sl true [] .unk, .sc (.int .i64 (checkI l))]
theorem bestR_noref (l : List Item) (budget : Int) : (bestR l budget).noref = true := by unfold bestR; split <;> (try split) <;> simp [AV.noref, AV.norefs]
set_option maxHeartbeats 4000000 in
theorem best_is (nl : Bool) (l : List Item) (c : Cp) (budget : Int) (hk : ∀ x ∈ l, x.kills.length < 1000000) (hll : l.length < 1000000) (hb : budget ≤ 9223372036854775807) :
    PureIs prog 18 [.sl nl (l.map itemC) c, .sc (.int .i64 budget)] (bestR l budget) := by
  refine PureIs.of (nv := 2) (hid := [4, 5, 6, 7, 9, 13, 17, 22, 23, 24, 25, 41, 42]) func18 rfl (by kernel_rfl) (by simp [ntmps18]) fun _ => ?_
  rw [ntmps18, results18]
  refine EvC.seq (EvC.rg (by (simp only [go_sem]) <;> rfl) (by simp) ?_)
  refine EvC.seq ?_
  apply EvC.seq
  apply EvC.tr
  · apply Tr.run
    · (simp only [go_sem]) <;> rfl
    · simp
    apply Tr.cons
    · exact .call rfl rfl (by (simp only [go_sem]) <;> rfl) (by (simp only [go_sem]) <;> rfl) (by (simp only [go_sem]) <;> rfl) (by (simp only [go_sem]) <;> rfl) (by (simp only [go_sem]) <;> rfl) (check_items_is nl l c hk)
    apply Tr.done
    · (simp only [go_sem]) <;> rfl
    · simp
  refine EvC.seq (EvC.rg (by (simp only [go_sem]) <;> rfl) (by simp) ?_)
  refine EvC.cond (by (simp only [go_sem]) <;> rfl) (fun hc => ?_) (fun hc => ?_)
  · -- then
    have hc' : ¬ checkI l = 0 := by simpa using hc
    refine EvC.seq (EvC.rg (by (simp only [go_sem]) <;> rfl) (by simp) ?_)
    refine EvC.ret ⟨.inl rfl, _, (by (simp only [go_sem]) <;> rfl), ?_, bestR_noref l budget⟩
    simp only [go_sem]
    rw [bestR, if_neg hc']
  have hc' : checkI l = 0 := by simpa using hc
  clear hc
  obtain ⟨_, hls⟩ := checkI_sound hc'
  refine EvC.skip ?_
  refine EvC.seq ?_
  refine EvC.seq (EvC.rg (by (simp only [go_sem, List.length_map]) <;> rfl) (by simp) ?_)
  refine EvC.cond (by (simp only [go_sem]) <;> rfl) (fun hc => ?_) (fun hc => ?_)
  · -- then
    have h16 : 16 < l.length := by have : (16 : Int) < l.length := by simpa using hc
                                   omega
    refine EvC.seq (EvC.rg (by (simp only [go_sem]) <;> rfl) (by simp) ?_)
    refine EvC.ret ⟨.inl rfl, _, (by (simp only [go_sem]) <;> rfl), ?_, bestR_noref l budget⟩
    simp only [go_sem]
    rw [bestR, if_pos hc', if_pos h16]
  have h16 : l.length ≤ 16 := by have : ¬ (16 : Int) < l.length := by simpa using hc
                                 omega
  have hR : bestR l budget = .tu [.sl (bestL l budget).isEmpty ((bestL l budget).map intC) .full, .sc (.int .i64 0)] := by rw [bestR, if_pos hc', if_neg (by omega)]
  rw [hR]
  clear hc hR
  refine EvC.skip ?_
  refine EvC.seq (EvC.rg (by (simp only [go_sem]) <;> rfl) (by simp) ?_)
  refine EvC.ownC 13 1 4 (by (simp only [go_sem]) <;> rfl) ?_
  refine EvC.seq ?_
  refine EvC.seq (EvC.rg (by (simp only [go_sem, List.length_map]) <;> rfl) (by simp) ?_)
  refine EvC.block ?_  -- 0
  refine EvC.loopS (σ := Nat) (fun k => ⟨[(7, .rf 0 0), (22, .sl nl (l.map itemC) c), (23, .sc (.int .i64 l.length)), (24, .sc (.int .i64 k))], [], [(0, .cells [.sl nl (l.map itemC) c, .tl 1 (l.take k).length (l.take k).isEmpty, .sc (.int .i64 budget), .sl true [] .zer, .sl true [] .zer, .sc (.int .u64 0), .sc (.int .u64 0), .sc (.int .u64 0), .sc (.int .u64 0), .sc (.int .i64 0), .sc (.bool false)]), (1, .arr 4 ((l.take k).map setI) true)], 2⟩) (fun k => l.length - k) (fun k => k ≤ l.length) [7, 22, 23, 24] 2 ?_ ?_
  · exact ⟨[(13, 0), (15, 1)], 0, rfl, (by (simp only [go_sem, Int.natCast_zero, List.take_zero, List.map_nil, List.length_nil, List.isEmpty_nil]) <;> rfl), Nat.zero_le _⟩
  intro k hk1
  refine EvC.seq (EvC.rg (by (simp only [go_sem]) <;> rfl) (by simp) ?_)
  refine EvC.seq ?_
  refine EvC.cond (by (simp only [go_sem]) <;> rfl) (fun hc => ?_) (fun hc => ?_)
  rotate_left
  · -- else
    refine EvC.exit ?_  -- 0
    obtain rfl : l.length = k := by have : ¬ k < l.length := by simpa using hc
                                    omega
    rw [List.take_length]
    clear hc
    refine EvC.frzD 1 (by (simp only [go_sem, List.length_map]) <;> rfl) ?_
    refine EvC.ownC 0 3 1 (by (simp only [go_sem]) <;> rfl) ?_
    refine EvC.thaw 3 (by (simp only [go_sem]) <;> rfl) ?_
    have hz := setC_nil l
    simp only [setC, List.cons.injEq, AV.sc.injEq, Value.int.injEq, true_and, and_true] at hz
    obtain ⟨w0, w1, w2, w3⟩ := hz
    have hc0 : costN l [] = 0 := rfl
    have hl0 : ((l.length - l.length : Nat) : Int) = 0 := by omega
    apply EvC.seq  -- R12
    apply EvC.region
    apply XR.run
    · (simp only [go_sem]) <;> rfl
    · simp
    refine XR.gcTo ⟨[(7, .rf 0 0), (41, .rf 0 0), (42, .ag (setC (killedP l [])))], [], [(0, sObj nl l c l.isEmpty budget (.tl 1 0 true) (sBest none) (killedP l (sList none)) (costN l (sList none)) false), (1, .arr 1 (([] : List Int).map intC) false)], 2⟩ [7, 41, 42] [(0, 0), (3, 1)] rfl (by (simp only [go_sem, sObj, setC, sBest, sList, Option.getD_none, ← w0, ← w1, ← w2, ← w3, hc0, List.map_nil]) <;> rfl) ?_
    apply XR.callI rfl rfl (by (simp only [go_sem]) <;> rfl) (by (simp only [go_sem]) <;> rfl) (by (simp only [go_sem]) <;> rfl)
    have inc0 : ∀ m, IncL 0 m ([] : List Int) := fun _ => ⟨.nil, fun _ h => by cases h⟩
    have tb := @try_body nl l c l.isEmpty budget (fun x hx => ⟨(hls x hx).1, hk x hx⟩) h16 hb l.length [] none (.tl 1 0 true) []
    rw [hl0] at tb
    refine tb (Nat.le_refl _) (inc0 _) (.inl ⟨rfl, rfl, rfl⟩) (fun _ => rfl) (inc0 _) ?_
    intro b v' E' hf hv'
    rw [best_eq (fun x hx => (hls x hx).1)] at hf
    obtain rfl : bestL l budget = b := Option.some.inj hf
    refine XR.nil ?_
    have q := clip47_is (bestL l budget).isEmpty (bestL l budget) .unk
    rcases hv' with ⟨_, rfl, rfl⟩ | ⟨rfl, _⟩
    · apply EvC.seq
      apply EvC.tr
      · apply Tr.run
        · (simp only [go_sem, sObj]) <;> rfl
        · simp
        apply Tr.cons
        · exact .call rfl rfl (by (simp only [go_sem]) <;> rfl) (by (simp only [go_sem]) <;> rfl) (by (simp only [go_sem]) <;> rfl) (by (simp only [go_sem]) <;> rfl) (by (simp only [go_sem]) <;> rfl) (q)
        apply Tr.done
        · (simp only [go_sem]) <;> rfl
        · simp
      refine EvC.ret ⟨.inl rfl, _, (by (simp only [go_sem]) <;> rfl), ?_, rfl⟩
      simp only [go_sem]
    · apply EvC.seq
      apply EvC.tr
      · apply Tr.run
        · (simp only [go_sem, sObj]) <;> rfl
        · simp
        apply Tr.cons
        · exact .call rfl rfl (by (simp only [go_sem]) <;> rfl) (by (simp only [go_sem]) <;> rfl) (by (simp only [go_sem]) <;> rfl) (by (simp only [go_sem]) <;> rfl) (by (simp only [go_sem]) <;> rfl) (q)
        apply Tr.done
        · (simp only [go_sem]) <;> rfl
        · simp
      refine EvC.ret ⟨.inl rfl, _, (by (simp only [go_sem]) <;> rfl), ?_, rfl⟩
      simp only [go_sem]
  have hkl : k < l.length := by simpa using hc
  clear hc
  have he : l[k]? = some (l[k]'hkl) := List.getElem?_eq_getElem hkl
  have hkb := hk _ (List.getElem_mem hkl)
  have hxd := hls _ (List.getElem_mem hkl)
  have htk : l.take (k + 1) = l.take k ++ [l[k]'hkl] := List.take_succ_eq_append_getElem hkl
  have htl : (l.take k).length = k := by rw [List.length_take]; omega
  generalize l[k]'hkl = x at he hkb hxd htk
  have hin : (k : Int).toNat = k := Int.toNat_natCast k
  refine EvC.skip ?_
  refine EvC.seq ?_
  refine EvC.block ?_  -- 1
  refine EvC.seq (EvC.rg (by (simp only [go_sem, he, hin, itemC]) <;> rfl) (by simp) ?_)
  have hsn : (l.take k).map setI ++ [setC (inL x.kills)] = (l.take (k + 1)).map setI := by rw [htk]; simp [setI]
  have hsl : (l.take k).length + 1 = (l.take (k + 1)).length := by rw [htk]; simp
  have hse : (l.take (k + 1)).isEmpty = false := by rw [htk]; simp
  have hr2 : room ((l.take k).length + 1) 32 = true := by simp only [room_eq, decide_eq_true_eq]; omega
  have hw : ∀ y ∈ l.take k, (setI y).length = 4 := fun _ _ => rfl
  have o := of_is x.nl x.kills .unk hkb hxd.2
  rw [hsl] at hr2
  generalize hT1 : l.take (k + 1) = T1 at hsn hsl hse hr2
  generalize hT : l.take k = T at hsn hsl hw
  apply EvC.drw mixed
  · apply Tr.run
    · (simp only [go_sem, itemC]) <;> rfl
    · simp
    apply Tr.cons
    · exact .call rfl rfl (by (simp only [go_sem]) <;> rfl) (by (simp only [go_sem]) <;> rfl) (by (simp only [go_sem]) <;> rfl) (by (simp only [go_sem]) <;> rfl) (by (simp only [go_sem]) <;> rfl) o
    apply Tr.done
    · (simp only [go_sem, hsn, hsl, List.length_map, setC_len, setC_take]) <;> rfl
    · have hn4 : AV.norefs (setC (inL x.kills)) = true := rfl
      simp [hr2, setC_len, hn4, ← hsl, acell, mset, mlook]
      try (rw [← hsl] at hr2; simp [hr2])
  · kernel_rfl
  refine EvC.rg (by (simp only [go_sem]) <;> rfl) (by exact inI64_of (by omega) (by omega)) ?_
  exact ⟨[(0, 0), (1, 1)], k + 1, rfl, (by rw [hT1]; (simp only [go_sem, hsn, hsl, hse, Int.natCast_add, Int.natCast_one]) <;> rfl), hkl, by omega⟩
end Go.Avl
namespace Go.Avl
open Go Go.Proofs.Tryd
set_option maxRecDepth 10000
set_option linter.unusedSimpArgs false

/-! ### Words, and runs of machines -/
theorem set_mid {α : Type} (a b : List α) (x y : α) : (a ++ x :: b).set a.length y = a ++ y :: b := by simp
def findIdxI (p : Int → Bool) : List Int → Int → Int
  | [], _ => -1
  | e :: es, i => if p e = true then i else findIdxI p es (i + 1)
theorem findIdxI_any (p : Int → Bool) : ∀ (es : List Int) (i : Int), 0 ≤ i → decide (0 ≤ findIdxI p es i) = es.any p
  | [], i, _ => by simp [findIdxI]
  | e :: es, i, h => by
    unfold findIdxI
    split
    · rename_i hp; simp [hp, h]
    · rename_i hp
      rw [findIdxI_any p es (i + 1) (by omega)]
      simp [hp]
theorem indexInt_is (nl : Bool) (xs : List Int) (c : Cp) (f : FuncId) (cs : List AV) (hcs : AV.norefs cs = true) (p : Int → Bool) (hp : ∀ e ∈ xs, PureIs prog f (.sc (.int .i64 e) :: cs) (.sc (.bool (p e)))) (hl : xs.length < 1000000) :
    PureIs prog 82 [.sl nl (xs.map intC) c, .fn f cs] (.sc (.int .i64 (findIdxI p xs 0))) := by
  refine PureIs.of (nv := 2) (hid := [4, 5, 7, 8, 9, 16]) func82 rfl (by kernel_rfl) (by simp [ntmps82]) fun _ => ?_
  rw [ntmps82, results82]
  refine EvC.seq (EvC.rg (by (simp only [go_sem]) <;> rfl) (by simp) ?_)
  refine EvC.seq ?_
  refine EvC.seq (EvC.rg (by (simp only [go_sem]) <;> rfl) (by simp) ?_)
  refine EvC.block ?_  -- 0
  refine EvC.loopS (σ := Nat) (fun i => ⟨[(0, .sl nl (xs.map intC) c), (1, .fn f cs), (7, .sc (.int .i64 xs.length)), (8, .sc (.int .i64 i))], [], [], 0⟩) (fun i => xs.length - i) (fun i => i ≤ xs.length ∧ findIdxI p xs 0 = findIdxI p (xs.drop i) i) [0, 1, 7, 8] 0 ?_ ?_
  · refine ⟨[], 0, rfl, (by (simp only [go_sem, hcs]) <;> rfl), Nat.zero_le _, by simp⟩
  rintro i ⟨h1, h2⟩
  refine EvC.seq (EvC.rg (by (simp only [go_sem]) <;> rfl) (by simp) ?_)
  refine EvC.seq ?_
  refine EvC.cond (by (simp only [go_sem]) <;> rfl) (fun hc => ?_) (fun hc => ?_)
  rotate_left
  · refine EvC.exit ?_  -- 0
    have hi : ¬ i < xs.length := by simpa using hc
    refine EvC.seq (EvC.rg (by (simp only [go_sem]) <;> rfl) (by simp) ?_)
    refine EvC.ret ⟨.inl rfl, _, (by (simp only [go_sem]) <;> rfl), ?_, rfl⟩
    simp only [go_sem]
    rw [h2, List.drop_of_length_le (by omega)]; rfl
  have hi : i < xs.length := by simpa using hc
  have he : xs[i]? = some xs[i] := List.getElem?_eq_getElem hi
  have hd : xs.drop i = xs[i] :: xs.drop (i + 1) := List.drop_eq_getElem_cons hi
  have hm : xs[i] ∈ xs := List.getElem_mem hi
  generalize xs[i] = e at he hd hm
  refine EvC.skip ?_
  refine EvC.seq ?_
  refine EvC.block ?_  -- 1
  refine EvC.seq (EvC.rg (by (simp only [go_sem]) <;> rfl) (by simp) ?_)
  apply EvC.seq
  apply EvC.tr
  · apply Tr.run
    · (simp only [go_sem, he, intC]) <;> rfl
    · simp
    apply Tr.cons
    · exact .call rfl rfl (by (simp only [go_sem]) <;> rfl) (by (simp only [go_sem]) <;> rfl) (by (simp only [go_sem]) <;> rfl) (by (simp only [go_sem, hcs]) <;> rfl) (by (simp only [go_sem]) <;> rfl) (hp e hm)
    apply Tr.done
    · (simp only [go_sem]) <;> rfl
    · simp
  refine EvC.cond (by (simp only [go_sem]) <;> rfl) (fun hc => ?_) (fun hc => ?_)
  · refine EvC.seq (EvC.rg (by (simp only [go_sem]) <;> rfl) (by simp) ?_)
    refine EvC.ret ⟨.inl rfl, _, (by (simp only [go_sem]) <;> rfl), ?_, rfl⟩
    simp only [go_sem]
    rw [h2, hd, findIdxI, if_pos hc]
  refine EvC.skip ?_
  refine EvC.rg (by (simp only [go_sem]) <;> rfl) (by exact inI64_of (by omega) (by omega)) ?_
  refine ⟨[], i + 1, rfl, (by (simp only [go_sem, hcs]) <;> rfl), ⟨by omega, ?_⟩, by omega⟩
  rw [h2, hd, findIdxI, if_neg (by simp [hc])]; rfl
theorem containsInt_is (nl : Bool) (xs : List Int) (c : Cp) (f : FuncId) (cs : List AV) (hcs : AV.norefs cs = true) (p : Int → Bool) (hp : ∀ e ∈ xs, PureIs prog f (.sc (.int .i64 e) :: cs) (.sc (.bool (p e)))) (hl : xs.length < 1000000) :
    PureIs prog 72 [.sl nl (xs.map intC) c, .fn f cs] (.sc (.bool (xs.any p))) := by
  refine PureIs.of (nv := 2) (hid := [4]) func72 rfl (by kernel_rfl) (by simp [ntmps72]) fun _ => ?_
  rw [ntmps72, results72]
  refine EvC.seq (EvC.rg (by (simp only [go_sem]) <;> rfl) (by simp) ?_)
  apply EvC.seq
  apply EvC.tr
  · apply Tr.run
    · (simp only [go_sem]) <;> rfl
    · simp
    apply Tr.cons
    · exact .call rfl rfl (by (simp only [go_sem]) <;> rfl) (by (simp only [go_sem]) <;> rfl) (by (simp only [go_sem]) <;> rfl) (by (simp only [go_sem, hcs]) <;> rfl) (by (simp only [go_sem]) <;> rfl) (indexInt_is _ _ _ _ _ hcs _ hp hl)
    apply Tr.done
    · (simp only [go_sem]) <;> rfl
    · simp
  refine EvC.ret ⟨.inl rfl, _, (by (simp only [go_sem]) <;> rfl), ?_, rfl⟩
  simp only [go_sem]
  rw [findIdxI_any _ _ _ (Int.le_refl 0)]

theorem wcheck1_is (x n : Int) : PureIs prog 73 [.sc (.int .i64 x), .ia [.sc (.int .i64 n)]] (.sc (.bool (decide (x < 0) || decide (n ≤ x)))) := by
  refine PureIs.of (nv := 2) (hid := [3]) func73 rfl (by kernel_rfl) (by simp [ntmps73]) fun _ => ?_
  rw [ntmps73, results73]
  refine EvC.seq (EvC.rg (by (simp only [go_sem]) <;> rfl) (by simp) ?_)
  apply EvC.seq
  apply EvC.trd
  · (simp only [go_sem]) <;> rfl
  · simp
  refine EvC.ret ⟨.inl rfl, _, (by (simp only [go_sem]) <;> rfl), ?_, rfl⟩
  simp only [go_sem]
  by_cases h : x < 0 <;> simp [h]
def wordErr (n : Int) (w : List Int) : Int := if 16 < n ∨ 256 < w.length then 3 else if n < 1 ∨ w.any (fun c => decide (c < 0) || decide (n ≤ c)) = true then 1 else 0
theorem wordCheck_is (nl : Bool) (w : List Int) (c : Cp) (n : Int) (hl : w.length < 1000000) : PureIs prog 51 [.sl nl (w.map intC) c, .sc (.int .i64 n)] (.sc (.int .i64 (wordErr n w))) := by
  refine PureIs.of (nv := 2) (hid := [3, 4, 11, 18]) func51 rfl (by kernel_rfl) (by simp [ntmps51]) fun _ => ?_
  rw [ntmps51, results51]
  refine EvC.seq (EvC.rg (by (simp only [go_sem]) <;> rfl) (by simp) ?_)
  refine EvC.frzB 0 (by (simp only [go_sem]) <;> rfl) ?_
  refine EvC.seq ?_
  apply EvC.seq
  apply EvC.trd
  · (simp only [go_sem]) <;> rfl
  · simp
  refine EvC.cond (by (simp only [go_sem]) <;> rfl) (fun hc => ?_) (fun hc => ?_)
  · have h : 16 < n ∨ 256 < w.length := by by_cases h1 : 16 < n <;> simp_all; omega
    refine EvC.seq (EvC.rg (by (simp only [go_sem]) <;> rfl) (by simp) ?_)
    refine EvC.ret ⟨.inl rfl, _, (by (simp only [go_sem]) <;> rfl), ?_, rfl⟩
    simp only [go_sem]
    rw [wordErr, if_pos h]
  have hn : ¬ (16 < n ∨ 256 < w.length) := by by_cases h1 : 16 < n <;> simp_all; omega
  refine EvC.skip ?_
  refine EvC.seq ?_
  by_cases h1 : n < 1
  · have h1' : decide (n < 1) = true := by simp [h1]
    apply EvC.seq
    apply EvC.tr
    · apply Tr.run
      · (simp only [go_sem]) <;> rfl
      · simp
      apply Tr.cons
      · exact .skipv (.sc (.bool false)) rfl rfl (by (simp only [go_sem, h1']) <;> rfl) (by (simp only [go_sem]) <;> rfl)
      apply Tr.done
      · (simp only [go_sem, h1']) <;> rfl
      · simp
    refine EvC.cond_true (by (simp only [go_sem]) <;> rfl) ?_
    refine EvC.seq (EvC.rg (by (simp only [go_sem]) <;> rfl) (by simp) ?_)
    refine EvC.ret ⟨.inl rfl, _, (by (simp only [go_sem]) <;> rfl), ?_, rfl⟩
    simp only [go_sem]
    rw [wordErr, if_neg hn, if_pos (.inl h1)]
  have h1' : decide (n < 1) = false := by simp [h1]
  apply EvC.seq
  apply EvC.tr
  · apply Tr.run
    · (simp only [go_sem, h1']) <;> rfl
    · simp
    apply Tr.cons
    · exact .callG rfl rfl (by (simp only [go_sem]) <;> rfl) rfl (by (simp only [go_sem]) <;> rfl) (by (simp only [go_sem]) <;> rfl) (by (simp only [go_sem]) <;> rfl) (by (simp only [go_sem]) <;> rfl) (by (simp only [go_sem]) <;> rfl) (containsInt_is nl w c 73 [.ia [.sc (.int .i64 n)]] rfl (fun c => decide (c < 0) || decide (n ≤ c)) (fun e _ => wcheck1_is e n) hl)
    apply Tr.done
    · (simp only [go_sem, h1']) <;> rfl
    · simp
  refine EvC.cond (by (simp only [go_sem]) <;> rfl) (fun hc => ?_) (fun hc => ?_)
  · refine EvC.seq (EvC.rg (by (simp only [go_sem]) <;> rfl) (by simp) ?_)
    refine EvC.ret ⟨.inl rfl, _, (by (simp only [go_sem]) <;> rfl), ?_, rfl⟩
    simp only [go_sem]
    rw [wordErr, if_neg hn, if_pos (.inr hc)]
  refine EvC.skip ?_
  refine EvC.seq (EvC.rg (by (simp only [go_sem]) <;> rfl) (by simp) ?_)
  refine EvC.ret ⟨.inl rfl, _, (by (simp only [go_sem]) <;> rfl), ?_, rfl⟩
  simp only [go_sem]
  rw [wordErr, if_neg hn, if_neg (by simp only [not_or]; exact ⟨h1, by simpa using hc⟩)]

def stateErr (m : Mach) (l : List Int) : Int := if checkM m ≠ 0 then checkM m else if l.any (fun x => decide (x < 0) || decide ((m.rows.length : Int) ≤ x)) = true then 1 else 0
theorem mstate_is (m : Mach) (hr : ∀ r ∈ m.rows, r.2.length < 1000000) (s : Int) : PureIs prog 74 [.ag m.cells, .sc (.int .i64 s)] (.sc (.int .i64 (stateErr m [s]))) := by
  refine PureIs.of (nv := 3) (hid := [4, 5, 9, 19]) func74 rfl (by kernel_rfl) (by simp [ntmps74]) fun _ => ?_
  rw [ntmps74, results74]
  refine EvC.seq (EvC.rg (by (simp only [go_sem, Mach.cells]) <;> rfl) (by simp) ?_)
  refine EvC.frzB 0 (by (simp only [go_sem]) <;> rfl) ?_
  refine EvC.seq ?_
  apply EvC.seq
  apply EvC.tr
  · apply Tr.run
    · (simp only [go_sem, Mach.cells]) <;> rfl
    · simp
    apply Tr.cons
    · exact .call rfl rfl (by (simp only [go_sem]) <;> rfl) (by (simp only [go_sem]) <;> rfl) (by (simp only [go_sem]) <;> rfl) (by (simp only [go_sem]) <;> rfl) (by (simp only [go_sem]) <;> rfl) (check_is m hr)
    apply Tr.done
    · (simp only [go_sem]) <;> rfl
    · simp
  refine EvC.seq (EvC.rg (by (simp only [go_sem]) <;> rfl) (by simp) ?_)
  refine EvC.cond (by (simp only [go_sem]) <;> rfl) (fun hc => ?_) (fun hc => ?_)
  · refine EvC.seq (EvC.rg (by (simp only [go_sem]) <;> rfl) (by simp) ?_)
    refine EvC.ret ⟨.inl rfl, _, (by (simp only [go_sem]) <;> rfl), ?_, rfl⟩
    simp only [go_sem]
    rw [stateErr, if_pos (by simpa using hc)]
  have hck : ¬ checkM m ≠ 0 := by simpa using hc
  refine EvC.skip ?_
  refine EvC.seq ?_
  apply EvC.seq
  apply EvC.trd
  · (simp only [go_sem, Mach.cells]) <;> rfl
  · simp
  refine EvC.cond (by (simp only [go_sem]) <;> rfl) (fun hc => ?_) (fun hc => ?_)
  · have h : s < 0 ∨ (m.rows.length : Int) ≤ s := by by_cases h1 : s < 0 <;> simp_all
    refine EvC.seq (EvC.rg (by (simp only [go_sem]) <;> rfl) (by simp) ?_)
    refine EvC.ret ⟨.inl rfl, _, (by (simp only [go_sem]) <;> rfl), ?_, rfl⟩
    simp only [go_sem]
    rw [stateErr, if_neg hck, if_pos (by simpa using h)]
  have h : ¬ (s < 0 ∨ (m.rows.length : Int) ≤ s) := by by_cases h1 : s < 0 <;> simp_all
  refine EvC.skip ?_
  refine EvC.seq (EvC.rg (by (simp only [go_sem]) <;> rfl) (by simp) ?_)
  refine EvC.ret ⟨.inl rfl, _, (by (simp only [go_sem]) <;> rfl), ?_, rfl⟩
  simp only [go_sem]
  rw [stateErr, if_neg hck, if_neg (by simpa using h)]
def afterR (m : Mach) : Int → List Int → Int
  | s, [] => s
  | s, a :: w => afterR m (stepR m s a).1 w
theorem run75_is {m : Mach} (hv : Valid m) (s : Int) (hs : s < m.rows.length) (hs0 : -1 ≤ s) (nl : Bool) (w : List Int) (c : Cp) (hw : ∀ a ∈ w, 0 ≤ a ∧ a < m.ins) (hl : w.length < 1000000) :
    PureIs prog 75 [.ag m.cells, .sc (.int .i64 s), .sl nl (w.map intC) c] (.tu [.sl false ((runR m s w).map intC) .unk, .sc (.int .i64 (afterR m s w))]) := by
  refine PureIs.of (nv := 4) (hid := [6, 7, 8, 9, 10, 11, 15, 16, 17, 18, 24]) func75 rfl (by kernel_rfl) (by simp [ntmps75]) fun _ => ?_
  rw [ntmps75, results75]
  refine EvC.seq (EvC.rg (by (simp only [go_sem, Mach.cells]) <;> rfl) (by simp) ?_)
  refine EvC.frzB 0 (by (simp only [go_sem]) <;> rfl) ?_
  refine EvC.seq (EvC.rg (by (simp only [go_sem]) <;> rfl) (by simp [room_eq]; omega) ?_)
  refine EvC.seq ?_
  refine EvC.seq (EvC.rg (by (simp only [go_sem]) <;> rfl) (by simp) ?_)
  refine EvC.block ?_  -- 0
  have hz : ∀ n : Nat, List.replicate n [AV.sc (.int .i64 0)] = (List.replicate n (0 : Int)).map intC := fun n => by simp [intC]
  refine EvC.loopS (σ := Nat × Int × List Int × List Int) (fun g => ⟨[(1, .sc (.int .i64 g.2.1)), (3, .ia m.cells), (8, .tl 0 w.length false), (15, .sl nl (w.map intC) c), (16, .sc (.int .i64 w.length)), (17, .sc (.int .i64 g.1))], [], [(0, .arr 1 (g.2.2.2.map intC) false)], 1⟩) (fun g => w.length - g.1)
    (fun g => g.1 ≤ w.length ∧ g.2.2.1.length = g.1 ∧ g.2.1 < m.rows.length ∧ -1 ≤ g.2.1 ∧ runR m s w = g.2.2.1 ++ runR m g.2.1 (w.drop g.1) ∧ afterR m s w = afterR m g.2.1 (w.drop g.1) ∧ g.2.2.2 = g.2.2.1 ++ List.replicate (w.length - g.1) 0) [1, 3, 8, 15, 16, 17] 1 ?_ ?_
  · refine ⟨[(5, 0)], (0, s, [], List.replicate w.length 0), rfl, (by (simp only [go_sem, Mach.cells, hz, Int.toNat_natCast]) <;> rfl), Nat.zero_le _, rfl, hs, hs0, rfl, rfl, by simp⟩
  rintro ⟨i, t, os, out⟩ ⟨h1, h2, h3, h4, h5, h6, ho⟩
  simp only at h1 h2 h3 h4 h5 h6 ho
  have hlen : out.length = w.length := by rw [ho]; simp; omega
  refine EvC.seq (EvC.rg (by (simp only [go_sem]) <;> rfl) (by simp) ?_)
  refine EvC.seq ?_
  refine EvC.cond (by (simp only [go_sem]) <;> rfl) (fun hc => ?_) (fun hc => ?_)
  rotate_left
  · refine EvC.exit ?_  -- 0
    obtain rfl : i = w.length := by have : ¬ i < w.length := by simpa using hc
                                    omega
    rw [List.drop_length] at h5 h6
    refine EvC.frz 0 (by (simp only [go_sem, hlen, List.length_map]) <;> rfl) ?_
    refine EvC.seq (EvC.rg (by (simp only [go_sem]) <;> rfl) (by simp) ?_)
    refine EvC.ret ⟨.inl rfl, _, (by (simp only [go_sem]) <;> rfl), ?_, rfl⟩
    simp only [go_sem]
    rw [h5, h6, ho]
    simp [runR, afterR]
  have hi : i < w.length := by simpa using hc
  have he : w[i]? = some w[i] := List.getElem?_eq_getElem hi
  have hd : w.drop i = w[i] :: w.drop (i + 1) := List.drop_eq_getElem_cons hi
  have ha := hw _ (List.getElem_mem hi)
  generalize w[i] = a at he hd ha
  rw [hd, runR] at h5
  rw [hd, afterR] at h6
  refine EvC.skip ?_
  refine EvC.seq ?_
  refine EvC.block ?_  -- 1
  refine EvC.seq (EvC.rg (by (simp only [go_sem, he, intC]) <;> rfl) (by simp) ?_)
  apply EvC.seq
  apply EvC.tr
  · apply Tr.run
    · (simp only [go_sem]) <;> rfl
    · simp
    apply Tr.cons
    · exact .call rfl rfl (by (simp only [go_sem]) <;> rfl) (by (simp only [go_sem]) <;> rfl) (by (simp only [go_sem]) <;> rfl) (by (simp only [go_sem]) <;> rfl) (by (simp only [go_sem]) <;> rfl) (none_is)
    apply Tr.done
    · (simp only [go_sem]) <;> rfl
    · simp
  refine EvC.seq ?_
  refine EvC.seq (EvC.rg (by (simp only [go_sem]) <;> rfl) (by simp) ?_)
  have hr : w.length - i = (w.length - (i + 1)) + 1 := by omega
  have hset' : ∀ y : Int, out.set i y = (os ++ [y]) ++ List.replicate (w.length - (i + 1)) 0 := fun y => by
    rw [ho, hr, List.replicate_succ, ← h2, set_mid]
    simp
  have hset : ∀ y : Int, (out.map intC).set i [.sc (.int .i64 y)] = (out.set i y).map intC := fun y => by
    rw [show [AV.sc (.int .i64 y)] = intC y from rfl, ← List.map_set]
  have hge : out[i]? = some 0 := by
    rw [ho, List.getElem?_append_right (by omega), hr, h2]; simp
  have hlt := stepR_lt hv h3 ha
  have hge1 : -1 ≤ (stepR m t a).1 := by
    by_cases h0 : 0 ≤ t
    · obtain ⟨r, e, _, _, k3, k4⟩ := stepR_get hv h0 h3 ha
      rw [k3]; unfold fitsR at k4; simp at k4; omega
    · rw [stepR, if_pos (by omega)]; simp
  refine EvC.cond (by (simp only [go_sem]) <;> rfl) (fun hc => ?_) (fun hc => ?_)
  · have hc : ¬ t = -1 := by simpa using hc
    obtain ⟨r, e, k1, k2, k3, k4⟩ := stepR_get hv (show 0 ≤ t by omega) h3 ha
    have htl : t.toNat < m.rows.length := by omega
    refine EvC.rg (by (simp only [go_sem, Mach.cells, k1, rowC, k2, edgeC]) <;> rfl) (by simp; omega) ?_
    apply EvC.drd mixed
    · (simp only [go_sem, hset, hge, intC]) <;> rfl
    · simp [hlen]; omega
    · kernel_rfl
    refine EvC.rg (by (simp only [go_sem]) <;> rfl) (by exact inI64_of (by omega) (by omega)) ?_
    rw [k3] at h5 h6 hlt hge1
    refine ⟨[(0, 0)], (i + 1, e.1, os ++ [e.2], out.set i e.2), rfl, (by (simp only [go_sem, Mach.cells]) <;> rfl), ⟨by simp only; omega, by simp [h2], hlt, hge1, ?_, h6, hset' _⟩, by simp only; omega⟩
    simp only [h5, List.append_assoc]; rfl
  have hc : t = -1 := by simpa using hc
  refine EvC.skip ?_
  apply EvC.drd mixed
  · (simp only [go_sem, hset, hge, intC]) <;> rfl
  · simp [hlen]; omega
  · kernel_rfl
  refine EvC.rg (by (simp only [go_sem]) <;> rfl) (by exact inI64_of (by omega) (by omega)) ?_
  have k3 : stepR m t a = (-1, -1) := by rw [stepR, if_pos (by omega)]
  rw [k3] at h5 h6 hlt hge1
  refine ⟨[(0, 0)], (i + 1, -1, os ++ [-1], out.set i (-1)), rfl, (by (simp only [go_sem, Mach.cells]) <;> rfl), ⟨by simp only; omega, by simp [h2], hlt, hge1, ?_, h6, hset' _⟩, by simp only; omega⟩
  simp only [h5, List.append_assoc]; rfl
theorem runR_len (m : Mach) : ∀ (s : Int) (w : List Int), (runR m s w).length = w.length
  | _, [] => rfl
  | s, a :: w => by simp only [runR, List.length_cons]; rw [runR_len m _ w]
theorem wordErr_zero {n : Int} {w : List Int} (h : wordErr n w = 0) : ∀ a ∈ w, 0 ≤ a ∧ a < n := by
  unfold wordErr at h
  split at h
  · cases h
  · split at h
    · cases h
    · rename_i h2
      simp only [not_or, Bool.not_eq_true, List.any_eq_false] at h2
      intro a ha
      have := h2.2 a ha
      simp at this; omega
theorem wordErr_of {n : Int} {w : List Int} (hn : 1 ≤ n ∧ n ≤ 16) (hl : w.length ≤ 256) (h : ∀ a ∈ w, 0 ≤ a ∧ a < n) : wordErr n w = 0 := by
  have h2 : ¬ (n < 1 ∨ w.any (fun c => decide (c < 0) || decide (n ≤ c)) = true) := by
    simp only [not_or, Bool.not_eq_true, List.any_eq_false]
    exact ⟨by omega, fun a ha => by have := h a ha; simp; omega⟩
  rw [wordErr, if_neg (by omega), if_neg h2]
theorem checkM_of {m : Mach} (hv : Valid m) : checkM m = 0 := by
  have h1 := hv.ins
  have h2 := hv.outs
  have h3 := hv.rows
  have h4 : m.rows.all (rowOk m) = true := by
    rw [List.all_eq_true]
    intro r hr
    obtain ⟨k1, k2⟩ := hv.row r hr
    simp only [rowOk, Bool.and_eq_true, decide_eq_true_eq, Bool.not_eq_true', List.any_eq_false]
    exact ⟨k1, fun e he => by simp [k2 e he]⟩
  rw [checkM, if_neg (by omega), if_neg (by omega), if_pos h4]
theorem stateErr_zero {m : Mach} {l : List Int} (h : stateErr m l = 0) : Valid m ∧ ∀ s ∈ l, 0 ≤ s ∧ s < m.rows.length := by
  unfold stateErr at h
  split at h
  · contradiction
  · rename_i h1
    split at h
    · cases h
    · rename_i h2
      simp only [Bool.not_eq_true, List.any_eq_false] at h2
      exact ⟨.of (by simpa using h1), fun s hs => by have := h2 s hs; simp at this; omega⟩
theorem stateErr_of {m : Mach} {l : List Int} (hv : Valid m) (h : ∀ s ∈ l, 0 ≤ s ∧ s < m.rows.length) : stateErr m l = 0 := by
  have h2 : ¬ l.any (fun x => decide (x < 0) || decide ((m.rows.length : Int) ≤ x)) = true := by
    simp only [Bool.not_eq_true, List.any_eq_false]
    exact fun s hs => by have := h s hs; simp; omega
  rw [stateErr, if_neg (by simp [checkM_of hv]), if_neg h2]
theorem Valid.small {m : Mach} (hv : Valid m) : ∀ r ∈ m.rows, r.2.length < 1000000 := fun r hr => by
  have := (hv.row r hr).1
  have := hv.ins
  omega
theorem run52_is {m : Mach} (hv : Valid m) (s : Int) (hs : 0 ≤ s ∧ s < m.rows.length) (nl : Bool) (w : List Int) (c : Cp) (hw : wordErr m.ins w = 0) (hl : w.length < 1000000) :
    PureIs prog 52 [.ag m.cells, .sc (.int .i64 s), .sl nl (w.map intC) c] (.tu [.sl false ((runR m s w).map intC) .unk, .sc (.int .i64 0)]) := by
  refine PureIs.of (nv := 4) (hid := [6, 7, 8, 9, 10, 16, 23]) func52 rfl (by kernel_rfl) (by simp [ntmps52]) fun _ => ?_
  rw [ntmps52, results52]
  have h1 : stateErr m [s] = 0 := stateErr_of hv (by simpa using hs)
  refine EvC.seq (EvC.rg (by (simp only [go_sem, Mach.cells]) <;> rfl) (by simp) ?_)
  refine EvC.frzB 0 (by (simp only [go_sem]) <;> rfl) ?_
  refine EvC.seq ?_
  apply EvC.seq
  apply EvC.tr
  · apply Tr.run
    · (simp only [go_sem, Mach.cells]) <;> rfl
    · simp
    apply Tr.cons
    · exact .call rfl rfl (by (simp only [go_sem]) <;> rfl) (by (simp only [go_sem]) <;> rfl) (by (simp only [go_sem]) <;> rfl) (by (simp only [go_sem]) <;> rfl) (by (simp only [go_sem]) <;> rfl) (mstate_is m hv.small s)
    apply Tr.done
    · (simp only [go_sem, h1]) <;> rfl
    · simp
  refine EvC.seq (EvC.rg (by (simp only [go_sem]) <;> rfl) (by simp) ?_)
  refine EvC.cond_false (by (simp only [go_sem]) <;> rfl) ?_
  refine EvC.skip ?_
  refine EvC.seq ?_
  apply EvC.seq
  apply EvC.tr
  · apply Tr.run
    · (simp only [go_sem, Mach.cells]) <;> rfl
    · simp
    apply Tr.cons
    · exact .call rfl rfl (by (simp only [go_sem]) <;> rfl) (by (simp only [go_sem]) <;> rfl) (by (simp only [go_sem]) <;> rfl) (by (simp only [go_sem]) <;> rfl) (by (simp only [go_sem]) <;> rfl) (wordCheck_is nl w c m.ins hl)
    apply Tr.done
    · (simp only [go_sem, hw]) <;> rfl
    · simp
  refine EvC.seq (EvC.rg (by (simp only [go_sem]) <;> rfl) (by simp) ?_)
  refine EvC.cond_false (by (simp only [go_sem]) <;> rfl) ?_
  refine EvC.skip ?_
  apply EvC.seq
  apply EvC.tr
  · apply Tr.run
    · (simp only [go_sem, Mach.cells]) <;> rfl
    · simp
    apply Tr.cons
    · exact .call rfl rfl (by (simp only [go_sem]) <;> rfl) (by (simp only [go_sem]) <;> rfl) (by (simp only [go_sem]) <;> rfl) (by (simp only [go_sem]) <;> rfl) (by (simp only [go_sem]) <;> rfl) (run75_is hv s hs.2 (by omega) nl w c (wordErr_zero hw) hl)
    apply Tr.done
    · (simp only [go_sem]) <;> rfl
    · simp
  refine EvC.seq (EvC.rg (by (simp only [go_sem]) <;> rfl) (by simp) ?_)
  refine EvC.ret ⟨.inl rfl, _, (by (simp only [go_sem]) <;> rfl), ?_, rfl⟩
  simp only [go_sem]

theorem after35_is {m : Mach} (hv : Valid m) : ∀ (w : List Int) (s : Int) (nl : Bool) (c : Cp), s < m.rows.length → (∀ a ∈ w, 0 ≤ a ∧ a < m.ins) → w.length < 1000000 →
    PureIs prog 35 [.ag m.cells, .sc (.int .i64 s), .sl nl (w.map intC) c] (.sc (.int .i64 (afterR m s w)))
  | [], s, nl, c, hs, hw, hl => by
    refine PureIs.of (nv := 4) (hid := [6, 9]) func35 rfl (by kernel_rfl) (by simp [ntmps35]) fun _ => ?_
    rw [ntmps35, results35]
    refine EvC.seq (EvC.rg (by (simp only [go_sem, Mach.cells]) <;> rfl) (by simp) ?_)
    refine EvC.frzB 0 (by (simp only [go_sem]) <;> rfl) ?_
    refine EvC.seq ?_
    refine EvC.seq (EvC.rg (by (simp only [go_sem]) <;> rfl) (by simp) ?_)
    refine EvC.cond_true (by (simp only [go_sem]) <;> rfl) ?_
    refine EvC.seq (EvC.rg (by (simp only [go_sem]) <;> rfl) (by simp) ?_)
    refine EvC.ret ⟨.inl rfl, _, (by (simp only [go_sem]) <;> rfl), ?_, rfl⟩
    simp only [go_sem]
    rfl
  | a :: w, s, nl, c, hs, hw, hl => by
    have ha := hw a List.mem_cons_self
    have ih := after35_is hv w (stepR m s a).1 nl (cutTail c) (stepR_lt hv hs ha) (fun b hb => hw b (List.mem_cons_of_mem _ hb)) (by simp at hl; omega)
    refine PureIs.of (nv := 4) (hid := [6, 9]) func35 rfl (by kernel_rfl) (by simp [ntmps35]) fun _ => ?_
    rw [ntmps35, results35]
    refine EvC.seq (EvC.rg (by (simp only [go_sem, Mach.cells]) <;> rfl) (by simp) ?_)
    refine EvC.frzB 0 (by (simp only [go_sem]) <;> rfl) ?_
    refine EvC.seq ?_
    refine EvC.seq (EvC.rg (by (simp only [go_sem]) <;> rfl) (by simp) ?_)
    have h0 : decide (((w.length + 1 : Nat) : Int) = 0) = false := by simp; omega
    refine EvC.cond_false (by (simp only [go_sem, h0]) <;> rfl) ?_
    refine EvC.skip ?_
    apply EvC.seq
    apply EvC.drw mixed
    · apply Tr.run
      · (simp only [go_sem, Mach.cells, intC, edgeA, Option.getD_some]) <;> rfl
      · simp [intC]; try omega
      apply Tr.cons
      · exact .call rfl rfl (by (simp only [go_sem]) <;> rfl) (by (simp only [go_sem]) <;> rfl) (by (simp only [go_sem]) <;> rfl) (by (simp only [go_sem]) <;> rfl) (by (simp only [go_sem]) <;> rfl) (stepR_is hv hs ha)
      apply Tr.run
      · (simp only [go_sem, Mach.cells, intC, edgeA, Option.getD_some]) <;> rfl
      · simp [intC]; try omega
      apply Tr.cons
      · exact .call rfl rfl (by (simp only [go_sem]) <;> rfl) (by (simp only [go_sem]) <;> rfl) (by (simp only [go_sem]) <;> rfl) (by (simp only [go_sem]) <;> rfl) (by (simp only [go_sem]) <;> rfl) (ih)
      apply Tr.done
      · (simp only [go_sem]) <;> rfl
      · simp
    · kernel_rfl
    refine EvC.ret ⟨.inl rfl, _, (by (simp only [go_sem]) <;> rfl), ?_, rfl⟩
    simp only [go_sem]
    rfl
theorem after63_is {m : Mach} (hv : Valid m) (s : Int) (hs : 0 ≤ s ∧ s < m.rows.length) (nl : Bool) (w : List Int) (c : Cp) (hw : wordErr m.ins w = 0) (hl : w.length < 1000000) :
    PureIs prog 63 [.ag m.cells, .sc (.int .i64 s), .sl nl (w.map intC) c] (.tu [.sc (.int .i64 (afterR m s w)), .sc (.int .i64 0)]) := by
  refine PureIs.of (nv := 4) (hid := [6, 7, 8, 9, 11, 16, 23]) func63 rfl (by kernel_rfl) (by simp [ntmps63]) fun _ => ?_
  rw [ntmps63, results63]
  have h1 : stateErr m [s] = 0 := stateErr_of hv (by simpa using hs)
  refine EvC.seq (EvC.rg (by (simp only [go_sem, Mach.cells]) <;> rfl) (by simp) ?_)
  refine EvC.frzB 0 (by (simp only [go_sem]) <;> rfl) ?_
  refine EvC.seq ?_
  apply EvC.seq
  apply EvC.tr
  · apply Tr.run
    · (simp only [go_sem, Mach.cells]) <;> rfl
    · simp
    apply Tr.cons
    · exact .call rfl rfl (by (simp only [go_sem]) <;> rfl) (by (simp only [go_sem]) <;> rfl) (by (simp only [go_sem]) <;> rfl) (by (simp only [go_sem]) <;> rfl) (by (simp only [go_sem]) <;> rfl) (mstate_is m hv.small s)
    apply Tr.done
    · (simp only [go_sem, h1]) <;> rfl
    · simp
  refine EvC.seq (EvC.rg (by (simp only [go_sem]) <;> rfl) (by simp) ?_)
  refine EvC.cond_false (by (simp only [go_sem]) <;> rfl) ?_
  refine EvC.skip ?_
  refine EvC.seq ?_
  apply EvC.seq
  apply EvC.tr
  · apply Tr.run
    · (simp only [go_sem, Mach.cells]) <;> rfl
    · simp
    apply Tr.cons
    · exact .call rfl rfl (by (simp only [go_sem]) <;> rfl) (by (simp only [go_sem]) <;> rfl) (by (simp only [go_sem]) <;> rfl) (by (simp only [go_sem]) <;> rfl) (by (simp only [go_sem]) <;> rfl) (wordCheck_is nl w c m.ins hl)
    apply Tr.done
    · (simp only [go_sem, hw]) <;> rfl
    · simp
  refine EvC.seq (EvC.rg (by (simp only [go_sem]) <;> rfl) (by simp) ?_)
  refine EvC.cond_false (by (simp only [go_sem]) <;> rfl) ?_
  refine EvC.skip ?_
  apply EvC.seq
  apply EvC.tr
  · apply Tr.run
    · (simp only [go_sem, Mach.cells]) <;> rfl
    · simp
    apply Tr.cons
    · exact .call rfl rfl (by (simp only [go_sem]) <;> rfl) (by (simp only [go_sem]) <;> rfl) (by (simp only [go_sem]) <;> rfl) (by (simp only [go_sem]) <;> rfl) (by (simp only [go_sem]) <;> rfl) (run75_is hv s hs.2 (by omega) nl w c (wordErr_zero hw) hl)
    apply Tr.done
    · (simp only [go_sem]) <;> rfl
    · simp
  refine EvC.seq (EvC.rg (by (simp only [go_sem]) <;> rfl) (by simp) ?_)
  refine EvC.ret ⟨.inl rfl, _, (by (simp only [go_sem]) <;> rfl), ?_, rfl⟩
  simp only [go_sem]

end Go.Avl
namespace Go.Avl
open Go Go.Proofs.Tryd
set_option maxRecDepth 10000
set_option linter.unusedSimpArgs false

/-! ### Faults -/
structure FA where
  kind : Int
  state : Int
  input : Int
  to : Int
  at' : Int
  out : Int
def FA.cells (f : FA) : List AV := [.sc (.int .i64 f.kind), .sc (.int .i64 f.state), .sc (.int .i64 f.input), .sc (.int .i64 f.to), .sc (.int .i64 f.at'), .sc (.int .i64 f.out)]
def inN (i n : Int) : Bool := decide (0 ≤ i) && decide (i < n)
def definedB (m : Mach) (s i : Int) : Bool := decide (0 ≤ s) && (decide (s < m.rows.length) && (decide (0 ≤ i) && (decide (i < m.ins) && !decide ((stepM m s i).1 = -1))))
def plainB (f : FA) : Bool :=
  if f.kind = 0 then decide (f.to = 0) && decide (f.at' = 0)
  else if f.kind = 1 then decide (f.at' = 0) && decide (f.out = 0)
  else if f.kind = 2 then decide (f.to = 0) && (decide (f.at' = 0) && decide (f.out = 0))
  else if f.kind = 3 then decide (f.at' = 0) && decide (f.out = 0)
  else if f.kind = 4 then decide (f.to = 0) else false
theorem within85_is (i n : Int) : PureIs prog 85 [.sc (.int .i64 i), .sc (.int .i64 n)] (.sc (.bool (inN i n))) := by
  refine PureIs.of (nv := 2) (hid := [4]) func85 rfl (by kernel_rfl) (by simp [ntmps85]) fun _ => ?_
  rw [ntmps85, results85]
  refine EvC.seq (EvC.rg (by (simp only [go_sem]) <;> rfl) (by simp) ?_)
  apply EvC.seq
  apply EvC.trd
  · (simp only [go_sem]) <;> rfl
  · simp
  refine EvC.ret ⟨.inl rfl, _, (by (simp only [go_sem]) <;> rfl), ?_, rfl⟩
  simp only [go_sem]
  unfold inN
  by_cases h : 0 ≤ i <;> simp [h]
theorem stepM_get {m : Mach} (hv : Valid m) {s i : Int} (hs : 0 ≤ s ∧ s < m.rows.length) (hi : 0 ≤ i ∧ i < m.ins) :
    ∃ r, m.rows[s.toNat]? = some r ∧ r.2[i.toNat]? = some (stepM m s i) ∧ fitsR m.rows.length m.outs (stepM m s i).1 (stepM m s i).2 = true := by
  obtain ⟨r, e, h1, h2, h3, h4⟩ := stepR_get hv hs.1 hs.2 hi
  have : stepR m s i = stepM m s i := by rw [stepR, if_neg (by omega)]; rfl
  rw [← h3, this] at h2 h4
  exact ⟨r, h1, h2, h4⟩
theorem defined84_is {m : Mach} (hv : Valid m) (s i : Int) : PureIs prog 84 [.ag m.cells, .sc (.int .i64 s), .sc (.int .i64 i)] (.sc (.bool (definedB m s i))) := by
  refine PureIs.of (nv := 4) (hid := [6]) func84 rfl (by kernel_rfl) (by simp [ntmps84]) fun _ => ?_
  rw [ntmps84, results84]
  refine EvC.seq (EvC.rg (by (simp only [go_sem, Mach.cells]) <;> rfl) (by simp) ?_)
  refine EvC.frzB 0 (by (simp only [go_sem]) <;> rfl) ?_
  have hn1 := hv.rows
  have hi1 := hv.ins
  cases h1 : m.rows[s.toNat]? with
  | none =>
    have hs : m.rows.length ≤ s.toNat := List.getElem?_eq_none_iff.1 h1
    have d1 : decide (0 ≤ s) = true := decide_eq_true (by omega)
    have d2 : decide (s < (m.rows.length : Int)) = false := decide_eq_false (by omega)
    have hres : definedB m s i = false := by simp [definedB, d1, d2]
    rw [hres]
    apply EvC.seq
    apply EvC.tr
    · apply Tr.run
      · (simp only [go_sem, Mach.cells, List.length_map, h1, d1, d2]) <;> rfl
      · simp
      apply Tr.cons
      · exact .skipv (.ia [.sl false [] .unk]) rfl rfl (by (simp only [go_sem]) <;> rfl) (by (simp only [go_sem]) <;> rfl)
      apply Tr.run
      · (simp only [go_sem, Mach.cells, List.length_map, h1, d1, d2]) <;> rfl
      · simp
      apply Tr.cons
      · exact .skipv (.ia [.sc (.int .i64 0), .sc (.int .i64 0)]) rfl rfl (by (simp only [go_sem]) <;> rfl) (by (simp only [go_sem]) <;> rfl)
      apply Tr.done
      · (simp only [go_sem]) <;> rfl
      · simp
    refine EvC.ret ⟨.inl rfl, _, (by (simp only [go_sem]) <;> rfl), ?_, rfl⟩
    simp only [go_sem]
  | some r =>
    have hsl : s.toNat < m.rows.length := (List.getElem?_eq_some_iff.1 h1).1
    have hrl := (hv.row _ (List.mem_of_getElem? h1)).1
    cases h2 : r.2[i.toNat]? with
    | none =>
      have hi : r.2.length ≤ i.toNat := List.getElem?_eq_none_iff.1 h2
      have d3 : decide (0 ≤ i) = true := decide_eq_true (by omega)
      have d4 : decide (i < m.ins) = false := decide_eq_false (by omega)
      have hres : definedB m s i = false := by simp [definedB, d3, d4]
      rw [hres]
      by_cases h0 : 0 ≤ s
      · have d1 : decide (0 ≤ s) = true := decide_eq_true h0
        have d2 : decide (s < (m.rows.length : Int)) = true := decide_eq_true (by omega)
        apply EvC.seq
        apply EvC.tr
        · apply Tr.run
          · (simp only [go_sem, Mach.cells, rowC, List.length_map, h1, h2, d1, d2, d3, d4]) <;> rfl
          · simp
          apply Tr.cons
          · exact .skipv (.ia [.sc (.int .i64 0), .sc (.int .i64 0)]) rfl rfl (by (simp only [go_sem]) <;> rfl) (by (simp only [go_sem]) <;> rfl)
          apply Tr.done
          · (simp only [go_sem]) <;> rfl
          · simp
        refine EvC.ret ⟨.inl rfl, _, (by (simp only [go_sem]) <;> rfl), ?_, rfl⟩
        simp only [go_sem]
      · have d1 : decide (0 ≤ s) = false := decide_eq_false h0
        apply EvC.seq
        apply EvC.tr
        · apply Tr.run
          · (simp only [go_sem, Mach.cells, rowC, List.length_map, h1, h2, d1, d3, d4]) <;> rfl
          · simp
          apply Tr.cons
          · exact .skipv (.ia [.sc (.int .i64 0), .sc (.int .i64 0)]) rfl rfl (by (simp only [go_sem]) <;> rfl) (by (simp only [go_sem]) <;> rfl)
          apply Tr.done
          · (simp only [go_sem]) <;> rfl
          · simp
        refine EvC.ret ⟨.inl rfl, _, (by (simp only [go_sem]) <;> rfl), ?_, rfl⟩
        simp only [go_sem]
    | some e =>
      have he : stepM m s i = e := by rw [stepM, h1]; simp [h2]
      unfold definedB
      rw [he]
      apply EvC.seq
      apply EvC.trd
      · (simp only [go_sem, Mach.cells, h1, h2, rowC, edgeC, List.length_map]) <;> rfl
      · by_cases k1 : 0 ≤ s <;> by_cases k3 : 0 ≤ i <;> simp [k1, k3]
      refine EvC.ret ⟨.inl rfl, _, (by (simp only [go_sem]) <;> rfl), ?_, rfl⟩
      simp only [go_sem]
      by_cases k1 : 0 ≤ s <;> by_cases k2 : s < m.rows.length <;> by_cases k3 : 0 ≤ i <;> by_cases k4 : i < m.ins <;> simp [k1, k2, k3, k4]
theorem kind_cases (k : Int) : (k = 0 ∨ k = 1 ∨ k = 2 ∨ k = 3 ∨ k = 4) ∨ inN k 5 = false := by
  by_cases h : 0 ≤ k ∧ k < 5
  · exact .inl (by omega)
  · refine .inr ?_
    unfold inN
    rw [Bool.and_eq_false_iff]
    by_cases h1 : 0 ≤ k
    · exact .inr (decide_eq_false fun h2 => h ⟨h1, h2⟩)
    · exact .inl (decide_eq_false h1)
theorem plain83_is (f : FA) : PureIs prog 83 [.ag f.cells] (.sc (.bool (plainB f))) := by
  obtain ⟨k, s, i, t, a, o⟩ := f
  have q := within85_is k 5
  refine PureIs.of (nv := 4) (hid := [7]) func83 rfl (by kernel_rfl) (by simp [ntmps83]) fun _ => ?_
  rw [ntmps83, results83]
  refine EvC.seq (EvC.rg (by (simp only [go_sem, FA.cells]) <;> rfl) (by simp) ?_)
  refine EvC.frzB 0 (by (simp only [go_sem]) <;> rfl) ?_
  refine EvC.seq ?_
  rcases kind_cases k with hk | hk
  rotate_left
  · rw [hk] at q
    have hres : plainB ⟨k, s, i, t, a, o⟩ = false := by
      unfold inN at hk
      rw [Bool.and_eq_false_iff, decide_eq_false_iff_not, decide_eq_false_iff_not] at hk
      unfold plainB
      simp only
      rw [if_neg (by omega), if_neg (by omega), if_neg (by omega), if_neg (by omega), if_neg (by omega)]
    rw [hres]
    apply EvC.seq
    apply EvC.tr
    · apply Tr.run
      · (simp only [go_sem]) <;> rfl
      · simp
      apply Tr.cons
      · exact .call rfl rfl (by (simp only [go_sem]) <;> rfl) (by (simp only [go_sem]) <;> rfl) (by (simp only [go_sem]) <;> rfl) (by (simp only [go_sem]) <;> rfl) (by (simp only [go_sem]) <;> rfl) (q)
      apply Tr.done
      · (simp only [go_sem]) <;> rfl
      · simp
    refine EvC.cond_true (by (simp only [go_sem]) <;> rfl) ?_
    refine EvC.seq (EvC.rg (by (simp only [go_sem]) <;> rfl) (by simp) ?_)
    refine EvC.ret ⟨.inl rfl, _, (by (simp only [go_sem]) <;> rfl), ?_, rfl⟩
    simp only [go_sem]
  have q5 : inN k 5 = true := by unfold inN; simp; omega
  rw [q5] at q
  have n2 : (2 : Int).toNat = 2 := rfl
  have n3 : (3 : Int).toNat = 3 := rfl
  have n4 : (4 : Int).toNat = 4 := rfl
  have n1 : (1 : Int).toNat = 1 := rfl
  have n0 : (0 : Int).toNat = 0 := rfl
  apply EvC.seq
  apply EvC.tr
  · apply Tr.run
    · (simp only [go_sem]) <;> rfl
    · simp
    apply Tr.cons
    · exact .call rfl rfl (by (simp only [go_sem]) <;> rfl) (by (simp only [go_sem]) <;> rfl) (by (simp only [go_sem]) <;> rfl) (by (simp only [go_sem]) <;> rfl) (by (simp only [go_sem]) <;> rfl) (q)
    apply Tr.done
    · (simp only [go_sem]) <;> rfl
    · simp
  refine EvC.cond_false (by (simp only [go_sem]) <;> rfl) ?_
  refine EvC.skip ?_
  rcases hk with rfl | rfl | rfl | rfl | rfl
  all_goals
    refine EvC.seq (EvC.rg (by (simp only [go_sem, kindTab, kindN, n0, n1, n2, n3, n4, Nat.reduceMul]) <;> rfl) (by simp) ?_)
    apply EvC.seq
    apply EvC.trd
    · (simp only [go_sem]) <;> rfl
    · simp
    refine EvC.ret ⟨.inl rfl, _, (by (simp only [go_sem]) <;> rfl), ?_, rfl⟩
    simp only [go_sem]
    unfold plainB
    by_cases e1 : t = 0 <;> by_cases e2 : a = 0 <;> by_cases e3 : o = 0 <;> simp [e1, e2, e3]
end Go.Avl
namespace Go.Avl
open Go Go.Proofs.Tryd
set_option maxRecDepth 10000
set_option linter.unusedSimpArgs false

/-- What a fault of some kind must be besides. -/
def kindB (m : Mach) (f : FA) : Bool :=
  if f.kind = 0 then inN f.out m.outs && !decide (f.out = (stepM m f.state f.input).2)
  else if f.kind = 1 then inN f.to m.rows.length && !decide (f.to = (stepM m f.state f.input).1)
  else if f.kind = 2 then true
  else if f.kind = 3 then inN f.to m.rows.length
  else inN f.out m.outs && (definedB m (stepM m f.state f.input).1 f.at' && !decide (f.out = (stepM m (stepM m f.state f.input).1 f.at').2))
def faultB (m : Mach) (f : FA) : Bool := plainB f && (definedB m f.state f.input && kindB m f)
def checkF (m : Mach) (f : FA) : Int := if faultB m f = true then (if 3 ≤ f.kind ∧ m.rows.length = 64 then 3 else 0) else 1
theorem definedB_iff {m : Mach} {s i : Int} : definedB m s i = true ↔ (0 ≤ s ∧ s < m.rows.length) ∧ (0 ≤ i ∧ i < m.ins) ∧ (stepM m s i).1 ≠ -1 := by
  unfold definedB
  simp only [Bool.and_eq_true, decide_eq_true_eq, Bool.not_eq_true', decide_eq_false_iff_not]
  constructor
  · rintro ⟨a, b, c, d, e⟩; exact ⟨⟨a, b⟩, ⟨c, d⟩, e⟩
  · rintro ⟨⟨a, b⟩, ⟨c, d⟩, e⟩; exact ⟨a, b, c, d, e⟩
theorem step_in {m : Mach} (hv : Valid m) {s i : Int} (hd : definedB m s i = true) : ∃ r, m.rows[s.toNat]? = some r ∧ r.2[i.toNat]? = some (stepM m s i) ∧ (0 ≤ (stepM m s i).1 ∧ (stepM m s i).1 < m.rows.length) := by
  obtain ⟨h1, h2, h3⟩ := definedB_iff.1 hd
  obtain ⟨r, k1, k2, k3⟩ := stepM_get hv h1 h2
  refine ⟨r, k1, k2, ?_⟩
  unfold fitsR at k3
  simp only [Bool.or_eq_true, Bool.and_eq_true, decide_eq_true_eq] at k3
  omega
theorem plainB_kind {f : FA} (h : plainB f = true) : f.kind = 0 ∨ f.kind = 1 ∨ f.kind = 2 ∨ f.kind = 3 ∨ f.kind = 4 := by
  unfold plainB at h
  by_cases h0 : f.kind = 0
  · exact .inl h0
  by_cases h1 : f.kind = 1
  · exact .inr (.inl h1)
  by_cases h2 : f.kind = 2
  · exact .inr (.inr (.inl h2))
  by_cases h3 : f.kind = 3
  · exact .inr (.inr (.inr (.inl h3)))
  by_cases h4 : f.kind = 4
  · exact .inr (.inr (.inr (.inr h4)))
  simp [h0, h1, h2, h3, h4] at h
theorem plainB_at {f : FA} (h : plainB f = true) (hk : f.kind ≠ 4) : f.at' = 0 := by
  unfold plainB at h
  by_cases h0 : f.kind = 0
  · simp [h0] at h; exact h.2
  by_cases h1 : f.kind = 1
  · simp [h1] at h; exact h.1
  by_cases h2 : f.kind = 2
  · simp [h2] at h; exact h.2.1
  by_cases h3 : f.kind = 3
  · simp [h3] at h; exact h.1
  simp [h0, h1, h2, h3, hk] at h

set_option maxHeartbeats 4000000 in
theorem check78_is {m : Mach} (hv : Valid m) (hc0 : checkM m = 0) (f : FA) : PureIs prog 78 [.ag m.cells, .ag f.cells] (.sc (.int .i64 (checkF m f))) := by
  have q0 := check_is m fun r hr => by have := (hv.row r hr).1; have := hv.ins; omega
  rw [hc0] at q0
  obtain ⟨kd, s, i, t, a, o⟩ := f
  refine PureIs.of (nv := 8) (hid := [11, 24, 74, 117, 126]) func78 rfl (by kernel_rfl) (by simp [ntmps78]) fun _ => ?_
  rw [ntmps78, results78]
  refine EvC.seq (EvC.rg (by (simp only [go_sem, Mach.cells, FA.cells]) <;> rfl) (by simp) ?_)
  refine EvC.frzB 0 (by (simp only [go_sem]) <;> rfl) ?_
  refine EvC.frzB 1 (by (simp only [go_sem]) <;> rfl) ?_
  refine EvC.seq ?_
  apply EvC.seq
  apply EvC.tr
  · apply Tr.run
    · (simp only [go_sem, Mach.cells]) <;> rfl
    · simp
    apply Tr.cons
    · exact .call rfl rfl (by (simp only [go_sem]) <;> rfl) (by (simp only [go_sem]) <;> rfl) (by (simp only [go_sem]) <;> rfl) (by (simp only [go_sem]) <;> rfl) (by (simp only [go_sem]) <;> rfl) (q0)
    apply Tr.done
    · (simp only [go_sem]) <;> rfl
    · simp
  refine EvC.seq (EvC.rg (by (simp only [go_sem]) <;> rfl) (by simp) ?_)
  refine EvC.cond_false (by (simp only [go_sem]) <;> rfl) ?_
  refine EvC.skip ?_
  refine EvC.seq ?_
  have qp := plain83_is ⟨kd, s, i, t, a, o⟩
  cases hp : plainB ⟨kd, s, i, t, a, o⟩ with
  | false =>
    rw [hp] at qp
    have hres : checkF m ⟨kd, s, i, t, a, o⟩ = 1 := by unfold checkF faultB; rw [hp]; rfl
    rw [hres]
    apply EvC.seq
    apply EvC.tr
    · apply Tr.run
      · (simp only [go_sem, FA.cells, Mach.cells]) <;> rfl
      · simp
      apply Tr.cons
      · exact .call rfl rfl (by (simp only [go_sem]) <;> rfl) (by (simp only [go_sem]) <;> rfl) (by (simp only [go_sem]) <;> rfl) (by (simp only [go_sem]) <;> rfl) (by (simp only [go_sem]) <;> rfl) (qp)
      apply Tr.run
      · (simp only [go_sem, FA.cells, Mach.cells]) <;> rfl
      · simp
      apply Tr.cons
      · exact .skipv (.sc (.bool false)) rfl rfl (by (simp only [go_sem]) <;> rfl) (by (simp only [go_sem]) <;> rfl)
      apply Tr.done
      · (simp only [go_sem]) <;> rfl
      · simp
    refine EvC.cond_true (by (simp only [go_sem]) <;> rfl) ?_
    refine EvC.seq (EvC.rg (by (simp only [go_sem]) <;> rfl) (by simp) ?_)
    refine EvC.ret ⟨.inl rfl, _, (by (simp only [go_sem]) <;> rfl), ?_, rfl⟩
    simp only [go_sem]
  | true =>
  rw [hp] at qp
  have qd := defined84_is hv s i
  cases hd : definedB m s i with
  | false =>
    rw [hd] at qd
    have hres : checkF m ⟨kd, s, i, t, a, o⟩ = 1 := by unfold checkF faultB; simp only; rw [hp, hd]; rfl
    rw [hres]
    apply EvC.seq
    apply EvC.tr
    · apply Tr.run
      · (simp only [go_sem, FA.cells, Mach.cells]) <;> rfl
      · simp
      apply Tr.cons
      · exact .call rfl rfl (by (simp only [go_sem]) <;> rfl) (by (simp only [go_sem]) <;> rfl) (by (simp only [go_sem]) <;> rfl) (by (simp only [go_sem]) <;> rfl) (by (simp only [go_sem]) <;> rfl) (qp)
      apply Tr.run
      · (simp only [go_sem, FA.cells, Mach.cells]) <;> rfl
      · simp
      apply Tr.cons
      · exact .callG rfl rfl (by (simp only [go_sem]) <;> rfl) rfl (by (simp only [go_sem]) <;> rfl) (by (simp only [go_sem]) <;> rfl) (by (simp only [go_sem]) <;> rfl) (by (simp only [go_sem]) <;> rfl) (by (simp only [go_sem]) <;> rfl) (qd)
      apply Tr.done
      · (simp only [go_sem]) <;> rfl
      · simp
    refine EvC.cond_true (by (simp only [go_sem]) <;> rfl) ?_
    refine EvC.seq (EvC.rg (by (simp only [go_sem]) <;> rfl) (by simp) ?_)
    refine EvC.ret ⟨.inl rfl, _, (by (simp only [go_sem]) <;> rfl), ?_, rfl⟩
    simp only [go_sem]
  | true =>
  rw [hd] at qd
  have hck : checkF m ⟨kd, s, i, t, a, o⟩ = if kindB m ⟨kd, s, i, t, a, o⟩ = true then (if 3 ≤ kd ∧ m.rows.length = 64 then 3 else 0) else 1 := by unfold checkF faultB; simp only; rw [hp, hd]; rfl
  rw [hck]
  clear hck
  apply EvC.seq
  apply EvC.tr
  · apply Tr.run
    · (simp only [go_sem, FA.cells, Mach.cells]) <;> rfl
    · simp
    apply Tr.cons
    · exact .call rfl rfl (by (simp only [go_sem]) <;> rfl) (by (simp only [go_sem]) <;> rfl) (by (simp only [go_sem]) <;> rfl) (by (simp only [go_sem]) <;> rfl) (by (simp only [go_sem]) <;> rfl) (qp)
    apply Tr.run
    · (simp only [go_sem, FA.cells, Mach.cells]) <;> rfl
    · simp
    apply Tr.cons
    · exact .callG rfl rfl (by (simp only [go_sem]) <;> rfl) rfl (by (simp only [go_sem]) <;> rfl) (by (simp only [go_sem]) <;> rfl) (by (simp only [go_sem]) <;> rfl) (by (simp only [go_sem]) <;> rfl) (by (simp only [go_sem]) <;> rfl) (qd)
    apply Tr.done
    · (simp only [go_sem]) <;> rfl
    · simp
  refine EvC.cond_false (by (simp only [go_sem]) <;> rfl) ?_
  refine EvC.skip ?_
  obtain ⟨r, h1, h2, he⟩ := step_in hv hd
  obtain ⟨b1, b2, _⟩ := definedB_iff.1 hd
  have hkd := plainB_kind hp
  have hat : kd ≠ 4 → a = 0 := fun h => plainB_at hp h
  simp only at hkd
  unfold kindB
  simp only
  generalize stepM m s i = e at *
  -- the edge behind
  have h3 : m.rows[e.1.toNat]? = some (m.rows[e.1.toNat]'(by omega)) := List.getElem?_eq_getElem (by omega)
  have hrl := (hv.row _ (List.getElem_mem (show e.1.toNat < m.rows.length by omega))).1
  generalize m.rows[e.1.toNat]'(by omega) = r3 at h3 hrl
  have hsm : stepM m e.1 a = (r3.2[a.toNat]?).getD (-1, -1) := by rw [stepM, h3]; rfl
  have hi1 := hv.ins
  have hro1 := hv.rows
  apply EvC.seq
  apply EvC.drd mixed
  · (simp only [go_sem, h1, h2, rowC, edgeC, List.length_map]) <;> rfl
  · simp; try omega
  · kernel_rfl
  refine EvC.frzB 30 (by (simp only [go_sem]) <;> rfl) ?_
  have n2 : (2 : Int).toNat = 2 := rfl
  have n3 : (3 : Int).toNat = 3 := rfl
  have n4 : (4 : Int).toNat = 4 := rfl
  have n1 : (1 : Int).toNat = 1 := rfl
  have n0 : (0 : Int).toNat = 0 := rfl
  have qt := within85_is t m.rows.length
  have qo := within85_is o m.outs
  have d64 : decide ((m.rows.length : Int) = 64) = decide (m.rows.length = 64) := decide_eq_decide.2 (by omega)
  rcases hkd with rfl | rfl | rfl | rfl | rfl
  · -- output
    obtain rfl := hat (by decide)
    have h4 : r3.2[0]? = some (r3.2[0]'(by omega)) := List.getElem?_eq_getElem (by omega)
    generalize r3.2[0]'(by omega) = e4 at h4
    rw [if_pos rfl]
    refine EvC.seq (EvC.rg (by (simp only [go_sem, kindTab, kindN, n0, n1, n2, n3, n4, Nat.reduceMul]) <;> rfl) (by simp) ?_)
    refine EvC.frzB 36 (by (simp only [go_sem]) <;> rfl) ?_
    refine EvC.seq ?_
    cases hq : inN o m.outs with
    | false =>
      rw [hq] at qo
      apply EvC.seq
      apply EvC.tr
      · apply Tr.run
        · (simp only [go_sem, FA.cells, Mach.cells, List.length_map]) <;> rfl
        · simp
        apply Tr.cons
        · exact .skipv (.sc (.bool false)) rfl rfl (by (simp only [go_sem]) <;> rfl) (by (simp only [go_sem]) <;> rfl)
        apply Tr.run
        · (simp only [go_sem, FA.cells, Mach.cells, List.length_map]) <;> rfl
        · simp
        apply Tr.cons
        · exact .callG rfl rfl (by (simp only [go_sem]) <;> rfl) rfl (by (simp only [go_sem]) <;> rfl) (by (simp only [go_sem]) <;> rfl) (by (simp only [go_sem]) <;> rfl) (by (simp only [go_sem]) <;> rfl) (by (simp only [go_sem]) <;> rfl) (qo)
        apply Tr.run
        · (simp only [go_sem, FA.cells, Mach.cells, List.length_map]) <;> rfl
        · simp
        apply Tr.cons
        · exact .skipv (.sc (.bool false)) rfl rfl (by (simp only [go_sem]) <;> rfl) (by (simp only [go_sem]) <;> rfl)
        apply Tr.done
        · (simp only [go_sem]) <;> rfl
        · simp
      refine EvC.cond_true (by (simp only [go_sem]) <;> rfl) ?_
      refine EvC.seq (EvC.rg (by (simp only [go_sem]) <;> rfl) (by simp) ?_)
      refine EvC.ret ⟨.inl rfl, _, (by (simp only [go_sem]) <;> rfl), ?_, rfl⟩
      simp only [go_sem]
    | true =>
    rw [hq] at qo
    apply EvC.seq
    apply EvC.tr
    · apply Tr.run
      · (simp only [go_sem, FA.cells, Mach.cells, List.length_map]) <;> rfl
      · simp
      apply Tr.cons
      · exact .skipv (.sc (.bool false)) rfl rfl (by (simp only [go_sem]) <;> rfl) (by (simp only [go_sem]) <;> rfl)
      apply Tr.run
      · (simp only [go_sem, FA.cells, Mach.cells, List.length_map]) <;> rfl
      · simp
      apply Tr.cons
      · exact .callG rfl rfl (by (simp only [go_sem]) <;> rfl) rfl (by (simp only [go_sem]) <;> rfl) (by (simp only [go_sem]) <;> rfl) (by (simp only [go_sem]) <;> rfl) (by (simp only [go_sem]) <;> rfl) (by (simp only [go_sem]) <;> rfl) (qo)
      apply Tr.run
      · (simp only [go_sem, FA.cells, Mach.cells, List.length_map]) <;> rfl
      · simp
      apply Tr.cons
      · exact .skipv (.sc (.bool false)) rfl rfl (by (simp only [go_sem]) <;> rfl) (by (simp only [go_sem]) <;> rfl)
      apply Tr.done
      · (simp only [go_sem]) <;> rfl
      · simp
    refine EvC.cond_false (by (simp only [go_sem]) <;> rfl) ?_
    refine EvC.skip ?_
    refine EvC.seq ?_
    apply EvC.seq
    apply EvC.drd mixed
    · (simp only [go_sem, h3, h4, rowC, edgeC, n0, List.length_map]) <;> rfl
    · simp; try omega
    · kernel_rfl
    refine EvC.cond (by (simp only [go_sem]) <;> rfl) (fun hc => ?_) (fun hc => ?_)
    · have hc' : o = e.2 := by simpa using hc
      refine EvC.seq (EvC.rg (by (simp only [go_sem]) <;> rfl) (by simp) ?_)
      refine EvC.ret ⟨.inl rfl, _, (by (simp only [go_sem]) <;> rfl), ?_, rfl⟩
      simp only [go_sem]
      simp [hc']
    have hc' : ¬ o = e.2 := by simpa using hc
    refine EvC.skip ?_
    refine EvC.seq ?_
    apply EvC.seq
    apply EvC.trd
    · (simp only [go_sem, List.length_map]) <;> rfl
    · simp
    refine EvC.cond_false (by (simp only [go_sem]) <;> rfl) ?_
    refine EvC.skip ?_
    refine EvC.seq (EvC.rg (by (simp only [go_sem]) <;> rfl) (by simp) ?_)
    refine EvC.ret ⟨.inl rfl, _, (by (simp only [go_sem]) <;> rfl), ?_, rfl⟩
    simp only [go_sem]
    simp [hc']
  · -- transfer
    obtain rfl := hat (by decide)
    have h4 : r3.2[0]? = some (r3.2[0]'(by omega)) := List.getElem?_eq_getElem (by omega)
    generalize r3.2[0]'(by omega) = e4 at h4
    rw [if_neg (show ¬ (1 : Int) = 0 by decide), if_pos (show (1 : Int) = 1 from rfl)]
    refine EvC.seq (EvC.rg (by (simp only [go_sem, kindTab, kindN, n0, n1, n2, n3, n4, Nat.reduceMul]) <;> rfl) (by simp) ?_)
    refine EvC.frzB 36 (by (simp only [go_sem]) <;> rfl) ?_
    refine EvC.seq ?_
    cases hq : inN t m.rows.length with
    | false =>
      rw [hq] at qt
      apply EvC.seq
      apply EvC.tr
      · apply Tr.run
        · (simp only [go_sem, FA.cells, Mach.cells, List.length_map]) <;> rfl
        · simp
        apply Tr.cons
        · exact .callG rfl rfl (by (simp only [go_sem]) <;> rfl) rfl (by (simp only [go_sem]) <;> rfl) (by (simp only [go_sem]) <;> rfl) (by (simp only [go_sem]) <;> rfl) (by (simp only [go_sem]) <;> rfl) (by (simp only [go_sem]) <;> rfl) (qt)
        apply Tr.run
        · (simp only [go_sem, FA.cells, Mach.cells, List.length_map]) <;> rfl
        · simp
        apply Tr.cons
        · exact .skipv (.sc (.bool false)) rfl rfl (by (simp only [go_sem]) <;> rfl) (by (simp only [go_sem]) <;> rfl)
        apply Tr.run
        · (simp only [go_sem, FA.cells, Mach.cells, List.length_map]) <;> rfl
        · simp
        apply Tr.cons
        · exact .skipv (.sc (.bool false)) rfl rfl (by (simp only [go_sem]) <;> rfl) (by (simp only [go_sem]) <;> rfl)
        apply Tr.done
        · (simp only [go_sem]) <;> rfl
        · simp
      refine EvC.cond_true (by (simp only [go_sem]) <;> rfl) ?_
      refine EvC.seq (EvC.rg (by (simp only [go_sem]) <;> rfl) (by simp) ?_)
      refine EvC.ret ⟨.inl rfl, _, (by (simp only [go_sem]) <;> rfl), ?_, rfl⟩
      simp only [go_sem]
    | true =>
    rw [hq] at qt
    apply EvC.seq
    apply EvC.tr
    · apply Tr.run
      · (simp only [go_sem, FA.cells, Mach.cells, List.length_map]) <;> rfl
      · simp
      apply Tr.cons
      · exact .callG rfl rfl (by (simp only [go_sem]) <;> rfl) rfl (by (simp only [go_sem]) <;> rfl) (by (simp only [go_sem]) <;> rfl) (by (simp only [go_sem]) <;> rfl) (by (simp only [go_sem]) <;> rfl) (by (simp only [go_sem]) <;> rfl) (qt)
      apply Tr.run
      · (simp only [go_sem, FA.cells, Mach.cells, List.length_map]) <;> rfl
      · simp
      apply Tr.cons
      · exact .skipv (.sc (.bool false)) rfl rfl (by (simp only [go_sem]) <;> rfl) (by (simp only [go_sem]) <;> rfl)
      apply Tr.run
      · (simp only [go_sem, FA.cells, Mach.cells, List.length_map]) <;> rfl
      · simp
      apply Tr.cons
      · exact .skipv (.sc (.bool false)) rfl rfl (by (simp only [go_sem]) <;> rfl) (by (simp only [go_sem]) <;> rfl)
      apply Tr.done
      · (simp only [go_sem]) <;> rfl
      · simp
    refine EvC.cond_false (by (simp only [go_sem]) <;> rfl) ?_
    refine EvC.skip ?_
    refine EvC.seq ?_
    apply EvC.seq
    apply EvC.drd mixed
    · (simp only [go_sem, h3, h4, rowC, edgeC, n0, List.length_map]) <;> rfl
    · simp; try omega
    · kernel_rfl
    refine EvC.cond (by (simp only [go_sem]) <;> rfl) (fun hc => ?_) (fun hc => ?_)
    · have hc' : t = e.1 := by simpa using hc
      refine EvC.seq (EvC.rg (by (simp only [go_sem]) <;> rfl) (by simp) ?_)
      refine EvC.ret ⟨.inl rfl, _, (by (simp only [go_sem]) <;> rfl), ?_, rfl⟩
      simp only [go_sem]
      simp [hc']
    have hc' : ¬ t = e.1 := by simpa using hc
    refine EvC.skip ?_
    refine EvC.seq ?_
    apply EvC.seq
    apply EvC.trd
    · (simp only [go_sem, List.length_map]) <;> rfl
    · simp
    refine EvC.cond_false (by (simp only [go_sem]) <;> rfl) ?_
    refine EvC.skip ?_
    refine EvC.seq (EvC.rg (by (simp only [go_sem]) <;> rfl) (by simp) ?_)
    refine EvC.ret ⟨.inl rfl, _, (by (simp only [go_sem]) <;> rfl), ?_, rfl⟩
    simp only [go_sem]
    simp [hc']
  · -- missing
    obtain rfl := hat (by decide)
    have h4 : r3.2[0]? = some (r3.2[0]'(by omega)) := List.getElem?_eq_getElem (by omega)
    generalize r3.2[0]'(by omega) = e4 at h4
    rw [if_neg (show ¬ (2 : Int) = 0 by decide), if_neg (show ¬ (2 : Int) = 1 by decide), if_pos (show (2 : Int) = 2 from rfl)]
    refine EvC.seq (EvC.rg (by (simp only [go_sem, kindTab, kindN, n0, n1, n2, n3, n4, Nat.reduceMul]) <;> rfl) (by simp) ?_)
    refine EvC.frzB 36 (by (simp only [go_sem]) <;> rfl) ?_
    refine EvC.seq ?_
    apply EvC.seq
    apply EvC.tr
    · apply Tr.run
      · (simp only [go_sem, FA.cells, Mach.cells, List.length_map]) <;> rfl
      · simp
      apply Tr.cons
      · exact .skipv (.sc (.bool false)) rfl rfl (by (simp only [go_sem]) <;> rfl) (by (simp only [go_sem]) <;> rfl)
      apply Tr.run
      · (simp only [go_sem, FA.cells, Mach.cells, List.length_map]) <;> rfl
      · simp
      apply Tr.cons
      · exact .skipv (.sc (.bool false)) rfl rfl (by (simp only [go_sem]) <;> rfl) (by (simp only [go_sem]) <;> rfl)
      apply Tr.run
      · (simp only [go_sem, FA.cells, Mach.cells, List.length_map]) <;> rfl
      · simp
      apply Tr.cons
      · exact .skipv (.sc (.bool false)) rfl rfl (by (simp only [go_sem]) <;> rfl) (by (simp only [go_sem]) <;> rfl)
      apply Tr.done
      · (simp only [go_sem]) <;> rfl
      · simp
    refine EvC.cond_false (by (simp only [go_sem]) <;> rfl) ?_
    refine EvC.skip ?_
    refine EvC.seq ?_
    apply EvC.seq
    apply EvC.drd mixed
    · (simp only [go_sem, h3, h4, rowC, edgeC, n0, List.length_map]) <;> rfl
    · simp; try omega
    · kernel_rfl
    refine EvC.cond_false (by (simp only [go_sem]) <;> rfl) ?_
    refine EvC.skip ?_
    refine EvC.seq ?_
    apply EvC.seq
    apply EvC.trd
    · (simp only [go_sem, List.length_map]) <;> rfl
    · simp
    refine EvC.cond_false (by (simp only [go_sem]) <;> rfl) ?_
    refine EvC.skip ?_
    refine EvC.seq (EvC.rg (by (simp only [go_sem]) <;> rfl) (by simp) ?_)
    refine EvC.ret ⟨.inl rfl, _, (by (simp only [go_sem]) <;> rfl), ?_, rfl⟩
    simp only [go_sem]
    simp
  · -- extra
    obtain rfl := hat (by decide)
    have h4 : r3.2[0]? = some (r3.2[0]'(by omega)) := List.getElem?_eq_getElem (by omega)
    generalize r3.2[0]'(by omega) = e4 at h4
    rw [if_neg (show ¬ (3 : Int) = 0 by decide), if_neg (show ¬ (3 : Int) = 1 by decide), if_neg (show ¬ (3 : Int) = 2 by decide), if_pos (show (3 : Int) = 3 from rfl)]
    refine EvC.seq (EvC.rg (by (simp only [go_sem, kindTab, kindN, n0, n1, n2, n3, n4, Nat.reduceMul]) <;> rfl) (by simp) ?_)
    refine EvC.frzB 36 (by (simp only [go_sem]) <;> rfl) ?_
    refine EvC.seq ?_
    cases hq : inN t m.rows.length with
    | false =>
      rw [hq] at qt
      apply EvC.seq
      apply EvC.tr
      · apply Tr.run
        · (simp only [go_sem, FA.cells, Mach.cells, List.length_map]) <;> rfl
        · simp
        apply Tr.cons
        · exact .callG rfl rfl (by (simp only [go_sem]) <;> rfl) rfl (by (simp only [go_sem]) <;> rfl) (by (simp only [go_sem]) <;> rfl) (by (simp only [go_sem]) <;> rfl) (by (simp only [go_sem]) <;> rfl) (by (simp only [go_sem]) <;> rfl) (qt)
        apply Tr.run
        · (simp only [go_sem, FA.cells, Mach.cells, List.length_map]) <;> rfl
        · simp
        apply Tr.cons
        · exact .skipv (.sc (.bool false)) rfl rfl (by (simp only [go_sem]) <;> rfl) (by (simp only [go_sem]) <;> rfl)
        apply Tr.run
        · (simp only [go_sem, FA.cells, Mach.cells, List.length_map]) <;> rfl
        · simp
        apply Tr.cons
        · exact .skipv (.sc (.bool false)) rfl rfl (by (simp only [go_sem]) <;> rfl) (by (simp only [go_sem]) <;> rfl)
        apply Tr.done
        · (simp only [go_sem]) <;> rfl
        · simp
      refine EvC.cond_true (by (simp only [go_sem]) <;> rfl) ?_
      refine EvC.seq (EvC.rg (by (simp only [go_sem]) <;> rfl) (by simp) ?_)
      refine EvC.ret ⟨.inl rfl, _, (by (simp only [go_sem]) <;> rfl), ?_, rfl⟩
      simp only [go_sem]
    | true =>
    rw [hq] at qt
    apply EvC.seq
    apply EvC.tr
    · apply Tr.run
      · (simp only [go_sem, FA.cells, Mach.cells, List.length_map]) <;> rfl
      · simp
      apply Tr.cons
      · exact .callG rfl rfl (by (simp only [go_sem]) <;> rfl) rfl (by (simp only [go_sem]) <;> rfl) (by (simp only [go_sem]) <;> rfl) (by (simp only [go_sem]) <;> rfl) (by (simp only [go_sem]) <;> rfl) (by (simp only [go_sem]) <;> rfl) (qt)
      apply Tr.run
      · (simp only [go_sem, FA.cells, Mach.cells, List.length_map]) <;> rfl
      · simp
      apply Tr.cons
      · exact .skipv (.sc (.bool false)) rfl rfl (by (simp only [go_sem]) <;> rfl) (by (simp only [go_sem]) <;> rfl)
      apply Tr.run
      · (simp only [go_sem, FA.cells, Mach.cells, List.length_map]) <;> rfl
      · simp
      apply Tr.cons
      · exact .skipv (.sc (.bool false)) rfl rfl (by (simp only [go_sem]) <;> rfl) (by (simp only [go_sem]) <;> rfl)
      apply Tr.done
      · (simp only [go_sem]) <;> rfl
      · simp
    refine EvC.cond_false (by (simp only [go_sem]) <;> rfl) ?_
    refine EvC.skip ?_
    refine EvC.seq ?_
    apply EvC.seq
    apply EvC.drd mixed
    · (simp only [go_sem, h3, h4, rowC, edgeC, n0, List.length_map]) <;> rfl
    · simp; try omega
    · kernel_rfl
    refine EvC.cond_false (by (simp only [go_sem]) <;> rfl) ?_
    refine EvC.skip ?_
    refine EvC.seq ?_
    by_cases h64 : m.rows.length = 64
    · have d : decide ((m.rows.length : Int) = 64) = true := decide_eq_true (by omega)
      apply EvC.seq
      apply EvC.trd
      · (simp only [go_sem, List.length_map, d]) <;> rfl
      · simp
      refine EvC.cond_true (by (simp only [go_sem]) <;> rfl) ?_
      refine EvC.seq (EvC.rg (by (simp only [go_sem]) <;> rfl) (by simp) ?_)
      refine EvC.ret ⟨.inl rfl, _, (by (simp only [go_sem]) <;> rfl), ?_, rfl⟩
      simp only [go_sem]
      simp [h64]
    · have d : decide ((m.rows.length : Int) = 64) = false := decide_eq_false (by omega)
      apply EvC.seq
      apply EvC.trd
      · (simp only [go_sem, List.length_map, d]) <;> rfl
      · simp
      refine EvC.cond_false (by (simp only [go_sem]) <;> rfl) ?_
      refine EvC.skip ?_
      refine EvC.seq (EvC.rg (by (simp only [go_sem]) <;> rfl) (by simp) ?_)
      refine EvC.ret ⟨.inl rfl, _, (by (simp only [go_sem]) <;> rfl), ?_, rfl⟩
      simp only [go_sem]
      simp [h64]
  · -- deep
    rw [if_neg (show ¬ (4 : Int) = 0 by decide), if_neg (show ¬ (4 : Int) = 1 by decide), if_neg (show ¬ (4 : Int) = 2 by decide), if_neg (show ¬ (4 : Int) = 3 by decide)]
    have qd2 := defined84_is hv e.1 a
    rw [hsm]
    refine EvC.seq (EvC.rg (by (simp only [go_sem, kindTab, kindN, n0, n1, n2, n3, n4, Nat.reduceMul]) <;> rfl) (by simp) ?_)
    refine EvC.frzB 36 (by (simp only [go_sem]) <;> rfl) ?_
    refine EvC.seq ?_
    cases hq : inN o m.outs with
    | false =>
      rw [hq] at qo
      apply EvC.seq
      apply EvC.tr
      · apply Tr.run
        · (simp only [go_sem, FA.cells, Mach.cells, List.length_map]) <;> rfl
        · simp
        apply Tr.cons
        · exact .skipv (.sc (.bool false)) rfl rfl (by (simp only [go_sem]) <;> rfl) (by (simp only [go_sem]) <;> rfl)
        apply Tr.run
        · (simp only [go_sem, FA.cells, Mach.cells, List.length_map]) <;> rfl
        · simp
        apply Tr.cons
        · exact .callG rfl rfl (by (simp only [go_sem]) <;> rfl) rfl (by (simp only [go_sem]) <;> rfl) (by (simp only [go_sem]) <;> rfl) (by (simp only [go_sem]) <;> rfl) (by (simp only [go_sem]) <;> rfl) (by (simp only [go_sem]) <;> rfl) (qo)
        apply Tr.run
        · (simp only [go_sem, FA.cells, Mach.cells, List.length_map]) <;> rfl
        · simp
        apply Tr.cons
        · exact .skipv (.sc (.bool false)) rfl rfl (by (simp only [go_sem]) <;> rfl) (by (simp only [go_sem]) <;> rfl)
        apply Tr.done
        · (simp only [go_sem]) <;> rfl
        · simp
      refine EvC.cond_true (by (simp only [go_sem]) <;> rfl) ?_
      refine EvC.seq (EvC.rg (by (simp only [go_sem]) <;> rfl) (by simp) ?_)
      refine EvC.ret ⟨.inl rfl, _, (by (simp only [go_sem]) <;> rfl), ?_, rfl⟩
      simp only [go_sem]
    | true =>
    rw [hq] at qo
    cases hq2 : definedB m e.1 a with
    | false =>
      rw [hq2] at qd2
      apply EvC.seq
      apply EvC.tr
      · apply Tr.run
        · (simp only [go_sem, FA.cells, Mach.cells, List.length_map]) <;> rfl
        · simp
        apply Tr.cons
        · exact .skipv (.sc (.bool false)) rfl rfl (by (simp only [go_sem]) <;> rfl) (by (simp only [go_sem]) <;> rfl)
        apply Tr.run
        · (simp only [go_sem, FA.cells, Mach.cells, List.length_map]) <;> rfl
        · simp
        apply Tr.cons
        · exact .callG rfl rfl (by (simp only [go_sem]) <;> rfl) rfl (by (simp only [go_sem]) <;> rfl) (by (simp only [go_sem]) <;> rfl) (by (simp only [go_sem]) <;> rfl) (by (simp only [go_sem]) <;> rfl) (by (simp only [go_sem]) <;> rfl) (qo)
        apply Tr.run
        · (simp only [go_sem, FA.cells, Mach.cells, List.length_map]) <;> rfl
        · simp
        apply Tr.cons
        · exact .callG rfl rfl (by (simp only [go_sem]) <;> rfl) rfl (by (simp only [go_sem]) <;> rfl) (by (simp only [go_sem]) <;> rfl) (by (simp only [go_sem]) <;> rfl) (by (simp only [go_sem]) <;> rfl) (by (simp only [go_sem]) <;> rfl) (qd2)
        apply Tr.done
        · (simp only [go_sem]) <;> rfl
        · simp
      refine EvC.cond_true (by (simp only [go_sem]) <;> rfl) ?_
      refine EvC.seq (EvC.rg (by (simp only [go_sem]) <;> rfl) (by simp) ?_)
      refine EvC.ret ⟨.inl rfl, _, (by (simp only [go_sem]) <;> rfl), ?_, rfl⟩
      simp only [go_sem]
    | true =>
    rw [hq2] at qd2
    obtain ⟨r4, k1, k2, _⟩ := step_in hv hq2
    have hr34 : r4 = r3 := by rw [h3] at k1; exact (Option.some.inj k1).symm
    subst hr34
    rw [hsm] at k2
    generalize (r4.2[a.toNat]?).getD (-1, -1) = e4 at k2
    obtain ⟨_, b3, _⟩ := definedB_iff.1 hq2
    apply EvC.seq
    apply EvC.tr
    · apply Tr.run
      · (simp only [go_sem, FA.cells, Mach.cells, List.length_map]) <;> rfl
      · simp
      apply Tr.cons
      · exact .skipv (.sc (.bool false)) rfl rfl (by (simp only [go_sem]) <;> rfl) (by (simp only [go_sem]) <;> rfl)
      apply Tr.run
      · (simp only [go_sem, FA.cells, Mach.cells, List.length_map]) <;> rfl
      · simp
      apply Tr.cons
      · exact .callG rfl rfl (by (simp only [go_sem]) <;> rfl) rfl (by (simp only [go_sem]) <;> rfl) (by (simp only [go_sem]) <;> rfl) (by (simp only [go_sem]) <;> rfl) (by (simp only [go_sem]) <;> rfl) (by (simp only [go_sem]) <;> rfl) (qo)
      apply Tr.run
      · (simp only [go_sem, FA.cells, Mach.cells, List.length_map]) <;> rfl
      · simp
      apply Tr.cons
      · exact .callG rfl rfl (by (simp only [go_sem]) <;> rfl) rfl (by (simp only [go_sem]) <;> rfl) (by (simp only [go_sem]) <;> rfl) (by (simp only [go_sem]) <;> rfl) (by (simp only [go_sem]) <;> rfl) (by (simp only [go_sem]) <;> rfl) (qd2)
      apply Tr.done
      · (simp only [go_sem]) <;> rfl
      · simp
    refine EvC.cond_false (by (simp only [go_sem]) <;> rfl) ?_
    refine EvC.skip ?_
    refine EvC.seq ?_
    apply EvC.seq
    apply EvC.drd mixed
    · (simp only [go_sem, h3, k2, rowC, edgeC, n0, List.length_map]) <;> rfl
    · simp; try omega
    · kernel_rfl
    refine EvC.cond (by (simp only [go_sem]) <;> rfl) (fun hc => ?_) (fun hc => ?_)
    · have hc' : o = e4.2 := by simpa using hc
      refine EvC.seq (EvC.rg (by (simp only [go_sem]) <;> rfl) (by simp) ?_)
      refine EvC.ret ⟨.inl rfl, _, (by (simp only [go_sem]) <;> rfl), ?_, rfl⟩
      simp only [go_sem]
      simp [hc']
    have hc' : ¬ o = e4.2 := by simpa using hc
    refine EvC.skip ?_
    refine EvC.seq ?_
    by_cases h64 : m.rows.length = 64
    · have d : decide ((m.rows.length : Int) = 64) = true := decide_eq_true (by omega)
      apply EvC.seq
      apply EvC.trd
      · (simp only [go_sem, List.length_map, d]) <;> rfl
      · simp
      refine EvC.cond_true (by (simp only [go_sem]) <;> rfl) ?_
      refine EvC.seq (EvC.rg (by (simp only [go_sem]) <;> rfl) (by simp) ?_)
      refine EvC.ret ⟨.inl rfl, _, (by (simp only [go_sem]) <;> rfl), ?_, rfl⟩
      simp only [go_sem]
      simp [h64, hc']
    · have d : decide ((m.rows.length : Int) = 64) = false := decide_eq_false (by omega)
      apply EvC.seq
      apply EvC.trd
      · (simp only [go_sem, List.length_map, d]) <;> rfl
      · simp
      refine EvC.cond_false (by (simp only [go_sem]) <;> rfl) ?_
      refine EvC.skip ?_
      refine EvC.seq (EvC.rg (by (simp only [go_sem]) <;> rfl) (by simp) ?_)
      refine EvC.ret ⟨.inl rfl, _, (by (simp only [go_sem]) <;> rfl), ?_, rfl⟩
      simp only [go_sem]
      simp [h64, hc']
end Go.Avl
namespace Go.Avl
open Go Go.Proofs.Tryd
set_option maxRecDepth 10000
set_option linter.unusedSimpArgs false

/-! ### Mutants -/
theorem clone80_is (es : List (Int × Int)) (c : Cp) (hl : es.length < 1000000) : PureIs prog 80 [.sl false (es.map edgeC) c] (.sl false (es.map edgeC) .unk) := by
  refine PureIs.of (nv := 1) (hid := [2, 4]) func80 rfl (by kernel_rfl) (by simp [ntmps80]) fun _ => ?_
  rw [ntmps80, results80]
  refine EvC.seq (EvC.rg (by (simp only [go_sem]) <;> rfl) (by simp) ?_)
  refine EvC.seq ?_
  refine EvC.seq (EvC.rg (by (simp only [go_sem]) <;> rfl) (by simp) ?_)
  refine EvC.cond_false (by (simp only [go_sem]) <;> rfl) ?_
  refine EvC.skip ?_
  have hr1 : room es.length 16 = true := by simp only [room_eq, decide_eq_true_eq]; omega
  have hr3 : ∀ a b : Int, (a, b) ∈ es → (edgeC (a, b)).length = 2 := fun _ _ _ => rfl
  refine EvC.seq (EvC.rg (by (simp only [go_sem, List.length_map]) <;> rfl) (by simp [hr1]; try exact hr3) ?_)
  refine EvC.frz 5 (by (simp only [go_sem, List.length_map]) <;> rfl) ?_
  refine EvC.ret ⟨.inl rfl, _, (by (simp only [go_sem, List.length_map]) <;> rfl), ?_, by simp [AV.noref, norefs_edges]⟩
  simp only [go_sem, List.length_map]
theorem clone80_new (es : List (Int × Int)) (c : Cp) (hl : es.length < 1000000) (h0 : es.length ≠ 0) : PureNew prog 80 [.sl false (es.map edgeC) c] 2 (es.map edgeC) := by
  refine PureNew.of (nv := 1) (hid := [2, 4]) func80 rfl (by kernel_rfl) (by simp [ntmps80]) fun _ => ?_
  rw [ntmps80, results80]
  refine EvC.seq (EvC.rg (by (simp only [go_sem]) <;> rfl) (by simp) ?_)
  refine EvC.seq ?_
  refine EvC.seq (EvC.rg (by (simp only [go_sem]) <;> rfl) (by simp) ?_)
  refine EvC.cond_false (by (simp only [go_sem]) <;> rfl) ?_
  refine EvC.skip ?_
  have hr1 : room es.length 16 = true := by simp only [room_eq, decide_eq_true_eq]; omega
  have hr3 : ∀ a b : Int, (a, b) ∈ es → (edgeC (a, b)).length = 2 := fun _ _ _ => rfl
  refine EvC.seq (EvC.rg (by (simp only [go_sem, List.length_map]) <;> rfl) (by simp [hr1]; try exact hr3) ?_)
  refine EvC.ret ⟨.inl rfl, _, 5, (by (simp only [go_sem, List.length_map]) <;> rfl), .inl ?_, ?_, by simpa using h0, norefs_edges es⟩
  · simp only [List.length_map]
  · rfl
theorem clip79_is (es : List (Int × Int)) (c : Cp) : PureIs prog 79 [.sl false (es.map edgeC) c] (.sl false (es.map edgeC) .unk) := by
  have hr3 : ∀ a b : Int, (a, b) ∈ es → (edgeC (a, b)).length = 2 := fun _ _ _ => rfl
  have key : PureIs prog 79 [.sl false (es.map edgeC) c] (.sl false (es.map edgeC) .full) := by
    refine PureIs.of (nv := 1) (hid := [2]) func79 rfl (by kernel_rfl) (by simp [ntmps79]) fun _ => ?_
    rw [ntmps79, results79]
    refine EvC.seq (EvC.rg (by (simp only [go_sem]) <;> rfl) (by simp) ?_)
    refine EvC.seq (EvC.rg (by (simp only [go_sem, List.length_map, Int.toNat_natCast, List.drop_zero]) <;> rfl) (by simp; try exact hr3) ?_)
    refine EvC.ret ⟨.inl rfl, _, (by (simp only [go_sem]) <;> rfl), ?_, by simp [AV.noref, norefs_edges]⟩
    simp only [go_sem]
    rw [List.take_of_length_le (by simp)]
  have h := key.weakR
  rwa [show (AV.sl false (es.map edgeC) Cp.full).unk = .sl false (es.map edgeC) .unk from by
    simp only [AV.unk]; congr 1; exact unkss_map edgeC (fun x => rfl) es] at h
theorem clip79_clips : Clips prog 79 := fun a n c h hlt => by
  refine PureIs.of (nv := 1) (hid := [2]) func79 rfl (by kernel_rfl) (by simp [ntmps79]) fun _ => ?_
  rw [ntmps79, results79]
  refine EvC.seq (EvC.rg (by (simp only [go_sem]) <;> rfl) (by simp) ?_)
  refine EvC.seq (EvC.rg (by (simp only [go_sem, Int.toNat_natCast]) <;> rfl) (by simp; try omega) ?_)
  refine EvC.ret ⟨.inl rfl, _, (by (simp only [go_sem]) <;> rfl), ?_, rfl⟩
  simp only [go_sem]
theorem clip81_is (rs : List Row) (c : Cp) : PureIs prog 81 [.sl false (rs.map rowC) c] (.sl false (rs.map rowC) .full) := by
  have hr3 : ∀ (a : Bool) (b : List (Int × Int)), (a, b) ∈ rs → (rowC (a, b)).length = 1 := fun _ _ _ => rfl
  refine PureIs.of (nv := 1) (hid := [2]) func81 rfl (by kernel_rfl) (by simp [ntmps81]) fun _ => ?_
  rw [ntmps81, results81]
  refine EvC.seq (EvC.rg (by (simp only [go_sem]) <;> rfl) (by simp) ?_)
  refine EvC.seq (EvC.rg (by (simp only [go_sem, List.length_map, Int.toNat_natCast, List.drop_zero]) <;> rfl) (by simp; exact ⟨fun b h => hr3 _ _ h, fun b h => hr3 _ _ h⟩) ?_)
  refine EvC.ret ⟨.inl rfl, _, (by (simp only [go_sem]) <;> rfl), ?_, by simp [AV.noref, List.all_eq_true, rowC, AV.norefs]⟩
  simp only [go_sem]
  rw [List.take_of_length_le (by simp)]
end Go.Avl
namespace Go.Avl
open Go Go.Proofs.Tryd
set_option maxRecDepth 10000
set_option linter.unusedSimpArgs false

def rowAt (m : Mach) (s : Int) : List (Int × Int) := ((m.rows[s.toNat]?).map (·.2)).getD []
/-- The rows, copied. -/
def copyR (m : Mach) : List Row := m.rows.map fun r => (false, r.2)
/-- .. with another edge. -/
def putR (m : Mach) (s i : Int) (e : Int × Int) : List Row := (copyR m).set s.toNat (false, (rowAt m s).set i.toNat e)
def mutRows (m : Mach) (f : FA) : List Row :=
  if f.kind = 0 then putR m f.state f.input ((stepM m f.state f.input).1, f.out)
  else if f.kind = 1 then putR m f.state f.input (f.to, (stepM m f.state f.input).2)
  else if f.kind = 2 then putR m f.state f.input (-1, -1)
  else if f.kind = 3 then putR m f.state f.input ((m.rows.length : Int), (stepM m f.state f.input).2) ++ [(false, rowAt m f.to)]
  else putR m f.state f.input ((m.rows.length : Int), (stepM m f.state f.input).2) ++ [(false, (rowAt m (stepM m f.state f.input).1).set f.at'.toNat ((stepM m (stepM m f.state f.input).1 f.at').1, f.out))]
def mutF (m : Mach) (f : FA) : Mach := ⟨m.ins, m.outs, false, mutRows m f⟩
/-- The rows as they lie there: with the room behind some of them. -/
def putRaw (m : Mach) (s i : Int) (e : Int × Int) : List (List AV) := ((copyR m).map rowC).set s.toNat [.sl false (((rowAt m s).set i.toNat e).map edgeC) .full]
def rawRows (m : Mach) (f : FA) : List (List AV) :=
  if f.kind = 0 then putRaw m f.state f.input ((stepM m f.state f.input).1, f.out)
  else if f.kind = 1 then putRaw m f.state f.input (f.to, (stepM m f.state f.input).2)
  else if f.kind = 2 then putRaw m f.state f.input (-1, -1)
  else if f.kind = 3 then putRaw m f.state f.input ((m.rows.length : Int), (stepM m f.state f.input).2) ++ [[.sl false ((rowAt m f.to).map edgeC) .unk]]
  else putRaw m f.state f.input ((m.rows.length : Int), (stepM m f.state f.input).2) ++ [[.sl false (((rowAt m (stepM m f.state f.input).1).set f.at'.toNat ((stepM m (stepM m f.state f.input).1 f.at').1, f.out)).map edgeC) .full]]
theorem unk_edges (b : Bool) (es : List (Int × Int)) (c : Cp) : AV.unks [.sl b (es.map edgeC) c] = rowC (b, es) := by
  have h : AV.unkss (es.map edgeC) = es.map edgeC := unkss_map edgeC (fun x => rfl) es
  simp only [AV.unks, AV.unk, h]; rfl
theorem unkss_rows (l : List Row) : AV.unkss (l.map rowC) = l.map rowC := unkss_map rowC (fun x => unk_edges x.1 x.2 .unk) l
theorem putRaw_unk (m : Mach) (s i : Int) (e : Int × Int) : AV.unkss (putRaw m s i e) = (putR m s i e).map rowC := by
  unfold putRaw putR
  rw [unkss_eq, List.map_set, unk_edges, ← unkss_eq, unkss_rows, List.map_set]
theorem rawRows_unk (m : Mach) (f : FA) : AV.unkss (rawRows m f) = (mutRows m f).map rowC := by
  have app : ∀ (A B : List (List AV)), AV.unkss (A ++ B) = AV.unkss A ++ AV.unkss B := fun A B => by simp [unkss_eq]
  unfold rawRows mutRows
  split
  · exact putRaw_unk _ _ _ _
  split
  · exact putRaw_unk _ _ _ _
  split
  · exact putRaw_unk _ _ _ _
  split
  · rw [app, putRaw_unk, List.map_append]
    congr 1
    simp only [AV.unkss, unk_edges]; rfl
  · rw [app, putRaw_unk, List.map_append]
    congr 1
    simp only [AV.unkss, unk_edges]; rfl
def applyRaw (m : Mach) (f : FA) : AV :=
  if checkF m f = 0 then .tu [.ag [.sc (.int .i64 m.ins), .sc (.int .i64 m.outs), .sl false (rawRows m f) .full], .sc (.int .i64 0)] else .tu [.ag [.sc (.int .i64 0), .sc (.int .i64 0), .sl true [] .zer], .sc (.int .i64 (checkF m f))]
def applyR (m : Mach) (f : FA) : AV :=
  if checkF m f = 0 then .tu [.ag (mutF m f).cells, .sc (.int .i64 0)] else .tu [.ag [.sc (.int .i64 0), .sc (.int .i64 0), .sl true [] .unk], .sc (.int .i64 (checkF m f))]
theorem applyRaw_unk (m : Mach) (f : FA) : (applyRaw m f).unk = applyR m f := by
  unfold applyRaw applyR
  split
  · simp only [AV.unk, AV.unks, rawRows_unk]; rfl
  · simp only [AV.unk, AV.unks, AV.unkss]
/-- No row that is there is nil. -/
def NoNil (m : Mach) : Prop := ∀ r ∈ m.rows, r.1 = true → r.2 = []
theorem NoNil.row {m : Mach} (hv : Valid m) (h : NoNil m) {r : Row} (hr : r ∈ m.rows) : r = (false, r.2) := by
  obtain ⟨b, l⟩ := r
  cases b with
  | false => rfl
  | true =>
    have h1 := h _ hr rfl
    have h2 := (hv.row _ hr).1
    have h3 := hv.ins
    simp only at h1 h2
    rw [h1] at h2
    simp at h2
    omega
/-- The first k rows, row S an object. -/
def rowsK (m : Mach) (k S : Nat) (v : AV) : List (List AV) := (((m.rows.take k).map fun r => (false, r.2)).map rowC).set S [v]
theorem copyR_take (m : Mach) (k : Nat) : ((m.rows.take k).map fun r => ((false, r.2) : Row)) = (copyR m).take k := by simp [copyR, List.map_take]
theorem rowsK_len {m : Mach} {k S : Nat} {v : AV} (h : k ≤ m.rows.length) : (rowsK m k S v).length = k := by simp [rowsK]; omega
theorem rowsK_other {m : Mach} {k S : Nat} {v : AV} {r : Row} (h : m.rows[k]? = some r) (hk : k ≠ S) : rowsK m k S v ++ [rowC (false, r.2)] = rowsK m (k + 1) S v := by
  obtain ⟨hi, he⟩ := List.getElem?_eq_some_iff.1 h
  have hl : (((m.rows.take k).map fun r => ((false, r.2) : Row)).map rowC).length = k := by simp; omega
  unfold rowsK
  rw [List.take_succ_eq_append_getElem hi, he, List.map_append, List.map_append]
  generalize ((m.rows.take k).map fun r => ((false, r.2) : Row)).map rowC = A at hl
  by_cases hS : S < k
  · rw [List.set_append_left _ _ (by omega)]; rfl
  · rw [List.set_append_right _ _ (by omega), List.set_eq_of_length_le (by omega : A.length ≤ S), List.set_eq_of_length_le (by simp; omega)]; rfl
theorem rowsK_self {m : Mach} {S : Nat} {v w : AV} {r : Row} (h : m.rows[S]? = some r) : rowsK m S S w ++ [[v]] = rowsK m (S + 1) S v := by
  obtain ⟨hi, he⟩ := List.getElem?_eq_some_iff.1 h
  have hl : (((m.rows.take S).map fun r => ((false, r.2) : Row)).map rowC).length = S := by simp; omega
  unfold rowsK
  rw [List.take_succ_eq_append_getElem hi, he, List.map_append, List.map_append]
  generalize ((m.rows.take S).map fun r => ((false, r.2) : Row)).map rowC = A at hl
  rw [List.set_append_right _ _ (by omega), List.set_eq_of_length_le (by omega : A.length ≤ S), hl, Nat.sub_self]
  rfl
theorem rowsK_any {m : Mach} {S : Nat} {v w : AV} : rowsK m S S v = rowsK m S S w := by
  unfold rowsK
  rw [List.set_eq_of_length_le (by simp; omega), List.set_eq_of_length_le (by simp; omega)]

theorem rowC_norefs (r : Row) : AV.norefs (rowC r) = true := by simp [rowC, AV.norefs, AV.noref, norefs_edges]
theorem rowsK_get {m : Mach} {k S : Nat} {v : AV} (h : S < k) (hk : k ≤ m.rows.length) : (rowsK m k S v)[S]? = some [v] := by
  unfold rowsK
  rw [List.getElem?_set_self (by simp; omega)]
theorem rowsK_norefs {m : Mach} {k S : Nat} {v : AV} (h : S < k) (hk : k ≤ m.rows.length) (hv : v.noref = false) : (rowsK m k S v).all AV.norefs = false := by
  rw [List.all_eq_false]
  exact ⟨[v], List.mem_of_getElem? (rowsK_get h hk), by simp [AV.norefs, hv]⟩
theorem rowC_ren (K : List (Nat × Nat)) (r : Row) : (rowC r).map (AV.ren K) = rowC r := by
  have h : (AV.sl r.1 (r.2.map edgeC) Cp.unk).noref = true := by simp [AV.noref, norefs_edges]
  simp [rowC, AV.ren, h]
theorem rowsK_ren (m : Mach) (k S : Nat) (v : AV) (K : List (Nat × Nat)) : (rowsK m k S v).map (fun c => c.map (AV.ren K)) = rowsK m k S (v.ren K) := by
  unfold rowsK
  rw [List.map_set, List.map_map]
  have e : List.map ((fun c => c.map (AV.ren K)) ∘ rowC) ((m.rows.take k).map fun r => ((false, r.2) : Row)) = List.map rowC ((m.rows.take k).map fun r => ((false, r.2) : Row)) := List.map_congr_left fun r _ => rowC_ren K r
  rw [e]; rfl
theorem clip81r_is (es : List (List AV)) (c : Cp) (h1 : ∀ c ∈ es, c.length = 1) (hn : es.all AV.norefs = true) : PureIs prog 81 [.sl false es c] (.sl false es .full) := by
  refine PureIs.of (nv := 1) (hid := [2]) func81 rfl (by kernel_rfl) (by simp [ntmps81]) fun _ => ?_
  rw [ntmps81, results81]
  refine EvC.seq (EvC.rg (by (simp only [go_sem]) <;> rfl) (by simp) ?_)
  refine EvC.seq (EvC.rg (by (simp only [go_sem, Int.toNat_natCast, List.drop_zero, List.take_length]) <;> rfl) (by simp; exact h1) ?_)
  refine EvC.ret ⟨.inl rfl, _, (by (simp only [go_sem]) <;> rfl), ?_, by simp [AV.noref, hn]⟩
  simp only [go_sem]
set_option maxHeartbeats 8000000 in
theorem apply71_is {m : Mach} (hv : Valid m) (hc0 : checkM m = 0) (hnn : NoNil m) (f : FA) : PureIs prog 71 [.ag m.cells, .ag f.cells] (applyR m f) := by
  rw [← applyRaw_unk]
  refine PureIs.weakR ?_
  have q0 := check78_is hv hc0 f
  have hkf : checkF m f = 0 → faultB m f = true := fun h => by
    unfold checkF at h
    split at h
    · assumption
    · cases h
  unfold applyRaw
  obtain ⟨kd, s, i, t, a, o⟩ := f
  refine PureIs.of (nv := 8) (hid := [9, 10, 11, 12, 17, 23, 24, 25, 26, 34, 48, 53, 67, 87, 94, 101]) func71 rfl (by kernel_rfl) (by simp [ntmps71]) fun _ => ?_
  rw [ntmps71, results71]
  refine EvC.seq (EvC.rg (by (simp only [go_sem, Mach.cells, FA.cells]) <;> rfl) (by simp) ?_)
  refine EvC.frzB 0 (by (simp only [go_sem]) <;> rfl) ?_
  refine EvC.frzB 1 (by (simp only [go_sem]) <;> rfl) ?_
  refine EvC.seq ?_
  apply EvC.seq
  apply EvC.tr
  · apply Tr.run
    · (simp only [go_sem, Mach.cells, FA.cells]) <;> rfl
    · simp
    apply Tr.cons
    · exact .call rfl rfl (by (simp only [go_sem]) <;> rfl) (by (simp only [go_sem]) <;> rfl) (by (simp only [go_sem]) <;> rfl) (by (simp only [go_sem]) <;> rfl) (by (simp only [go_sem]) <;> rfl) (q0)
    apply Tr.done
    · (simp only [go_sem]) <;> rfl
    · simp
  refine EvC.seq (EvC.rg (by (simp only [go_sem]) <;> rfl) (by simp) ?_)
  refine EvC.cond (by (simp only [go_sem]) <;> rfl) (fun hc => ?_) (fun hc => ?_)
  · -- then
    have hc' : ¬ checkF m ⟨kd, s, i, t, a, o⟩ = 0 := by simpa using hc
    refine EvC.seq (EvC.rg (by (simp only [go_sem]) <;> rfl) (by simp) ?_)
    rw [if_neg hc']
    refine EvC.ret ⟨.inl rfl, _, (by (simp only [go_sem]) <;> rfl), ?_, rfl⟩
    simp only [go_sem]
  have hc' : checkF m ⟨kd, s, i, t, a, o⟩ = 0 := by simpa using hc
  rw [if_pos hc']
  have hfb := hkf hc'
  clear hc hkf
  unfold faultB at hfb
  simp only [Bool.and_eq_true] at hfb
  obtain ⟨hp, hd, hkb⟩ := hfb
  obtain ⟨r, h1, h2, he⟩ := step_in hv hd
  obtain ⟨b1, b2, _⟩ := definedB_iff.1 hd
  have hkd := plainB_kind hp
  simp only at hkd
  obtain ⟨S, hS⟩ : ∃ S : Nat, S = s.toNat := ⟨_, rfl⟩
  have hSl : S < m.rows.length := by omega
  rw [← hS] at h1
  have hn1 := hv.rows
  have hro := hnn.row hv (List.mem_of_getElem? h1)
  have hrl := (hv.row _ (List.mem_of_getElem? h1)).1
  have hi1 := hv.ins
  refine EvC.skip ?_
  refine EvC.seq (EvC.rg (by (simp only [go_sem]) <;> rfl) (by simp) ?_)
  refine EvC.seq (EvC.rg (by (simp only [go_sem]) <;> rfl) (by simp) ?_)
  refine EvC.ownC 11 2 1 (by (simp only [go_sem]) <;> rfl) ?_
  refine EvC.thaw 15 (by (simp only [go_sem]) <;> rfl) ?_
  refine EvC.seq ?_
  refine EvC.seq (EvC.rg (by (simp only [go_sem, List.length_map]) <;> rfl) (by simp) ?_)
  refine EvC.block ?_  -- 0
  obtain ⟨n, hn⟩ : ∃ n, n = r.2.length := ⟨_, rfl⟩
  have hn0 : n ≠ 0 := by omega
  obtain ⟨memK, hmK⟩ : ∃ memK : Nat → Mem, memK = fun k => (0, RObj.cells [.sc (.int .i64 0), .sc (.int .i64 0), .sl true [] .zer]) :: (1, .cells [.sc (.int .i64 m.ins), .sc (.int .i64 m.outs), .tl 2 k (decide (k = 0))]) :: (2, .arr 1 (rowsK m k S (.tv 3 n 0 n (.val n))) false) :: (if S < k then [(3, .arr 2 (r.2.map edgeC) false)] else []) := ⟨_, rfl⟩
  have hlo : ∀ k, k ≤ S → memK k = [(0, RObj.cells [.sc (.int .i64 0), .sc (.int .i64 0), .sl true [] .zer]), (1, .cells [.sc (.int .i64 m.ins), .sc (.int .i64 m.outs), .tl 2 k (decide (k = 0))]), (2, .arr 1 (((m.rows.take k).map fun r => ((false, r.2) : Row)).map rowC) false)] := fun k hk => by
    rw [hmK]
    simp only
    rw [if_neg (by omega), rowsK, List.set_eq_of_length_le (by simp; omega)]
  have hhi : ∀ k, S < k → memK k = [(0, RObj.cells [.sc (.int .i64 0), .sc (.int .i64 0), .sl true [] .zer]), (1, .cells [.sc (.int .i64 m.ins), .sc (.int .i64 m.outs), .tl 2 k (decide (k = 0))]), (2, .arr 1 (rowsK m k S (.tv 3 n 0 n (.val n))) false), (3, .arr 2 (r.2.map edgeC) false)] := fun k hk => by
    rw [hmK]
    simp only
    rw [if_pos hk]
  refine EvC.loopS (σ := Nat) (fun k => ⟨[(2, .ia [.sc (.int .i64 m.ins), .sc (.int .i64 m.outs), .sl m.nl (m.rows.map rowC) .unk]), (3, .ia [.sc (.int .i64 kd), .sc (.int .i64 s), .sc (.int .i64 i), .sc (.int .i64 t), .sc (.int .i64 a), .sc (.int .i64 o)]), (4, .rf 0 0), (7, .rf 1 0), (23, .sl m.nl (m.rows.map rowC) .unk), (24, .sc (.int .i64 m.rows.length)), (25, .sc (.int .i64 k))], [], memK k, 4⟩) (fun k => m.rows.length - k) (fun k => k ≤ m.rows.length) [2, 3, 4, 7, 23, 24, 25] 4 ?_ ?_
  · exact ⟨[(2, 0), (11, 1), (15, 2)], 0, rfl, (by rw [hlo 0 (by omega)]; (simp only [go_sem, Int.natCast_zero, List.take_zero, List.map_nil]) <;> rfl), Nat.zero_le _⟩
  intro k hk1
  by_cases hkl : k < m.rows.length
  rotate_left
  · -- behind the loop
    obtain rfl : k = m.rows.length := by omega
    rw [hhi m.rows.length hSl]
    have dk : decide ((m.rows.length : Int) < m.rows.length) = false := decide_eq_false (by omega)
    refine EvC.seq (EvC.rg (by (simp only [go_sem]) <;> rfl) (by simp) ?_)
    refine EvC.seq ?_
    refine EvC.cond_false (by (simp only [go_sem, dk]) <;> rfl) ?_
    refine EvC.exit ?_  -- 0
    have hNd : decide (m.rows.length = 0) = false := decide_eq_false (by omega)
    have hg := rowsK_get (v := .tv 3 n 0 n (.val n)) hSl (Nat.le_refl m.rows.length)
    have hRl := rowsK_len (S := S) (v := .tv 3 n 0 n (.val n)) (Nat.le_refl m.rows.length)
    have hel : (r.2.map edgeC).length = n := by rw [List.length_map]; exact hn.symm
    have hin : i.toNat < n := by omega
    apply EvC.seq
    apply EvC.drd mixed
    · (simp only [go_sem, hg, hRl, hel, ← hS, hNd]) <;> rfl
    · simp; try omega
    · kernel_rfl
    have hrowAt : rowAt m s = r.2 := by unfold rowAt; rw [← hS, h1]; rfl
    refine EvC.mergeC (α := List (Int × Int) × List (List AV)) (fun p => ⟨[(4, .rf 0 0), (7, .rf 1 0)], [], [(0, .cells [.sc (.int .i64 0), .sc (.int .i64 0), .sl true [] .zer]), (1, .cells [.sc (.int .i64 m.ins), .sc (.int .i64 m.outs), .tl 2 (m.rows.length + p.2.length) false]), (2, .arr 1 (rowsK m m.rows.length S (.tv 3 n 0 n (.val n)) ++ p.2) false), (3, .arr 2 (p.1.map edgeC) false)], 4⟩)
      (fun p => p.1.length = n ∧ p.2.all AV.norefs = true ∧ (∀ c ∈ p.2, c.length = 1) ∧ rowsK m m.rows.length S (.sl false (p.1.map edgeC) .full) ++ p.2 = rawRows m ⟨kd, s, i, t, a, o⟩) ?_ ?_
    rotate_left
    · -- the end
      rintro ⟨es, ex⟩ ⟨hes, hex1, hex2, hraw⟩
      simp only at hes hex1 hex2 hraw ⊢
      have hel2 : (es.map edgeC).length = n := by rw [List.length_map]; exact hes
      have hRe : (rowsK m m.rows.length S (.tv 3 n 0 n (.val n)) ++ ex).length = m.rows.length + ex.length := by rw [List.length_append, hRl]
      have hge : (rowsK m m.rows.length S (.tv 3 n 0 n (.val n)) ++ ex)[S]? = some [.tv 3 n 0 n (.val n)] := by rw [List.getElem?_append_left (by rw [hRl]; exact hSl)]; exact hg
      have hse : (rowsK m m.rows.length S (.tv 3 n 0 n (.val n)) ++ ex).set S [.sl false (es.map edgeC) .full] = rawRows m ⟨kd, s, i, t, a, o⟩ := by
        rw [← hraw, List.set_append_left _ _ (by rw [hRl]; exact hSl)]
        unfold rowsK
        rw [List.set_set]
      generalize rowsK m m.rows.length S (.tv 3 n 0 n (.val n)) ++ ex = RW at hRe hge hse
      have hraw1 : (rawRows m ⟨kd, s, i, t, a, o⟩).all AV.norefs = true := by
        rw [← hraw, List.all_append, hex1, Bool.and_true, List.all_eq_true]
        intro c hc
        rcases List.mem_or_eq_of_mem_set hc with h | rfl
        · obtain ⟨r, _, rfl⟩ := List.mem_map.1 h
          exact rowC_norefs r
        · simp [AV.norefs, AV.noref, norefs_edges]
      have hraw2 : ∀ c ∈ rawRows m ⟨kd, s, i, t, a, o⟩, c.length = 1 := by
        rw [← hraw]
        intro c hc
        rcases List.mem_append.1 hc with h | h
        · rcases List.mem_or_eq_of_mem_set h with h | rfl
          · obtain ⟨r, _, rfl⟩ := List.mem_map.1 h
            rfl
          · rfl
        · exact hex2 c h
      have hraw3 : (rawRows m ⟨kd, s, i, t, a, o⟩).length = m.rows.length + ex.length := by
        rw [← hraw, List.length_append, rowsK_len (Nat.le_refl _)]
      have qc := clip81r_is (rawRows m ⟨kd, s, i, t, a, o⟩) .unk hraw2 hraw1
      clear hraw
      generalize rawRows m ⟨kd, s, i, t, a, o⟩ = RR at *
      refine EvC.frz 3 (by (simp only [go_sem, hel2]) <;> rfl) ?_
      refine EvC.snapE 2 S (by (simp only [go_sem, hge, hel2, hse]) <;> rfl) ?_
      refine EvC.frzD 2 (by (simp only [go_sem, hraw1, hraw3]) <;> rfl) ?_
      apply EvC.seq
      apply EvC.tr
      · apply Tr.run
        · (simp only [go_sem]) <;> rfl
        · simp
        apply Tr.cons
        · exact .call rfl rfl (by (simp only [go_sem]) <;> rfl) (by (simp only [go_sem]) <;> rfl) (by (simp only [go_sem, hraw1]) <;> rfl) (by (simp only [go_sem]) <;> rfl) (by (simp only [go_sem]) <;> rfl) (qc)
        apply Tr.done
        · (simp only [go_sem]) <;> rfl
        · simp
      refine EvC.seq (EvC.rg (by (simp only [go_sem]) <;> rfl) (by simp) ?_)
      refine EvC.ret ⟨.inl rfl, _, (by (simp only [go_sem]) <;> rfl), ?_, by simp [AV.noref, AV.norefs, hraw1]⟩
      simp only [go_sem]
    · -- the switch
      have hfin : ∀ (es : List (Int × Int)) (ex : List (List AV)), es.length = n → rowsK m m.rows.length S (.sl false (es.map edgeC) .full) = ((copyR m).map rowC).set s.toNat [.sl false (es.map edgeC) .full] := fun es ex _ => by
        unfold rowsK copyR
        rw [List.take_length, ← hS]
      have hge : (r.2.map edgeC)[i.toNat]? = some (edgeC (stepM m s i)) := by rw [List.getElem?_map, h2]; rfl
      have hsetE : ∀ x y : Int, (r.2.map edgeC).set i.toNat [.sc (.int .i64 x), .sc (.int .i64 y)] = (r.2.set i.toNat (x, y)).map edgeC := fun x y => by rw [List.map_set]; rfl
      have hset2 : ∀ x : Int × Int, (r.2.set i.toNat x).length = n := fun x => by rw [List.length_set]; exact hn.symm
      have hnr : (rowsK m m.rows.length S (.tv 3 n 0 n (.val n))).all AV.norefs = false := rowsK_norefs hSl (Nat.le_refl _) rfl
      have hrn := rowsK_ren m m.rows.length S (.tv 3 n 0 n (.val n)) [(0, 0), (1, 1), (2, 2), (3, 3)]
      refine EvC.seq (EvC.rg (by (simp only [go_sem]) <;> rfl) (by simp) ?_)
      refine EvC.block ?_  -- 2
      have hraw : ∀ e' : Int × Int, rowsK m m.rows.length S (.sl false ((r.2.set i.toNat e').map edgeC) .full) = putRaw m s i e' := fun e' => by
        unfold putRaw
        rw [hfin _ [] (hset2 e'), hrowAt]
      generalize hE : stepM m s i = e at *
      rcases hkd with rfl | rfl | rfl | rfl | rfl
      · -- output
        refine EvC.seq (EvC.rg (by (simp only [go_sem]) <;> rfl) (by simp) ?_)
        refine EvC.cond_true (by (simp only [go_sem]) <;> rfl) ?_
        refine EvC.rg (by (simp only [go_sem, hge, edgeC, hel, hsetE]) <;> rfl) (by simp [edgeC]) ?_
        refine ⟨rfl, (r.2.set i.toNat (e.1, o), []), ⟨hset2 _, rfl, (fun _ h => by cases h), ?_⟩, fun c Q h => ?_⟩
        · rw [List.append_nil, hraw, rawRows, if_pos rfl, hE]
        refine EvC.gcE [4, 7] [(0, 0), (1, 1), (2, 2), (3, 3)] 4 rfl (by (simp only [go_sem, hnr, hrn, Bool.and_false, List.append_nil, List.length_nil]) <;> rfl) h
      · -- transfer
        refine EvC.seq (EvC.rg (by (simp only [go_sem]) <;> rfl) (by simp) ?_)
        refine EvC.cond_false (by (simp only [go_sem]) <;> rfl) ?_
        refine EvC.seq (EvC.rg (by (simp only [go_sem]) <;> rfl) (by simp) ?_)
        refine EvC.cond_true (by (simp only [go_sem]) <;> rfl) ?_
        refine EvC.rg (by (simp only [go_sem, hge, edgeC, hel, hsetE]) <;> rfl) (by simp [edgeC]) ?_
        refine ⟨rfl, (r.2.set i.toNat (t, e.2), []), ⟨hset2 _, rfl, (fun _ h => by cases h), ?_⟩, fun c Q h => ?_⟩
        · rw [List.append_nil, hraw, rawRows, if_neg (show ¬ (1 : Int) = 0 by decide), if_pos (show (1 : Int) = 1 from rfl), hE]
        refine EvC.gcE [4, 7] [(0, 0), (1, 1), (2, 2), (3, 3)] 4 rfl (by (simp only [go_sem, hnr, hrn, Bool.and_false, List.append_nil, List.length_nil]) <;> rfl) h
      · -- missing
        refine EvC.seq (EvC.rg (by (simp only [go_sem]) <;> rfl) (by simp) ?_)
        refine EvC.cond_false (by (simp only [go_sem]) <;> rfl) ?_
        refine EvC.seq (EvC.rg (by (simp only [go_sem]) <;> rfl) (by simp) ?_)
        refine EvC.cond_false (by (simp only [go_sem]) <;> rfl) ?_
        refine EvC.seq (EvC.rg (by (simp only [go_sem]) <;> rfl) (by simp) ?_)
        refine EvC.cond_true (by (simp only [go_sem]) <;> rfl) ?_
        refine EvC.rg (by (simp only [go_sem, hge, edgeC, hel, hsetE]) <;> rfl) (by simp [edgeC]) ?_
        refine ⟨rfl, (r.2.set i.toNat (-1, -1), []), ⟨hset2 _, rfl, (fun _ h => by cases h), ?_⟩, fun c Q h => ?_⟩
        · rw [List.append_nil, hraw, rawRows, if_neg (show ¬ (2 : Int) = 0 by decide), if_neg (show ¬ (2 : Int) = 1 by decide), if_pos (show (2 : Int) = 2 from rfl)]
        refine EvC.gcE [4, 7] [(0, 0), (1, 1), (2, 2), (3, 3)] 4 rfl (by (simp only [go_sem, hnr, hrn, Bool.and_false, List.append_nil, List.length_nil]) <;> rfl) h
      · -- extra
        have htn : 0 ≤ t ∧ t < m.rows.length := by
          unfold kindB at hkb
          rw [if_neg (show ¬ (3 : Int) = 0 by decide), if_neg (show ¬ (3 : Int) = 1 by decide), if_neg (show ¬ (3 : Int) = 2 by decide), if_pos (show (3 : Int) = 3 from rfl)] at hkb
          simpa [inN] using hkb
        have h5 : m.rows[t.toNat]? = some (m.rows[t.toNat]'(by omega)) := List.getElem?_eq_getElem (by omega)
        have h5m := List.getElem_mem (show t.toNat < m.rows.length by omega)
        have h5n := hnn.row hv h5m
        have h5r := (hv.row _ h5m).1
        have hrt : rowAt m t = (m.rows[t.toNat]'(by omega)).2 := by unfold rowAt; rw [h5]; rfl
        generalize m.rows[t.toNat]'(by omega) = r5 at h5 h5n h5r hrt
        obtain ⟨b5, e5⟩ := r5
        simp only [Prod.mk.injEq] at h5n h5r hrt
        obtain ⟨rfl, _⟩ := h5n
        have p1 := clone80_is e5 .unk (by omega)
        have p2 := clip79_is e5 .unk
        have hr8 : room (m.rows.length + 1) 24 = true := by simp only [room_eq, decide_eq_true_eq]; omega
        refine EvC.seq (EvC.rg (by (simp only [go_sem]) <;> rfl) (by simp) ?_)
        refine EvC.cond_false (by (simp only [go_sem]) <;> rfl) ?_
        refine EvC.seq (EvC.rg (by (simp only [go_sem]) <;> rfl) (by simp) ?_)
        refine EvC.cond_false (by (simp only [go_sem]) <;> rfl) ?_
        refine EvC.seq (EvC.rg (by (simp only [go_sem]) <;> rfl) (by simp) ?_)
        refine EvC.cond_false (by (simp only [go_sem]) <;> rfl) ?_
        refine EvC.seq (EvC.rg (by (simp only [go_sem]) <;> rfl) (by simp) ?_)
        refine EvC.seq ?_
        refine EvC.seq (EvC.rg (by (simp only [go_sem]) <;> rfl) (by simp) ?_)
        refine EvC.cond_false (by (simp only [go_sem]) <;> rfl) ?_
        refine EvC.skip ?_
        apply EvC.seq
        apply EvC.tr
        · apply Tr.run
          · (simp only [go_sem, h5, rowC, List.length_map]) <;> rfl
          · simp; try omega
          apply Tr.cons
          · exact .call rfl rfl (by (simp only [go_sem]) <;> rfl) (by (simp only [go_sem]) <;> rfl) (by (simp only [go_sem]) <;> rfl) (by (simp only [go_sem]) <;> rfl) (by (simp only [go_sem]) <;> rfl) (p1)
          apply Tr.run
          · (simp only [go_sem, h5, rowC, List.length_map]) <;> rfl
          · simp; try omega
          apply Tr.cons
          · exact .call rfl rfl (by (simp only [go_sem]) <;> rfl) (by (simp only [go_sem]) <;> rfl) (by (simp only [go_sem]) <;> rfl) (by (simp only [go_sem]) <;> rfl) (by (simp only [go_sem]) <;> rfl) (p2)
          apply Tr.done
          · (simp only [go_sem]) <;> rfl
          · simp
        refine EvC.seq ?_
        refine EvC.seq (EvC.rg (by (simp only [go_sem]) <;> rfl) (by simp) ?_)
        refine EvC.cond_false (by (simp only [go_sem]) <;> rfl) ?_
        refine EvC.skip ?_
        refine EvC.seq (EvC.rg (by (simp only [go_sem, hge, edgeC, hel, hsetE, List.length_map]) <;> rfl) (by simp [edgeC]) ?_)
        refine EvC.rg (by (simp only [go_sem, hRl, hr8]) <;> rfl) (by simp) ?_
        have hex1 : ([[.sl false (e5.map edgeC) .unk]] : List (List AV)).all AV.norefs = true := by simp [AV.norefs, AV.noref, norefs_edges]
        have hex3 : ([[.sl false (e5.map edgeC) .unk]] : List (List AV)).map (fun c => c.map (AV.ren [(0, 0), (1, 1), (2, 2), (3, 3)])) = [[.sl false (e5.map edgeC) .unk]] := by simp [AV.ren, AV.noref, norefs_edges]
        generalize hXX : ([[.sl false (e5.map edgeC) .unk]] : List (List AV)) = XX at hex1 hex3 ⊢
        have hXl : XX.length = 1 := by rw [← hXX]; rfl
        refine ⟨rfl, (r.2.set i.toNat ((m.rows.length : Int), e.2), XX), ⟨hset2 _, hex1, (fun c hc => by subst hXX; simp only [List.mem_singleton] at hc; rw [hc]; rfl), ?_⟩, fun c Q h => ?_⟩
        · rw [hraw, rawRows, if_neg (show ¬ (3 : Int) = 0 by decide), if_neg (show ¬ (3 : Int) = 1 by decide), if_neg (show ¬ (3 : Int) = 2 by decide), if_pos (show (3 : Int) = 3 from rfl), hE, hrt, hXX]
        rw [hXl] at h
        refine EvC.gcE [4, 7] [(0, 0), (1, 1), (2, 2), (3, 3)] 4 rfl (by (simp only [go_sem, hnr, hrn, List.all_append, Bool.false_and, hex1, hex3, List.map_append]) <;> rfl) h
      · -- deep
        have hd2 : definedB m e.1 a = true := by
          unfold kindB at hkb
          rw [if_neg (show ¬ (4 : Int) = 0 by decide), if_neg (show ¬ (4 : Int) = 1 by decide), if_neg (show ¬ (4 : Int) = 2 by decide), if_neg (show ¬ (4 : Int) = 3 by decide)] at hkb
          simp only [Bool.and_eq_true] at hkb
          rw [hE] at hkb
          exact hkb.2.1
        obtain ⟨r5, h5, h5i, _⟩ := step_in hv hd2
        obtain ⟨c1, c2, _⟩ := definedB_iff.1 hd2
        have h5m := List.mem_of_getElem? h5
        have h5n := hnn.row hv h5m
        have h5r := (hv.row _ h5m).1
        have hrt : rowAt m e.1 = r5.2 := by unfold rowAt; rw [h5]; rfl
        obtain ⟨b5, e5⟩ := r5
        simp only [Prod.mk.injEq] at h5n h5r hrt h5i
        obtain ⟨rfl, _⟩ := h5n
        obtain ⟨q, hq⟩ : ∃ q, q = e5.length := ⟨_, rfl⟩
        have q1 := clone80_new e5 .unk (by omega) (by omega)
        have hr8 : room (m.rows.length + 1) 24 = true := by simp only [room_eq, decide_eq_true_eq]; omega
        refine EvC.seq (EvC.rg (by (simp only [go_sem]) <;> rfl) (by simp) ?_)
        refine EvC.cond_false (by (simp only [go_sem]) <;> rfl) ?_
        refine EvC.seq (EvC.rg (by (simp only [go_sem]) <;> rfl) (by simp) ?_)
        refine EvC.cond_false (by (simp only [go_sem]) <;> rfl) ?_
        refine EvC.seq (EvC.rg (by (simp only [go_sem]) <;> rfl) (by simp) ?_)
        refine EvC.cond_false (by (simp only [go_sem]) <;> rfl) ?_
        refine EvC.seq (EvC.rg (by (simp only [go_sem]) <;> rfl) (by simp) ?_)
        refine EvC.seq ?_
        refine EvC.seq (EvC.rg (by (simp only [go_sem]) <;> rfl) (by simp) ?_)
        refine EvC.cond_true (by (simp only [go_sem]) <;> rfl) ?_
        refine EvC.rg (by (simp only [go_sem, hge, edgeC, hel]) <;> rfl) (by simp) ?_
        refine EvC.seq ?_
        apply EvC.tr  -- R16
        · apply Tr.run
          · (simp only [go_sem, h5, rowC]) <;> rfl
          · simp; try omega
          apply Tr.cons
          · exact .callN rfl rfl (by (simp only [go_sem]) <;> rfl) (by (simp only [go_sem]) <;> rfl) (by (simp only [go_sem]) <;> rfl) (by (simp only [go_sem]) <;> rfl) (by (simp only [go_sem]) <;> rfl) q1
          apply Tr.cons
          · exact .clip (i := 39) (n := e5.length) rfl rfl (by (simp only [go_sem]) <;> rfl) (by (simp only [go_sem]) <;> rfl) (by (simp only [go_sem, List.length_map]) <;> rfl) (by (simp only [go_sem]) <;> rfl) (by rw [List.length_map]) (by omega) (by omega) (by (simp only [go_sem]) <;> rfl) clip79_clips
          apply Tr.done
          · (simp only [go_sem]) <;> rfl
          · simp
        have h5g : (e5.map edgeC)[a.toNat]? = some (edgeC (stepM m e.1 a)) := by rw [List.getElem?_map, h5i]; rfl
        have h5s : ∀ x y : Int, (e5.map edgeC).set a.toNat [.sc (.int .i64 x), .sc (.int .i64 y)] = (e5.set a.toNat (x, y)).map edgeC := fun x y => by rw [List.map_set]; rfl
        have h5l : (e5.set a.toNat ((stepM m e.1 a).1, o)).length = e5.length := List.length_set
        refine EvC.seq ?_
        refine EvC.seq (EvC.rg (by (simp only [go_sem]) <;> rfl) (by simp) ?_)
        refine EvC.cond_true (by (simp only [go_sem]) <;> rfl) ?_
        refine EvC.rg (by (simp only [go_sem, h5g, edgeC, List.length_map, h5s]) <;> rfl) (by simp; try omega) ?_
        refine EvC.seq (EvC.rg (by (simp only [go_sem, hge, edgeC, hel, hsetE, List.length_map]) <;> rfl) (by simp [edgeC]) ?_)
        refine EvC.frz 39 (by (simp only [go_sem, List.length_map, h5l]) <;> rfl) ?_
        refine EvC.rg (by (simp only [go_sem, hRl, hr8]) <;> rfl) (by simp) ?_
        have hex1 : ([[.sl false ((e5.set a.toNat ((stepM m e.1 a).1, o)).map edgeC) .full]] : List (List AV)).all AV.norefs = true := by simp [AV.norefs, AV.noref, norefs_edges]
        have hex3 : ([[.sl false ((e5.set a.toNat ((stepM m e.1 a).1, o)).map edgeC) .full]] : List (List AV)).map (fun c => c.map (AV.ren [(0, 0), (1, 1), (2, 2), (3, 3)])) = [[.sl false ((e5.set a.toNat ((stepM m e.1 a).1, o)).map edgeC) .full]] := by simp [AV.ren, AV.noref, norefs_edges]
        generalize hXX : ([[.sl false ((e5.set a.toNat ((stepM m e.1 a).1, o)).map edgeC) .full]] : List (List AV)) = XX at hex1 hex3 ⊢
        have hXl : XX.length = 1 := by rw [← hXX]; rfl
        refine ⟨rfl, (r.2.set i.toNat ((m.rows.length : Int), e.2), XX), ⟨hset2 _, hex1, (fun c hc => by subst hXX; simp only [List.mem_singleton] at hc; rw [hc]; rfl), ?_⟩, fun c Q h => ?_⟩
        · rw [hraw, rawRows, if_neg (show ¬ (4 : Int) = 0 by decide), if_neg (show ¬ (4 : Int) = 1 by decide), if_neg (show ¬ (4 : Int) = 2 by decide), if_neg (show ¬ (4 : Int) = 3 by decide), hE, hrt, hXX]
        rw [hXl] at h
        refine EvC.gcE [4, 7] [(0, 0), (1, 1), (2, 2), (3, 3)] 4 rfl (by (simp only [go_sem, hnr, hrn, List.all_append, Bool.false_and, hex1, hex3, List.map_append]) <;> rfl) h
  have dk : decide ((k : Int) < m.rows.length) = true := decide_eq_true (by omega)
  have hk : m.rows[k]? = some (m.rows[k]'hkl) := List.getElem?_eq_getElem hkl
  have hkm := List.getElem_mem hkl
  have hkn := hnn.row hv hkm
  have hkr := (hv.row _ hkm).1
  generalize m.rows[k]'hkl = rk at hk hkn hkr
  obtain ⟨bk, es⟩ := rk
  simp only [Prod.mk.injEq] at hkn hkr
  obtain ⟨rfl, _⟩ := hkn
  have hin : (k : Int).toNat = k := Int.toNat_natCast k
  have hr8 : room (k + 1) 24 = true := by simp only [room_eq, decide_eq_true_eq]; omega
  have hk1d : decide (k + 1 = 0) = false := decide_eq_false (by omega)
  have hel : (es.map edgeC).length = es.length := List.length_map _
  by_cases hkS : k = S
  · subst hkS
    have hre : r = (false, es) := by rw [hk] at h1; exact (Option.some.inj h1).symm
    subst hre
    have hsn := rowsK_self (m := m) (S := k) (v := .tv 3 n 0 n (.val n)) (w := .tv 3 n 0 n (.val n)) hk
    have hl0 : rowsK m k k (.tv 3 n 0 n (.val n)) = ((m.rows.take k).map fun r => ((false, r.2) : Row)).map rowC := by rw [rowsK, List.set_eq_of_length_le (by simp; omega)]
    rw [hlo k (by omega)]
    refine EvC.seq (EvC.rg (by (simp only [go_sem]) <;> rfl) (by simp) ?_)
    refine EvC.seq ?_
    refine EvC.cond_true (by (simp only [go_sem, dk]) <;> rfl) ?_
    refine EvC.skip ?_
    refine EvC.seq ?_
    refine EvC.block ?_  -- 1
    refine EvC.seq (EvC.rg (by (simp only [go_sem, hk, hin, rowC]) <;> rfl) (by simp) ?_)
    have hsn := rowsK_self (m := m) (S := k) (v := .tv 11 n 0 n (.val n)) (w := .tv 3 n 0 n (.val n)) hk
    rw [hl0] at hsn
    have q1 := clone80_new es .unk (by omega) (by omega)
    have hnl : n = es.length := hn
    have hRl4 : (rowsK m (k + 1) k (.tv 11 n 0 n (.val n))).length = k + 1 := rowsK_len (by omega)
    have hRl : (((m.rows.take k).map fun r => ((false, r.2) : Row)).map rowC).length = k := by simp; omega
    apply EvC.drwA mixed  -- R9
    · apply Tr.run
      · (simp only [go_sem]) <;> rfl
      · simp
      apply Tr.cons
      · exact .callN rfl rfl (by (simp only [go_sem]) <;> rfl) (by (simp only [go_sem]) <;> rfl) (by (simp only [go_sem]) <;> rfl) (by (simp only [go_sem]) <;> rfl) (by (simp only [go_sem]) <;> rfl) q1
      apply Tr.cons
      · exact .clip (i := 11) (n := es.length) rfl rfl (by (simp only [go_sem]) <;> rfl) (by (simp only [go_sem]) <;> rfl) (by (simp only [go_sem, hel]) <;> rfl) (by (simp only [go_sem]) <;> rfl) (by rw [hel]) (by omega) (by omega) (by (simp only [go_sem]) <;> rfl) clip79_clips
      apply Tr.done
      · (simp only [go_sem, hRl, hel, ← hnl, hsn, hRl4]) <;> rfl
      · simp [hr8]
    · kernel_rfl
    have hkk : k + 1 ≤ m.rows.length := hkl
    have hnr : (rowsK m (k + 1) k (.tv 11 n 0 n (.val n))).all AV.norefs = false := rowsK_norefs (by omega) hkk rfl
    have hrn := rowsK_ren m (k + 1) k (.tv 11 n 0 n (.val n)) [(0, 0), (1, 1), (2, 2), (11, 3)]
    refine EvC.rg (by (simp only [go_sem]) <;> rfl) (by exact inI64_of (by omega) (by omega)) ?_
    exact ⟨[(0, 0), (1, 1), (2, 2), (11, 3)], k + 1, rfl, (by rw [hhi (k + 1) (by omega)]; (simp only [go_sem, hnr, hrn, hk1d, Bool.and_false, Int.natCast_add, Int.natCast_one]) <;> rfl), hkk, by omega⟩
  · have hsn := rowsK_other (v := .tv 3 n 0 n (.val n)) hk hkS
    simp only at hsn
    have hkk : k + 1 ≤ m.rows.length := hkl
    have hRl : (((m.rows.take k).map fun r => ((false, r.2) : Row)).map rowC).length = k := by simp; omega
    have hRl2 : (rowsK m k S (.tv 3 n 0 n (.val n))).length = k := rowsK_len (by omega)
    have hRl3 : (rowsK m (k + 1) S (.tv 3 n 0 n (.val n))).length = k + 1 := rowsK_len (by omega)
    have hRl5 : (List.take (k + 1) m.rows).length = k + 1 := by simp; omega
    have q1 := clone80_is es .unk (by omega)
    have q2 := clip79_is es .unk
    rcases Nat.lt_or_ge k S with hlt | hge
    · have hl0 : rowsK m k S (.tv 3 n 0 n (.val n)) = ((m.rows.take k).map fun r => ((false, r.2) : Row)).map rowC := by rw [rowsK, List.set_eq_of_length_le (by simp; omega)]
      have hl1 : rowsK m (k + 1) S (.tv 3 n 0 n (.val n)) = ((m.rows.take (k + 1)).map fun r => ((false, r.2) : Row)).map rowC := by rw [rowsK, List.set_eq_of_length_le (by simp; omega)]
      rw [hl0, hl1] at hsn
      have hsn : List.map rowC (List.map (fun r => (false, r.snd)) (List.take k m.rows)) ++ [[.sl false (es.map edgeC) .unk]] = List.map rowC (List.map (fun r => (false, r.snd)) (List.take (k + 1) m.rows)) := hsn
      rw [hlo k (by omega)]
      refine EvC.seq (EvC.rg (by (simp only [go_sem]) <;> rfl) (by simp) ?_)
      refine EvC.seq ?_
      refine EvC.cond_true (by (simp only [go_sem, dk]) <;> rfl) ?_
      refine EvC.skip ?_
      refine EvC.seq ?_
      refine EvC.block ?_  -- 1
      refine EvC.seq (EvC.rg (by (simp only [go_sem, hk, hin, rowC]) <;> rfl) (by simp) ?_)
      apply EvC.drwA mixed  -- R9
      · apply Tr.run
        · (simp only [go_sem]) <;> rfl
        · simp
        apply Tr.cons
        · exact .call rfl rfl (by (simp only [go_sem]) <;> rfl) (by (simp only [go_sem]) <;> rfl) (by (simp only [go_sem]) <;> rfl) (by (simp only [go_sem]) <;> rfl) (by (simp only [go_sem]) <;> rfl) q1
        apply Tr.cons
        · exact .call rfl rfl (by (simp only [go_sem]) <;> rfl) (by (simp only [go_sem]) <;> rfl) (by (simp only [go_sem]) <;> rfl) (by (simp only [go_sem]) <;> rfl) (by (simp only [go_sem]) <;> rfl) q2
        apply Tr.done
        · (simp only [go_sem, hRl, hsn, List.length_map, hRl5]) <;> rfl
        · simp [hr8]
      · kernel_rfl
      refine EvC.rg (by (simp only [go_sem]) <;> rfl) (by exact inI64_of (by omega) (by omega)) ?_
      have hnr : (List.map rowC (List.map (fun r => ((false, r.snd) : Row)) (List.take (k + 1) m.rows))).all AV.norefs = true := by
        simp only [List.all_eq_true]
        intro c hc
        obtain ⟨r, _, rfl⟩ := List.mem_map.1 hc
        exact rowC_norefs r
      exact ⟨[(0, 0), (1, 1), (2, 2)], k + 1, rfl, (by rw [hlo (k + 1) (by omega)]; (simp only [go_sem, hnr, hk1d, Bool.and_false, Int.natCast_add, Int.natCast_one]) <;> rfl), hkk, by omega⟩
    · have hsn : rowsK m k S (.tv 3 n 0 n (.val n)) ++ [[.sl false (es.map edgeC) .unk]] = rowsK m (k + 1) S (.tv 3 n 0 n (.val n)) := hsn
      rw [hhi k (by omega)]
      refine EvC.seq (EvC.rg (by (simp only [go_sem]) <;> rfl) (by simp) ?_)
      refine EvC.seq ?_
      refine EvC.cond_true (by (simp only [go_sem, dk]) <;> rfl) ?_
      refine EvC.skip ?_
      refine EvC.seq ?_
      refine EvC.block ?_  -- 1
      refine EvC.seq (EvC.rg (by (simp only [go_sem, hk, hin, rowC]) <;> rfl) (by simp) ?_)
      apply EvC.drwA mixed  -- R9
      · apply Tr.run
        · (simp only [go_sem]) <;> rfl
        · simp
        apply Tr.cons
        · exact .call rfl rfl (by (simp only [go_sem]) <;> rfl) (by (simp only [go_sem]) <;> rfl) (by (simp only [go_sem]) <;> rfl) (by (simp only [go_sem]) <;> rfl) (by (simp only [go_sem]) <;> rfl) q1
        apply Tr.cons
        · exact .call rfl rfl (by (simp only [go_sem]) <;> rfl) (by (simp only [go_sem]) <;> rfl) (by (simp only [go_sem]) <;> rfl) (by (simp only [go_sem]) <;> rfl) (by (simp only [go_sem]) <;> rfl) q2
        apply Tr.done
        · (simp only [go_sem, hRl2, hsn, hRl3]) <;> rfl
        · simp [hr8]
      · kernel_rfl
      have hnr : (rowsK m (k + 1) S (.tv 3 n 0 n (.val n))).all AV.norefs = false := rowsK_norefs (by omega) hkk rfl
      have hrn := rowsK_ren m (k + 1) S (.tv 3 n 0 n (.val n)) [(0, 0), (1, 1), (2, 2), (3, 3)]
      refine EvC.rg (by (simp only [go_sem]) <;> rfl) (by exact inI64_of (by omega) (by omega)) ?_
      exact ⟨[(0, 0), (1, 1), (2, 2), (3, 3)], k + 1, rfl, (by rw [hhi (k + 1) (by omega)]; (simp only [go_sem, hnr, hrn, hk1d, Bool.and_false, Int.natCast_add, Int.natCast_one]) <;> rfl), hkk, by omega⟩
end Go.Avl
namespace Go.Avl
open Go Go.Proofs.Tryd
set_option maxRecDepth 10000
set_option linter.unusedSimpArgs false

/-! ### The mutants -/
theorem norefs_mcells (m : Mach) : AV.norefs m.cells = true := by
  have h : (m.rows.map rowC).all AV.norefs = true := by
    rw [List.all_eq_true]
    intro c hc
    obtain ⟨r, _, rfl⟩ := List.mem_map.1 hc
    exact rowC_norefs r
  simp [Mach.cells, AV.norefs, AV.noref, h]
theorem norefs_machs (ms : List Mach) : (ms.map Mach.cells).all AV.norefs = true := by
  rw [List.all_eq_true]
  intro c hc
  obtain ⟨r, _, rfl⟩ := List.mem_map.1 hc
  exact norefs_mcells r
/-- Why a list of faults is not one of a machine, or 0. -/
def errFs (m : Mach) : List FA → Int
  | [] => 0
  | f :: r => if checkF m f = 0 then errFs m r else checkF m f
def mutsR (m : Mach) (fs : List FA) : AV :=
  if errFs m fs = 0 then .tu [.sl false ((fs.map (mutF m)).map Mach.cells) .unk, .sc (.int .i64 0)] else .tu [.sl true [] .unk, .sc (.int .i64 (errFs m fs))]
theorem errFs_zero {m : Mach} : ∀ {fs : List FA}, errFs m fs = 0 → ∀ f ∈ fs, checkF m f = 0
  | [], _, _, h => by cases h
  | g :: r, h, f, hf => by
    unfold errFs at h
    split at h
    · rename_i h0
      rcases List.mem_cons.1 hf with rfl | hf
      · exact h0
      · exact errFs_zero h f hf
    · contradiction
def mutC (m : Mach) (fs : List FA) (k : Nat) : List (List AV) := ((fs.take k).map (mutF m)).map Mach.cells
theorem mutC_succ {m : Mach} {fs : List FA} {k : Nat} {f : FA} (h : fs[k]? = some f) : mutC m fs k ++ [(mutF m f).cells] = mutC m fs (k + 1) := by
  obtain ⟨hi, he⟩ := List.getElem?_eq_some_iff.1 h
  unfold mutC
  rw [List.take_succ_eq_append_getElem hi, he, List.map_append, List.map_append]; rfl
theorem mutC_len {m : Mach} {fs : List FA} {k : Nat} (h : k ≤ fs.length) : (mutC m fs k).length = k := by simp [mutC]; omega
@[go_sem] theorem norefs_mutC (m : Mach) (fs : List FA) (k : Nat) : (mutC m fs k).all AV.norefs = true := norefs_machs _

theorem mutants_is {m : Mach} (hv : Valid m) (hc0 : checkM m = 0) (hnn : NoNil m) (fn : Bool) (fs : List FA) (fc : Cp) (hfl : fs.length < 1000000) :
    PureIs prog 50 [.ag m.cells, .sl fn (fs.map FA.cells) fc] (mutsR m fs) := by
  refine PureIs.of (nv := 3) (hid := [4, 5, 6, 8, 9, 10, 14, 15, 16, 17, 27]) func50 rfl (by kernel_rfl) (by simp [ntmps50]) fun _ => ?_
  rw [ntmps50, results50]
  refine EvC.seq (EvC.rg (by (simp only [go_sem, Mach.cells]) <;> rfl) (by simp) ?_)
  refine EvC.frzB 0 (by (simp only [go_sem]) <;> rfl) ?_
  have hr : room fs.length 40 = true := by simp only [room_eq, decide_eq_true_eq]; omega
  refine EvC.seq (EvC.rg (by (simp only [go_sem, List.length_map]) <;> rfl) (by simp [hr]; try omega) ?_)
  refine EvC.seq ?_
  refine EvC.seq (EvC.rg (by (simp only [go_sem, List.length_map]) <;> rfl) (by simp) ?_)
  refine EvC.block ?_  -- 0
  refine EvC.loopS (σ := Nat) (fun k => ⟨[(2, .ia [.sc (.int .i64 m.ins), .sc (.int .i64 m.outs), .sl m.nl (m.rows.map rowC) .unk]), (6, .tl 0 k false), (14, .sl fn (fs.map FA.cells) fc), (15, .sc (.int .i64 fs.length)), (16, .sc (.int .i64 k))], [], [(0, .arr 3 (mutC m fs k) false)], 1⟩) (fun k => fs.length - k) (fun k => k ≤ fs.length ∧ errFs m fs = errFs m (fs.drop k)) [2, 6, 14, 15, 16] 1 ?_ ?_
  · exact ⟨[(5, 0)], 0, rfl, (by (simp only [go_sem, Int.natCast_zero, mutC, List.take_zero, List.map_nil]) <;> rfl), Nat.zero_le _, rfl⟩
  rintro k ⟨hk1, hinv⟩
  have hml := mutC_len (m := m) hk1
  refine EvC.seq (EvC.rg (by (simp only [go_sem]) <;> rfl) (by simp) ?_)
  refine EvC.seq ?_
  refine EvC.cond (by (simp only [go_sem]) <;> rfl) (fun hc => ?_) (fun hc => ?_)
  rotate_left
  · -- else
    refine EvC.exit ?_  -- 0
    obtain rfl : fs.length = k := by have : ¬ k < fs.length := by simpa using hc
                                     omega
    rw [List.drop_length] at hinv
    have hinv : errFs m fs = 0 := hinv
    rw [mutsR, if_pos hinv]
    have hmc : (fs.map (mutF m)).map Mach.cells = mutC m fs fs.length := by rw [mutC, List.take_length]
    rw [hmc]
    have hn := norefs_mutC m fs fs.length
    generalize mutC m fs fs.length = L at hml hn
    refine EvC.frz 0 (by (simp only [go_sem, hn, hml]) <;> rfl) ?_
    refine EvC.seq (EvC.rg (by (simp only [go_sem, hml]) <;> rfl) (by simp) ?_)
    refine EvC.ret ⟨.inl rfl, _, (by (simp only [go_sem, hml]) <;> rfl), ?_, by simp [AV.noref, AV.norefs, hn]⟩
    simp only [go_sem, hml]
  have hkl : k < fs.length := by simpa using hc
  clear hc
  have he : fs[k]? = some (fs[k]'hkl) := List.getElem?_eq_getElem hkl
  have hdr : fs.drop k = fs[k]'hkl :: fs.drop (k + 1) := List.drop_eq_getElem_cons hkl
  generalize fs[k]'hkl = f at he hdr
  rw [hdr, errFs] at hinv
  have hin : (k : Int).toNat = k := Int.toNat_natCast k
  have q := apply71_is hv hc0 hnn f
  have hs := mutC_succ (m := m) he
  have hml2 := mutC_len (m := m) (k := k + 1) hkl
  have hr2 : room (k + 1) 40 = true := by simp only [room_eq, decide_eq_true_eq]; omega
  refine EvC.skip ?_
  refine EvC.seq ?_
  refine EvC.block ?_  -- 1
  refine EvC.seq (EvC.rg (by (simp only [go_sem, he, hin, FA.cells, List.length_map]) <;> rfl) (by simp) ?_)
  unfold applyR at q
  generalize mutF m f = mf at q hs
  have hmr : AV.norefs mf.cells = true := norefs_mcells mf
  simp only [Mach.cells] at q hs hmr
  by_cases h0 : checkF m f = 0
  · rw [if_pos h0] at q hinv
    apply EvC.seq
    apply EvC.tr
    · apply Tr.run
      · (simp only [go_sem, Mach.cells, FA.cells]) <;> rfl
      · simp
      apply Tr.cons
      · exact .call rfl rfl (by (simp only [go_sem]) <;> rfl) (by (simp only [go_sem]) <;> rfl) (by (simp only [go_sem]) <;> rfl) (by (simp only [go_sem]) <;> rfl) (by (simp only [go_sem]) <;> rfl) (q)
      apply Tr.done
      · (simp only [go_sem]) <;> rfl
      · simp
    refine EvC.seq ?_
    refine EvC.seq (EvC.rg (by (simp only [go_sem]) <;> rfl) (by simp) ?_)
    refine EvC.cond_false (by (simp only [go_sem]) <;> rfl) ?_
    refine EvC.skip ?_
    refine EvC.rg (by (simp only [go_sem, hml, hr2, hs]) <;> rfl) (by simp) ?_
    refine EvC.rg (by (simp only [go_sem]) <;> rfl) (by exact inI64_of (by omega) (by omega)) ?_
    exact ⟨[(0, 0)], k + 1, rfl, (by (simp only [go_sem, Int.natCast_add, Int.natCast_one, hml2]) <;> rfl), ⟨hkl, hinv⟩, by omega⟩
  · rw [if_neg h0] at q hinv
    apply EvC.seq
    apply EvC.tr
    · apply Tr.run
      · (simp only [go_sem, Mach.cells, FA.cells]) <;> rfl
      · simp
      apply Tr.cons
      · exact .call rfl rfl (by (simp only [go_sem]) <;> rfl) (by (simp only [go_sem]) <;> rfl) (by (simp only [go_sem]) <;> rfl) (by (simp only [go_sem]) <;> rfl) (by (simp only [go_sem]) <;> rfl) (q)
      apply Tr.done
      · (simp only [go_sem]) <;> rfl
      · simp
    refine EvC.seq ?_
    refine EvC.seq (EvC.rg (by (simp only [go_sem]) <;> rfl) (by simp) ?_)
    refine EvC.cond_true (by (simp only [go_sem, h0]) <;> rfl) ?_
    refine EvC.seq (EvC.rg (by (simp only [go_sem]) <;> rfl) (by simp) ?_)
    rw [mutsR, if_neg (by rw [hinv]; exact h0), hinv]
    refine EvC.ret ⟨.inl rfl, _, (by (simp only [go_sem]) <;> rfl), ?_, rfl⟩
    simp only [go_sem]
end Go.Avl
