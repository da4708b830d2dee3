/-
  Lemmas.
  Lemmas.
  Lemmas.
  Lemmas.
  Lemmas.
  Lemmas.
  Lemmas.
  Lemmas.
  Lemmas.
  Lemmas.
  From a law's row to its contract: arguments opened, and read again behind the call.
  How the arguments of these laws read.
-/
import Derived.ProofKit
import Derived.OpenShut
import Derived.Test.YtbiifplfohnpeaaRows
import Derived.Test.YtbiifplfohnpeaaPart6
set_option linter.unusedSimpArgs false
set_option linter.unusedVariables false
set_option linter.unnecessarySimpa false
set_option linter.deprecated false
namespace Go.Avl
open Go Go.Proofs.Try
set_option maxRecDepth 10000
set_option linter.unusedSimpArgs false

/-- Whether all edges are defined. -/
def comp (m : Mach) (N : Nat) : Bool := (undL m (prs m.rows.length N)).isEmpty
def sinkRows (m : Mach) (N : Nat) (out : Int) : List Row :=
  if comp m N = true then fillR m m.rows.length N (fun _ => (m.rows.length : Int) - 1) out
  else fillR m m.rows.length N (fun _ => (m.rows.length : Int)) out ++ [(false, List.replicate N ((m.rows.length : Int), out))]
theorem fillR_len (m : Mach) (n N : Nat) (to : Nat → Int) (out : Int) : (fillR m n N to out).length = n := by simp [fillR]
theorem rowG_one (l : List Row) : ((l.map rowG).all fun y => decide (y.length = 1)) = true := by simp [rowG, List.all_eq_true]
def sinksA (m : Mach) (N : Nat) (out : Int) : AV :=
  if comp m N = false ∧ m.rows.length = 64 then errA 3 else .tu [.ag [.sc (.int .i64 m.ins), .sc (.int .i64 m.outs), .sl false ((sinkRows m N out).map rowG) .full], .sc (.int .i64 0)]
theorem sinksA_noref (m : Mach) (N : Nat) (out : Int) : (sinksA m N out).noref = true := by unfold sinksA; split <;> rfl
theorem sinks_is {m : Mach} (hm : checkM m = 0) {N : Nat} (hN : m.ins = (N : Int)) (out : Int) : PureIs prog 49 [.ag m.cells, .sc (.int .i64 out)] (sinksA m N out) := by
  have hv := Valid.of hm
  have hrw := hv.rows
  have hin := hv.ins
  obtain ⟨n, hn⟩ : ∃ n, n = m.rows.length := ⟨_, rfl⟩
  have hcm := complete_is hm hN
  rw [show (undL m (prs m.rows.length N)).isEmpty = comp m N from rfl] at hcm
  have hI1 : inI64 ((n : Int) - 1) = true := inI64_of (by omega) (by omega)
  refine PureIs.of (nv := 3) (hid := [4, 5, 6, 7, 9, 18, 22, 32]) func49 rfl (by kernel_rfl) (by simp [ntmps49]) fun _ => ?_
  rw [ntmps49, results49]
  refine EvC.seq (EvC.rg (by (simp only [go_sem, Mach.cells]) <;> rfl) (by simp) ?_)
  refine EvC.frzB 0 (by (simp only [go_sem]) <;> rfl) ?_
  refine EvC.seq (EvC.rg (by (simp only [go_sem, List.length_map, ← hn]) <;> rfl) (by simp) ?_)
  refine EvC.seq ?_
  apply EvC.seq
  apply EvC.tr
  · apply Tr.run
    · (simp only [go_sem, Mach.cells]) <;> rfl
    · simp
    apply Tr.cons
    · exact .call rfl rfl (by (simp only [go_sem]) <;> rfl) (by (simp only [go_sem]) <;> rfl) (by (simp only [go_sem]) <;> rfl) (by (simp only [go_sem]) <;> rfl) (by (simp only [go_sem]) <;> rfl) (hcm)
    apply Tr.done
    · (simp only [go_sem]) <;> rfl
    · simp
  refine EvC.seq (EvC.rg (by (simp only [go_sem]) <;> rfl) (by simp) ?_)
  cases hcp : comp m N with
  | true =>
    refine EvC.cond_true (by (simp only [go_sem, hcp]) <;> rfl) ?_
    refine EvC.rg (by (simp only [go_sem, hcp]) <;> rfl) (by simp [hI1]) ?_
    have hfl := filled_is hv hN (tf := 64) (tc := [.ia [.sc (.int .i64 ((n : Int) - 1))]]) (.inr ⟨_, rfl⟩) out (fun _ => (n : Int) - 1) (fun s _ => sinks1_is (s : Int) ((n : Int) - 1))
    rw [← hn] at hfl
    refine EvC.frzB 6 (by (simp only [go_sem]) <;> rfl) ?_
    apply EvC.seq
    apply EvC.tr
    · apply Tr.run
      · (simp only [go_sem, Mach.cells]) <;> rfl
      · simp
      apply Tr.cons
      · exact .call rfl rfl (by (simp only [go_sem]) <;> rfl) (by (simp only [go_sem]) <;> rfl) (by (simp only [go_sem]) <;> rfl) (by (simp only [go_sem]) <;> rfl) (by (simp only [go_sem]) <;> rfl) (hfl)
      apply Tr.done
      · (simp only [go_sem]) <;> rfl
      · simp
    have hne : decide ((n : Int) - 1 = (n : Int)) = false := decide_eq_false (by omega)
    refine EvC.seq ?_
    refine EvC.seq (EvC.rg (by (simp only [go_sem, List.length_map, ← hn, hne]) <;> rfl) (by simp) ?_)
    refine EvC.cond_false (by (simp only [go_sem]) <;> rfl) ?_
    refine EvC.skip ?_
    apply EvC.seq
    apply EvC.tr
    · apply Tr.run
      · (simp only [go_sem]) <;> rfl
      · simp
      apply Tr.cons
      · exact .call rfl rfl (by (simp only [go_sem]) <;> rfl) (by (simp only [go_sem]) <;> rfl) (by (simp only [go_sem]) <;> rfl) (by (simp only [go_sem]) <;> rfl) (by (simp only [go_sem]) <;> rfl) (clip56_is false ((fillR m n N (fun _ => (n : Int) - 1) out).map rowG) .full (rowG_one _))
      apply Tr.done
      · (simp only [go_sem]) <;> rfl
      · simp
    refine EvC.seq (EvC.rg (by (simp only [go_sem]) <;> rfl) (by simp) ?_)
    refine EvC.ret ⟨.inl rfl, _, (by (simp only [go_sem]) <;> rfl), ?_, sinksA_noref _ _ _⟩
    simp only [go_sem]
    rw [sinksA, if_neg (by simp [hcp]), sinkRows, if_pos hcp, hn]
  | false =>
    refine EvC.cond_false (by (simp only [go_sem, hcp]) <;> rfl) ?_
    refine EvC.seq (EvC.rg (by (simp only [go_sem, hcp]) <;> rfl) (by simp) ?_)
    refine EvC.cond (by (simp only [go_sem]) <;> rfl) (fun hc => ?_) (fun hc => ?_)
    · have h64 : n = 64 := by have : (n : Int) = 64 := by simpa using hc
                              omega
      refine EvC.seq (EvC.rg (by (simp only [go_sem]) <;> rfl) (by simp) ?_)
      refine EvC.ret ⟨.inl rfl, _, (by (simp only [go_sem]) <;> rfl), ?_, sinksA_noref _ _ _⟩
      simp only [go_sem]
      rw [sinksA, if_pos ⟨hcp, by omega⟩]; rfl
    have h64 : ¬ n = 64 := by have : ¬ (n : Int) = 64 := by simpa using hc
                              omega
    clear hc
    refine EvC.skip ?_
    have hfl := filled_is hv hN (tf := 64) (tc := [.ia [.sc (.int .i64 (n : Int))]]) (.inr ⟨_, rfl⟩) out (fun _ => (n : Int)) (fun s _ => sinks1_is (s : Int) (n : Int))
    rw [← hn] at hfl
    refine EvC.frzB 6 (by (simp only [go_sem]) <;> rfl) ?_
    apply EvC.seq
    apply EvC.tr
    · apply Tr.run
      · (simp only [go_sem, Mach.cells]) <;> rfl
      · simp
      apply Tr.cons
      · exact .call rfl rfl (by (simp only [go_sem]) <;> rfl) (by (simp only [go_sem]) <;> rfl) (by (simp only [go_sem]) <;> rfl) (by (simp only [go_sem]) <;> rfl) (by (simp only [go_sem]) <;> rfl) (hfl)
      apply Tr.done
      · (simp only [go_sem]) <;> rfl
      · simp
    have heq : decide ((n : Int) = (n : Int)) = true := by simp
    refine EvC.seq ?_
    refine EvC.seq (EvC.rg (by (simp only [go_sem, List.length_map, ← hn, heq]) <;> rfl) (by simp) ?_)
    refine EvC.cond_true (by (simp only [go_sem]) <;> rfl) ?_
    have hrp := repeat_is ((n : Int), out) (N := N) (by omega)
    have hfa : (((fillR m n N (fun _ => (n : Int)) out).map rowG).all fun y => decide (y.length = 1) && AV.norefs y) = true := by simp [rowG, List.all_eq_true, AV.norefs, AV.noref]
    have hfl2 := fillR_len m n N (fun _ => (n : Int)) out
    apply EvC.drw mixed
    · apply Tr.run
      · (simp only [go_sem, Mach.cells, hN]) <;> rfl
      · simp
      apply Tr.cons
      · exact .call rfl rfl (by (simp only [go_sem]) <;> rfl) (by (simp only [go_sem]) <;> rfl) (by (simp only [go_sem]) <;> rfl) (by (simp only [go_sem]) <;> rfl) (by (simp only [go_sem]) <;> rfl) (hrp)
      apply Tr.done
      · (simp only [go_sem, hfa, List.length_map, hfl2]) <;> rfl
      · simp [room_eq, AV.norefs, AV.noref]; try omega
    · kernel_rfl
    have hone : ((((fillR m n N (fun _ => (n : Int)) out).map rowG) ++ [[AV.sl false (List.replicate N (edgeC ((n : Int), out))) .full]]).all fun y => decide (y.length = 1)) = true := by simp [rowG, List.all_eq_true]
    apply EvC.seq
    apply EvC.tr
    · apply Tr.run
      · (simp only [go_sem]) <;> rfl
      · simp
      apply Tr.cons
      · exact .call rfl rfl (by (simp only [go_sem]) <;> rfl) (by (simp only [go_sem]) <;> rfl) (by (simp only [go_sem]) <;> rfl) (by (simp only [go_sem]) <;> rfl) (by (simp only [go_sem]) <;> rfl) (clip56_is false (((fillR m n N (fun _ => (n : Int)) out).map rowG) ++ [[AV.sl false (List.replicate N (edgeC ((n : Int), out))) .full]]) .unk hone)
      apply Tr.done
      · (simp only [go_sem]) <;> rfl
      · simp
    refine EvC.seq (EvC.rg (by (simp only [go_sem]) <;> rfl) (by simp) ?_)
    refine EvC.ret ⟨.inl rfl, _, (by (simp only [go_sem]) <;> rfl), ?_, sinksA_noref _ _ _⟩
    simp only [go_sem]
    rw [sinksA, if_neg (by omega), sinkRows, if_neg (by simp [hcp]), ← hn, hN]
    simp [rowG, List.map_replicate]

def loopsA (m : Mach) (N : Nat) (out : Int) : AV := .tu [.ag [.sc (.int .i64 m.ins), .sc (.int .i64 m.outs), .sl false ((fillR m m.rows.length N (fun s => s) out).map rowG) .full], .sc (.int .i64 0)]
def fillA (m : Mach) (way out : Int) : AV :=
  if checkM m ≠ 0 then errA (checkM m) else if 1 < way ∨ out < 0 ∨ m.outs ≤ out then errA 1 else if way = 0 then loopsA m m.ins.toNat out else sinksA m m.ins.toNat out
theorem fillA_noref (m : Mach) (way out : Int) : (fillA m way out).noref = true := by unfold fillA; split; rfl; split; rfl; split; rfl; exact sinksA_noref _ _ _
theorem fill_is (m : Mach) (hr : ∀ r ∈ m.rows, r.2.length < 1000000) (way out : Int) (hw : 0 ≤ way) : PureIs prog 25 [.ag m.cells, .sc (.int .u8 way), .sc (.int .i64 out)] (fillA m way out) := by
  refine PureIs.of (nv := 4) (hid := [6, 7, 8, 9, 13, 27]) func25 rfl (by kernel_rfl) (by simp [ntmps25]) fun _ => ?_
  rw [ntmps25, results25]
  refine EvC.seq (EvC.rg (by (simp only [go_sem, Mach.cells]) <;> rfl) (by simp) ?_)
  refine EvC.frzB 0 (by (simp only [go_sem]) <;> rfl) ?_
  refine EvC.seq ?_
  apply EvC.seq
  apply EvC.tr
  · apply Tr.run
    · (simp only [go_sem, Mach.cells]) <;> rfl
    · simp
    apply Tr.cons
    · exact .call rfl rfl (by (simp only [go_sem]) <;> rfl) (by (simp only [go_sem]) <;> rfl) (by (simp only [go_sem]) <;> rfl) (by (simp only [go_sem]) <;> rfl) (by (simp only [go_sem]) <;> rfl) (check_is m hr)
    apply Tr.done
    · (simp only [go_sem]) <;> rfl
    · simp
  refine EvC.seq (EvC.rg (by (simp only [go_sem]) <;> rfl) (by simp) ?_)
  refine EvC.cond (by (simp only [go_sem]) <;> rfl) (fun hc => ?_) (fun hc => ?_)
  · refine EvC.seq (EvC.rg (by (simp only [go_sem]) <;> rfl) (by simp) ?_)
    refine EvC.ret ⟨.inl rfl, _, (by (simp only [go_sem]) <;> rfl), ?_, fillA_noref _ _ _⟩
    simp only [go_sem]
    rw [fillA, if_pos (by simpa using hc)]; rfl
  have hm : checkM m = 0 := by simpa using hc
  have hv := Valid.of hm
  have hin := hv.ins
  clear hc
  refine EvC.skip ?_
  refine EvC.seq ?_
  apply EvC.seq
  apply EvC.trd
  · (simp only [go_sem]) <;> rfl
  · simp
  refine EvC.cond (by (simp only [go_sem]) <;> rfl) (fun hc => ?_) (fun hc => ?_)
  · have h : 1 < way ∨ out < 0 ∨ m.outs ≤ out := by by_cases h1 : 1 < way <;> by_cases h2 : out < 0 <;> simp_all
    refine EvC.seq (EvC.rg (by (simp only [go_sem]) <;> rfl) (by simp) ?_)
    refine EvC.ret ⟨.inl rfl, _, (by (simp only [go_sem]) <;> rfl), ?_, fillA_noref _ _ _⟩
    simp only [go_sem]
    rw [fillA, if_neg (by simpa using hm), if_pos h]; rfl
  have h : ¬ (1 < way ∨ out < 0 ∨ m.outs ≤ out) := by by_cases h1 : 1 < way <;> by_cases h2 : out < 0 <;> simp_all
  clear hc
  refine EvC.skip ?_
  have hN : m.ins = ((m.ins.toNat : Nat) : Int) := by omega
  have hB : fillA m way out = if way = 0 then loopsA m m.ins.toNat out else sinksA m m.ins.toNat out := by rw [fillA, if_neg (by simpa using hm), if_neg h]
  have hw2 : way = 0 ∨ way = 1 := by omega
  rcases hw2 with rfl | rfl
  · rw [if_pos rfl] at hB
    have hl := loops_is hv hN out
    refine EvC.seq (EvC.rg (by (simp only [go_sem]) <;> rfl) (by simp) ?_)
    apply EvC.seq
    apply EvC.drw mixed
    · apply Tr.run
      · (simp only [go_sem, Mach.cells]) <;> rfl
      · simp
      apply Tr.cons
      · exact .call rfl rfl (by (simp only [go_sem]) <;> rfl) (by (simp only [go_sem]) <;> rfl) (by (simp only [go_sem]) <;> rfl) (by (simp only [go_sem]) <;> rfl) (by (simp only [go_sem]) <;> rfl) (hl)
      apply Tr.done
      · (simp only [go_sem]) <;> rfl
      · simp
    · kernel_rfl
    refine EvC.ret ⟨.inl rfl, _, (by (simp only [go_sem]) <;> rfl), ?_, fillA_noref _ _ _⟩
    simp only [go_sem]
    rw [hB]; rfl
  · rw [if_neg (by decide)] at hB
    have hl := sinks_is hm hN out
    unfold sinksA at hl hB
    by_cases hx : comp m m.ins.toNat = false ∧ m.rows.length = 64
    · rw [if_pos hx] at hl hB
      unfold errA zeroM at hl
      refine EvC.seq (EvC.rg (by (simp only [go_sem]) <;> rfl) (by simp) ?_)
      apply EvC.seq
      apply EvC.drw mixed
      · apply Tr.run
        · (simp only [go_sem, Mach.cells]) <;> rfl
        · simp
        apply Tr.cons
        · exact .call rfl rfl (by (simp only [go_sem]) <;> rfl) (by (simp only [go_sem]) <;> rfl) (by (simp only [go_sem]) <;> rfl) (by (simp only [go_sem]) <;> rfl) (by (simp only [go_sem]) <;> rfl) (hl)
        apply Tr.done
        · (simp only [go_sem]) <;> rfl
        · simp
      · kernel_rfl
      refine EvC.ret ⟨.inl rfl, _, (by (simp only [go_sem]) <;> rfl), ?_, fillA_noref _ _ _⟩
      simp only [go_sem]
      rw [hB]; rfl
    · rw [if_neg hx] at hl hB
      refine EvC.seq (EvC.rg (by (simp only [go_sem]) <;> rfl) (by simp) ?_)
      apply EvC.seq
      apply EvC.drw mixed
      · apply Tr.run
        · (simp only [go_sem, Mach.cells]) <;> rfl
        · simp
        apply Tr.cons
        · exact .call rfl rfl (by (simp only [go_sem]) <;> rfl) (by (simp only [go_sem]) <;> rfl) (by (simp only [go_sem]) <;> rfl) (by (simp only [go_sem]) <;> rfl) (by (simp only [go_sem]) <;> rfl) (hl)
        apply Tr.done
        · (simp only [go_sem]) <;> rfl
        · simp
      · kernel_rfl
      refine EvC.ret ⟨.inl rfl, _, (by (simp only [go_sem]) <;> rfl), ?_, fillA_noref _ _ _⟩
      simp only [go_sem]
      rw [hB]
end Go.Avl
namespace Go.Avl
open Go Go.Proofs.Try
set_option maxRecDepth 10000
set_option linter.unusedSimpArgs false

/-- Whether a list is a permutation. -/
def permB (l : List Int) : Bool := (l.all fun x => decide (0 ≤ x) && decide (x < (l.length : Int))) && decide l.Nodup
theorem permB_true {l : List Int} : permB l = true ↔ (∀ x ∈ l, 0 ≤ x ∧ x < (l.length : Int)) ∧ l.Nodup := by simp [permB]
theorem permB_false_of {l : List Int} {x : Int} (hx : x ∈ l) (h : ¬ (0 ≤ x ∧ x < (l.length : Int))) : permB l = false := by
  rw [Bool.eq_false_iff]
  intro hp
  exact h ((permB_true.1 hp).1 x hx)
theorem permB_false_dup {l : List Int} {i : Nat} {x : Int} (hx : l[i]? = some x) (h : x ∈ l.take i) : permB l = false := by
  rw [Bool.eq_false_iff]
  intro hp
  have hn := (permB_true.1 hp).2
  obtain ⟨hi, rfl⟩ := List.getElem?_eq_some_iff.1 hx
  have hd : l.drop i = l[i] :: l.drop (i + 1) := List.drop_eq_getElem_cons hi
  rw [← List.take_append_drop i l, List.nodup_append] at hn
  exact hn.2.2 l[i] h l[i] (by rw [hd]; exact List.mem_cons_self) rfl
def seenF (l : List Int) (i : Nat) : Nat → Bool := fun t => decide ((t : Int) ∈ l.take i)

theorem permutes_is (nl : Bool) (l : List Int) (c : Cp) (hl : l.length < 1000000) : PureIs prog 45 [.sl nl (l.map intC) c] (.sc (.bool (permB l))) := by
  have hll : ((l.length : Nat) : Int).toNat = l.length := Int.toNat_natCast _
  refine PureIs.of (nv := 1) (hid := [2, 3, 5, 9, 10, 11, 12, 28]) func45 rfl (by kernel_rfl) (by simp [ntmps45]) fun _ => ?_
  rw [ntmps45, results45]
  refine EvC.seq (EvC.rg (by (simp only [go_sem]) <;> rfl) (by simp) ?_)
  refine EvC.seq (EvC.rg (by (simp only [go_sem, List.length_map, hll, zeros_row]) <;> rfl) (by simp [room_eq]; omega) ?_)
  refine EvC.seq ?_
  refine EvC.seq (EvC.rg (by (simp only [go_sem, List.length_map]) <;> rfl) (by simp) ?_)
  refine EvC.block ?_  -- 0
  refine EvC.loopS (σ := Nat) (fun i => ⟨[(0, .sl nl (l.map intC) c), (3, .tl 0 l.length false), (9, .sl nl (l.map intC) c), (10, .sc (.int .i64 l.length)), (11, .sc (.int .i64 i))], [], [(0, .arr 1 (bcells (seenF l i) l.length) false)], 1⟩) (fun i => l.length - i)
    (fun i => i ≤ l.length ∧ (∀ x ∈ l.take i, 0 ≤ x ∧ x < (l.length : Int)) ∧ (l.take i).Nodup) [0, 3, 9, 10, 11] 1 ?_ ?_
  · refine ⟨[(3, 0)], 0, rfl, (by simp only [show seenF l 0 = fun _ => false from rfl]; (simp only [go_sem, Int.natCast_zero]) <;> rfl), Nat.zero_le _, by simp, by simp⟩
  rintro i ⟨h1, h2, h3⟩
  refine EvC.seq (EvC.rg (by (simp only [go_sem]) <;> rfl) (by simp) ?_)
  refine EvC.seq ?_
  refine EvC.cond (by (simp only [go_sem]) <;> rfl) (fun hc => ?_) (fun hc => ?_)
  rotate_left
  · refine EvC.exit ?_  -- 0
    refine EvC.seq (EvC.rg (by (simp only [go_sem]) <;> rfl) (by simp) ?_)
    refine EvC.ret ⟨.inl rfl, _, (by (simp only [go_sem]) <;> rfl), ?_, rfl⟩
    simp only [go_sem]
    obtain rfl : i = l.length := by have : ¬ i < l.length := by simpa using hc
                                    omega
    rw [List.take_length] at h2 h3
    rw [permB_true.2 ⟨h2, h3⟩]
  have hi : i < l.length := by simpa using hc
  have he : l[i]? = some l[i] := List.getElem?_eq_getElem hi
  have hm := List.getElem_mem hi
  have htk : l.take (i + 1) = l.take i ++ [l[i]] := by rw [List.take_add_one, he]; rfl
  generalize l[i] = x at he hm htk
  clear hc
  refine EvC.skip ?_
  refine EvC.seq ?_
  refine EvC.block ?_  -- 1
  refine EvC.seq (EvC.rg (by (simp only [go_sem, he, intC]) <;> rfl) (by simp) ?_)
  refine EvC.seq ?_
  by_cases hk : 0 ≤ x ∧ x < (l.length : Int)
  · obtain ⟨t, ht⟩ : ∃ t : Nat, x = (t : Int) := ⟨x.toNat, by omega⟩
    subst ht
    have htl : t < l.length := by omega
    have hg := bcells_get (f := seenF l i) htl
    have d1 : decide ((t : Int) < 0) = false := decide_eq_false (by omega)
    have d2 : decide ((l.length : Int) ≤ (t : Int)) = false := decide_eq_false (by omega)
    apply EvC.seq
    apply EvC.trd
    · (simp only [go_sem, d1, d2, hg, bcells_len, List.length_map, Int.toNat_natCast]) <;> rfl
    · simp; try omega
    refine EvC.cond (by (simp only [go_sem]) <;> rfl) (fun hc => ?_) (fun hc => ?_)
    · have hs : (t : Int) ∈ l.take i := by simpa [seenF] using hc
      refine EvC.seq (EvC.rg (by (simp only [go_sem]) <;> rfl) (by simp) ?_)
      refine EvC.ret ⟨.inl rfl, _, (by (simp only [go_sem]) <;> rfl), ?_, rfl⟩
      simp only [go_sem]
      rw [permB_false_dup he hs]
    have hs : ¬ (t : Int) ∈ l.take i := by simpa [seenF] using hc
    clear hc
    have hset : (bcells (seenF l i) l.length).set t [.sc (.bool true)] = bcells (seenF l (i + 1)) l.length := by
      rw [bcells, range_set _ _ htl, bcells]
      refine List.map_congr_left fun k _ => ?_
      by_cases e : k = t
      · subst e; simp [seenF, htk]
      · simp only [e, if_false, seenF, htk, List.mem_append, List.mem_singleton]
        congr 3
        rw [decide_eq_decide]
        exact ⟨.inl, fun h => h.resolve_right (by omega)⟩
    refine EvC.skip ?_
    refine EvC.rg (by (simp only [go_sem, hg, bcells_len, hset, Int.toNat_natCast]) <;> rfl) (by simp; omega) ?_
    refine EvC.rg (by (simp only [go_sem]) <;> rfl) (by exact inI64_of (by omega) (by omega)) ?_
    refine ⟨[(0, 0)], i + 1, rfl, (by (simp only [go_sem, Int.natCast_add, Int.natCast_one]) <;> rfl), ⟨hi, ?_, ?_⟩, by omega⟩
    · rw [htk]; intro y hy
      rcases List.mem_append.1 hy with hy | hy
      · exact h2 y hy
      · simp at hy; subst hy; exact hk
    · rw [htk, List.nodup_append]
      exact ⟨h3, by simp, fun a ha b hb e => hs (by simp at hb; rw [← hb, ← e]; exact ha)⟩
  · have hor : (if decide (x < 0) = true then true else decide ((l.length : Int) ≤ x)) = true := by
      by_cases h : x < 0
      · simp [h]
      · simp [h]; omega
    by_cases hx0 : x < 0
    · have hg : (bcells (seenF l i) l.length)[x.toNat]? = some [.sc (.bool (seenF l i x.toNat))] := bcells_get (by omega)
      apply EvC.seq
      apply EvC.trd
      · (simp only [go_sem, List.length_map, hor, bcells_len, hg]) <;> rfl
      · simp
      refine EvC.cond_true (by (simp only [go_sem]) <;> rfl) ?_
      refine EvC.seq (EvC.rg (by (simp only [go_sem]) <;> rfl) (by simp) ?_)
      refine EvC.ret ⟨.inl rfl, _, (by (simp only [go_sem]) <;> rfl), ?_, rfl⟩
      simp only [go_sem]
      rw [permB_false_of hm hk]
    have hg : (bcells (seenF l i) l.length)[x.toNat]? = none := List.getElem?_eq_none (by rw [bcells_len]; omega)
    apply EvC.seq
    apply EvC.tr  -- R5
    · apply Tr.run
      · (simp only [go_sem, List.length_map, hor, hg]) <;> rfl
      · simp
      apply Tr.cons
      · exact .skipv (.sc (.bool true)) rfl rfl (by (simp only [go_sem]) <;> rfl) (by (simp only [go_sem]) <;> rfl)
      apply Tr.done
      · (simp only [go_sem, hor]) <;> rfl
      · simp
    refine EvC.cond_true (by (simp only [go_sem]) <;> rfl) ?_
    refine EvC.seq (EvC.rg (by (simp only [go_sem]) <;> rfl) (by simp) ?_)
    refine EvC.ret ⟨.inl rfl, _, (by (simp only [go_sem]) <;> rfl), ?_, rfl⟩
    simp only [go_sem]
    rw [permB_false_of hm hk]
end Go.Avl
namespace Go.Avl
open Go Go.Proofs.Try
set_option maxRecDepth 10000
set_option linter.unusedSimpArgs false

/-- The number at a place. -/
def gI (l : List Int) (k : Nat) : Int := (l[k]?).getD 0
theorem gI_get {l : List Int} {k : Nat} {x : Int} (h : l[k]? = some x) : gI l k = x := by simp [gI, h]
def renE (outs states : List Int) (e : Int × Int) : Int × Int := if isNone e = true then e else (gI states e.1.toNat, gI outs e.2.toNat)
theorem rename1_is {n1 n2 n3 : Bool} {states outs ins : List Int} {c1 c2 c3 : Cp} (s i : Nat) (e : Int × Int) (hs : s < states.length) (hi : i < ins.length) (he : isNone e = true ∨ (0 ≤ e.1 ∧ e.1.toNat < states.length ∧ 0 ≤ e.2 ∧ e.2.toNat < outs.length)) :
    PureIs prog 47 [.sc (.int .i64 (s : Int)), .sc (.int .i64 (i : Int)), edgeA e, .ia [.sl n1 (states.map intC) c1], .ia [.sl n2 (outs.map intC) c2], .ia [.sl n3 (ins.map intC) c3]]
      (.tu [.sc (.int .i64 (gI states s)), .sc (.int .i64 (gI ins i)), edgeA (renE outs states e)]) := by
  have h1 : states[s]? = some (gI states s) := by rw [gI, List.getElem?_eq_getElem hs]; rfl
  have h2 : ins[i]? = some (gI ins i) := by rw [gI, List.getElem?_eq_getElem hi]; rfl
  refine PureIs.of (nv := 6) (hid := [8, 9, 10, 11, 14]) func47 rfl (by kernel_rfl) (by simp [ntmps47]) fun _ => ?_
  rw [ntmps47, results47]
  refine EvC.seq (EvC.rg (by (simp only [go_sem, edgeA]) <;> rfl) (by simp) ?_)
  refine EvC.seq ?_
  apply EvC.seq
  apply EvC.drw mixed
  · apply Tr.run
    · (simp only [go_sem]) <;> rfl
    · simp
    apply Tr.cons
    · exact .call rfl rfl (by (simp only [go_sem]) <;> rfl) (by (simp only [go_sem]) <;> rfl) (by (simp only [go_sem]) <;> rfl) (by (simp only [go_sem]) <;> rfl) (by (simp only [go_sem]) <;> rfl) (none11_is)
    apply Tr.done
    · (simp only [go_sem]) <;> rfl
    · simp [descAgg, matchKinds, matchKind]
  · kernel_rfl
  refine EvC.cond (by (simp only [go_sem]) <;> rfl) (fun hc => ?_) (fun hc => ?_)
  · have hn : ¬ isNone e = true := by
      unfold isNone
      by_cases h1 : e.1 = -1 <;> by_cases h2 : e.2 = -1 <;> simp [h1, h2] at hc ⊢
    obtain ⟨k1, k2, k3, k4⟩ := he.resolve_left hn
    have h3 : states[e.1.toNat]? = some (gI states e.1.toNat) := by rw [gI, List.getElem?_eq_getElem k2]; rfl
    have h4 : outs[e.2.toNat]? = some (gI outs e.2.toNat) := by rw [gI, List.getElem?_eq_getElem k4]; rfl
    apply EvC.drd mixed
    · (simp only [go_sem, h3, h4, intC]) <;> rfl
    · simp [k1, k3]
    · kernel_rfl
    apply EvC.seq
    apply EvC.drd mixed
    · (simp only [go_sem, h1, h2, intC, Int.toNat_natCast]) <;> rfl
    · simp
    · kernel_rfl
    refine EvC.ret ⟨.inl rfl, _, (by (simp only [go_sem]) <;> rfl), ?_, by simp [edgeA, AV.noref, AV.norefs]⟩
    simp only [go_sem]
    rw [renE, if_neg hn]; rfl
  have hn : isNone e = true := by
    unfold isNone
    by_cases h1 : e.1 = -1 <;> by_cases h2 : e.2 = -1 <;> simp [h1, h2] at hc ⊢
  refine EvC.skip ?_
  apply EvC.seq
  apply EvC.drd mixed
  · (simp only [go_sem, h1, h2, intC, Int.toNat_natCast]) <;> rfl
  · simp
  · kernel_rfl
  refine EvC.ret ⟨.inl rfl, _, (by (simp only [go_sem]) <;> rfl), ?_, by simp [edgeA, AV.noref, AV.norefs]⟩
  simp only [go_sem]
  rw [renE, if_pos hn]; rfl

def renF (m : Mach) (ins outs states : List Int) : MapF := fun s i => (((gI states s).toNat, (gI ins i).toNat), renE outs states (eAt m s i))
def renM (m : Mach) (ins outs states : List Int) : Mach := ⟨m.ins, m.outs, false, mapRows (renF m ins outs states) m.rows.length m.ins.toNat⟩
def renBad (m : Mach) (ins outs states : List Int) : Prop := (ins.length : Int) ≠ m.ins ∨ (outs.length : Int) ≠ m.outs ∨ states.length ≠ m.rows.length
instance (m : Mach) (ins outs states : List Int) : Decidable (renBad m ins outs states) := by unfold renBad; exact inferInstance
def renPerm (ins outs states : List Int) : Prop := permB ins = true ∧ permB outs = true ∧ permB states = true ∧ gI states 0 = 0
instance (ins outs states : List Int) : Decidable (renPerm ins outs states) := by unfold renPerm; exact inferInstance
def renameA (m : Mach) (ins outs states : List Int) : AV :=
  if checkM m ≠ 0 then errA (checkM m) else if renBad m ins outs states then errA 16 else if renPerm ins outs states then .tu [.ag (renM m ins outs states).cellsF, .sc (.int .i64 0)] else errA 1
theorem renameA_noref (m : Mach) (ins outs states : List Int) : (renameA m ins outs states).noref = true := by unfold renameA; split; rfl; split; rfl; split; simp [AV.noref, AV.norefs, norefs_cellsF]; rfl

theorem rename_is (m : Mach) (hr : ∀ r ∈ m.rows, r.2.length < 1000000) (n1 n2 n3 : Bool) (ins outs states : List Int) (c1 c2 c3 : Cp) (l1 : ins.length < 1000000) (l2 : outs.length < 1000000) (l3 : states.length < 1000000) :
    PureIs prog 23 [.ag m.cells, .sl n1 (ins.map intC) c1, .sl n2 (outs.map intC) c2, .sl n3 (states.map intC) c3] (renameA m ins outs states) := by
  refine PureIs.of (nv := 11) (hid := [14, 17, 39]) func23 rfl (by kernel_rfl) (by simp [ntmps23]) fun _ => ?_
  rw [ntmps23, results23]
  refine EvC.seq (EvC.rg (by (simp only [go_sem, Mach.cells]) <;> rfl) (by simp) ?_)
  refine EvC.frzB 0 (by (simp only [go_sem]) <;> rfl) ?_
  refine EvC.frzB 1 (by (simp only [go_sem]) <;> rfl) ?_
  refine EvC.frzB 2 (by (simp only [go_sem]) <;> rfl) ?_
  refine EvC.frzB 3 (by (simp only [go_sem]) <;> rfl) ?_
  refine EvC.seq ?_
  apply EvC.seq
  apply EvC.tr
  · apply Tr.run
    · (simp only [go_sem, Mach.cells]) <;> rfl
    · simp
    apply Tr.cons
    · exact .call rfl rfl (by (simp only [go_sem]) <;> rfl) (by (simp only [go_sem]) <;> rfl) (by (simp only [go_sem]) <;> rfl) (by (simp only [go_sem]) <;> rfl) (by (simp only [go_sem]) <;> rfl) (check_is m hr)
    apply Tr.done
    · (simp only [go_sem]) <;> rfl
    · simp
  refine EvC.seq (EvC.rg (by (simp only [go_sem]) <;> rfl) (by simp) ?_)
  refine EvC.cond (by (simp only [go_sem]) <;> rfl) (fun hc => ?_) (fun hc => ?_)
  · refine EvC.seq (EvC.rg (by (simp only [go_sem]) <;> rfl) (by simp) ?_)
    refine EvC.ret ⟨.inl rfl, _, (by (simp only [go_sem]) <;> rfl), ?_, renameA_noref _ _ _ _⟩
    simp only [go_sem]
    rw [renameA, if_pos (by simpa using hc)]; rfl
  have hm : checkM m = 0 := by simpa using hc
  have hv := Valid.of hm
  have hin := hv.ins
  have hrw := hv.rows
  clear hc
  refine EvC.skip ?_
  refine EvC.seq ?_
  refine EvC.block ?_  -- 0
  apply EvC.seq
  apply EvC.trd
  · (simp only [go_sem, List.length_map]) <;> rfl
  · simp
  refine EvC.cond (by (simp only [go_sem]) <;> rfl) (fun hc => ?_) (fun hc => ?_)
  · have hb : renBad m ins outs states := by
      unfold renBad
      by_cases h1 : (ins.length : Int) = m.ins <;> by_cases h2 : (outs.length : Int) = m.outs <;> by_cases h3 : (states.length : Int) = m.rows.length <;> simp [h1, h2, h3] at hc ⊢
      omega
    refine EvC.seq (EvC.rg (by (simp only [go_sem]) <;> rfl) (by simp) ?_)
    refine EvC.ret ⟨.inl rfl, _, (by (simp only [go_sem]) <;> rfl), ?_, renameA_noref _ _ _ _⟩
    simp only [go_sem]
    rw [renameA, if_neg (by simpa using hm), if_pos hb]; rfl
  have hb : ¬ renBad m ins outs states := by
    unfold renBad
    by_cases h1 : (ins.length : Int) = m.ins <;> by_cases h2 : (outs.length : Int) = m.outs <;> by_cases h3 : (states.length : Int) = m.rows.length <;> simp [h1, h2, h3] at hc ⊢
    omega
  clear hc
  unfold renBad at hb
  have hs0 : states[0]? = some (gI states 0) := by rw [gI, List.getElem?_eq_getElem (by omega)]; rfl
  have hb' : ¬ renBad m ins outs states := by unfold renBad; exact hb
  have p1 := permutes_is n1 ins c1 l1
  have p2 := permutes_is n2 outs c2 l2
  have p3 := permutes_is n3 states c3 l3
  cases h1 : permB ins with
  | false =>
    rw [h1] at p1
    apply EvC.seq
    apply EvC.tr  -- R6
    · apply Tr.run
      · (simp only [go_sem, hs0, intC]) <;> rfl
      · simp
      apply Tr.cons
      · exact .call rfl rfl (by (simp only [go_sem]) <;> rfl) (by (simp only [go_sem]) <;> rfl) (by (simp only [go_sem]) <;> rfl) (by (simp only [go_sem]) <;> rfl) (by (simp only [go_sem]) <;> rfl) (p1)
      apply Tr.run
      · (simp only [go_sem, hs0, intC]) <;> rfl
      · simp
      apply Tr.cons
      · exact .skipv (.sc (.bool true)) rfl rfl (by (simp only [go_sem]) <;> rfl) (by (simp only [go_sem]) <;> rfl)
      apply Tr.run
      · (simp only [go_sem, hs0, intC]) <;> rfl
      · simp
      apply Tr.cons
      · exact .skipv (.sc (.bool true)) rfl rfl (by (simp only [go_sem]) <;> rfl) (by (simp only [go_sem]) <;> rfl)
      apply Tr.done
      · (simp only [go_sem, hs0, intC]) <;> rfl
      · simp
    refine EvC.cond_true (by (simp only [go_sem]) <;> rfl) ?_
    refine EvC.seq (EvC.rg (by (simp only [go_sem]) <;> rfl) (by simp) ?_)
    refine EvC.ret ⟨.inl rfl, _, (by (simp only [go_sem]) <;> rfl), ?_, renameA_noref _ _ _ _⟩
    simp only [go_sem]
    rw [renameA, if_neg (by simpa using hm), if_neg hb', if_neg (by unfold renPerm; simp [h1])]; rfl
  | true =>
  rw [h1] at p1
  cases h2 : permB outs with
  | false =>
    rw [h2] at p2
    apply EvC.seq
    apply EvC.tr  -- R6
    · apply Tr.run
      · (simp only [go_sem, hs0, intC]) <;> rfl
      · simp
      apply Tr.cons
      · exact .call rfl rfl (by (simp only [go_sem]) <;> rfl) (by (simp only [go_sem]) <;> rfl) (by (simp only [go_sem]) <;> rfl) (by (simp only [go_sem]) <;> rfl) (by (simp only [go_sem]) <;> rfl) (p1)
      apply Tr.run
      · (simp only [go_sem, hs0, intC]) <;> rfl
      · simp
      apply Tr.cons
      · exact .callG rfl rfl (by (simp only [go_sem]) <;> rfl) rfl (by (simp only [go_sem]) <;> rfl) (by (simp only [go_sem]) <;> rfl) (by (simp only [go_sem]) <;> rfl) (by (simp only [go_sem]) <;> rfl) (by (simp only [go_sem]) <;> rfl) (p2)
      apply Tr.run
      · (simp only [go_sem, hs0, intC]) <;> rfl
      · simp
      apply Tr.cons
      · exact .skipv (.sc (.bool true)) rfl rfl (by (simp only [go_sem]) <;> rfl) (by (simp only [go_sem]) <;> rfl)
      apply Tr.done
      · (simp only [go_sem, hs0, intC]) <;> rfl
      · simp
    refine EvC.cond_true (by (simp only [go_sem]) <;> rfl) ?_
    refine EvC.seq (EvC.rg (by (simp only [go_sem]) <;> rfl) (by simp) ?_)
    refine EvC.ret ⟨.inl rfl, _, (by (simp only [go_sem]) <;> rfl), ?_, renameA_noref _ _ _ _⟩
    simp only [go_sem]
    rw [renameA, if_neg (by simpa using hm), if_neg hb', if_neg (by unfold renPerm; simp [h2])]; rfl
  | true =>
  rw [h2] at p2
  cases h3 : permB states with
  | false =>
    rw [h3] at p3
    apply EvC.seq
    apply EvC.tr  -- R6
    · apply Tr.run
      · (simp only [go_sem, hs0, intC]) <;> rfl
      · simp
      apply Tr.cons
      · exact .call rfl rfl (by (simp only [go_sem]) <;> rfl) (by (simp only [go_sem]) <;> rfl) (by (simp only [go_sem]) <;> rfl) (by (simp only [go_sem]) <;> rfl) (by (simp only [go_sem]) <;> rfl) (p1)
      apply Tr.run
      · (simp only [go_sem, hs0, intC]) <;> rfl
      · simp
      apply Tr.cons
      · exact .callG rfl rfl (by (simp only [go_sem]) <;> rfl) rfl (by (simp only [go_sem]) <;> rfl) (by (simp only [go_sem]) <;> rfl) (by (simp only [go_sem]) <;> rfl) (by (simp only [go_sem]) <;> rfl) (by (simp only [go_sem]) <;> rfl) (p2)
      apply Tr.run
      · (simp only [go_sem, hs0, intC]) <;> rfl
      · simp
      apply Tr.cons
      · exact .callG rfl rfl (by (simp only [go_sem]) <;> rfl) rfl (by (simp only [go_sem]) <;> rfl) (by (simp only [go_sem]) <;> rfl) (by (simp only [go_sem]) <;> rfl) (by (simp only [go_sem]) <;> rfl) (by (simp only [go_sem]) <;> rfl) (p3)
      apply Tr.done
      · (simp only [go_sem, hs0, intC]) <;> rfl
      · simp
    refine EvC.cond_true (by (simp only [go_sem]) <;> rfl) ?_
    refine EvC.seq (EvC.rg (by (simp only [go_sem]) <;> rfl) (by simp) ?_)
    refine EvC.ret ⟨.inl rfl, _, (by (simp only [go_sem]) <;> rfl), ?_, renameA_noref _ _ _ _⟩
    simp only [go_sem]
    rw [renameA, if_neg (by simpa using hm), if_neg hb', if_neg (by unfold renPerm; simp [h3])]; rfl
  | true =>
  rw [h3] at p3
  apply EvC.seq
  apply EvC.tr  -- R6
  · apply Tr.run
    · (simp only [go_sem, hs0, intC]) <;> rfl
    · simp
    apply Tr.cons
    · exact .call rfl rfl (by (simp only [go_sem]) <;> rfl) (by (simp only [go_sem]) <;> rfl) (by (simp only [go_sem]) <;> rfl) (by (simp only [go_sem]) <;> rfl) (by (simp only [go_sem]) <;> rfl) (p1)
    apply Tr.run
    · (simp only [go_sem, hs0, intC]) <;> rfl
    · simp
    apply Tr.cons
    · exact .callG rfl rfl (by (simp only [go_sem]) <;> rfl) rfl (by (simp only [go_sem]) <;> rfl) (by (simp only [go_sem]) <;> rfl) (by (simp only [go_sem]) <;> rfl) (by (simp only [go_sem]) <;> rfl) (by (simp only [go_sem]) <;> rfl) (p2)
    apply Tr.run
    · (simp only [go_sem, hs0, intC]) <;> rfl
    · simp
    apply Tr.cons
    · exact .callG rfl rfl (by (simp only [go_sem]) <;> rfl) rfl (by (simp only [go_sem]) <;> rfl) (by (simp only [go_sem]) <;> rfl) (by (simp only [go_sem]) <;> rfl) (by (simp only [go_sem]) <;> rfl) (by (simp only [go_sem]) <;> rfl) (p3)
    apply Tr.done
    · (simp only [go_sem, hs0, intC]) <;> rfl
    · simp
  refine EvC.cond (by (simp only [go_sem]) <;> rfl) (fun hc => ?_) (fun hc => ?_)
  · have h0 : ¬ gI states 0 = 0 := by simpa using hc
    refine EvC.seq (EvC.rg (by (simp only [go_sem]) <;> rfl) (by simp) ?_)
    refine EvC.ret ⟨.inl rfl, _, (by (simp only [go_sem]) <;> rfl), ?_, renameA_noref _ _ _ _⟩
    simp only [go_sem]
    rw [renameA, if_neg (by simpa using hm), if_neg hb', if_neg (by unfold renPerm; simp [h0])]; rfl
  have h0 : gI states 0 = 0 := by simpa using hc
  clear hc
  refine EvC.skip ?_
  have q1 := permB_true.1 h1
  have q2 := permB_true.1 h2
  have q3 := permB_true.1 h3
  have hN : m.ins = ((m.ins.toNat : Nat) : Int) := by omega
  have hg : ∀ (l : List Int) (k : Nat), (∀ x ∈ l, 0 ≤ x ∧ x < (l.length : Int)) → k < l.length → 0 ≤ gI l k ∧ gI l k < (l.length : Int) := fun l k h hk => by
    have : gI l k = l[k] := by rw [gI, List.getElem?_eq_getElem hk]; rfl
    rw [this]; exact h _ (List.getElem_mem hk)
  have hmap := mapped_is (m := m) (n := m.rows.length) (N := m.ins.toNat) (fid := 47) (caps := [.ia [.sl n3 (states.map intC) c3], .ia [.sl n2 (outs.map intC) c2], .ia [.sl n1 (ins.map intC) c1]]) (F := renF m ins outs states) rfl (by omega) hN (by omega) (fun r hr => by have := (hv.row r hr).1; omega) rfl
    (fun s i r e k1 k2 => by
      have hs : s < m.rows.length := (List.getElem?_eq_some_iff.1 k1).1
      have hrow := hv.row r (List.mem_of_getElem? k1)
      have hil : i < r.2.length := (List.getElem?_eq_some_iff.1 k2).1
      have hfit := fits_edge (hrow.2 e (List.mem_of_getElem? k2))
      have hrl := hrow.1
      have g1 := hg states s q3.1 (by omega)
      have g2 := hg ins i q1.1 (by omega)
      have := rename1_is (n1 := n3) (n2 := n2) (n3 := n1) (c1 := c3) (c2 := c2) (c3 := c1) (states := states) (outs := outs) (ins := ins) s i e (by omega) (by omega) (by
        rcases hfit with h | h
        · left; simp [isNone, h]
        · right; omega)
      unfold renF
      rw [eAt_get k1 k2]
      refine ⟨by simp only; omega, by simp only; omega, ?_⟩
      simp only [Int.toNat_of_nonneg g1.1, Int.toNat_of_nonneg g2.1]
      exact this)
  apply EvC.seq
  apply EvC.tr
  · apply Tr.run
    · (simp only [go_sem, Mach.cells]) <;> rfl
    · simp
    apply Tr.cons
    · exact .call rfl rfl (by (simp only [go_sem]) <;> rfl) (by (simp only [go_sem]) <;> rfl) (by (simp only [go_sem]) <;> rfl) (by (simp only [go_sem]) <;> rfl) (by (simp only [go_sem]) <;> rfl) (hmap)
    apply Tr.done
    · (simp only [go_sem]) <;> rfl
    · simp
  refine EvC.ret ⟨.inl rfl, _, (by (simp only [go_sem]) <;> rfl), ?_, renameA_noref _ _ _ _⟩
  simp only [go_sem]
  rw [renameA, if_neg (by simpa using hm), if_neg hb', if_pos ⟨h1, h2, h3, h0⟩]; rfl
end Go.Avl
namespace Go.Avl
open Go Go.Proofs.Try
set_option maxRecDepth 10000
set_option linter.unusedSimpArgs false

def idxI (l : List Int) (x : Int) : Int := if x ∈ l then (l.idxOf x : Nat) else -1
theorem index_is (nl : Bool) (l : List Int) (c : Cp) (x : Int) (hl : l.length < 1000000) : PureIs prog 66 [.sl nl (l.map intC) c, .sc (.int .i64 x)] (.sc (.int .i64 (idxI l x))) := by
  refine PureIs.of (nv := 3) (hid := [4, 5, 7, 8, 9, 16]) func66 rfl (by kernel_rfl) (by simp [ntmps66]) fun _ => ?_
  rw [ntmps66, results66]
  refine EvC.seq (EvC.rg (by (simp only [go_sem]) <;> rfl) (by simp) ?_)
  refine EvC.seq ?_
  refine EvC.seq (EvC.rg (by (simp only [go_sem, List.length_map]) <;> rfl) (by simp) ?_)
  refine EvC.block ?_  -- 0
  refine EvC.loopS (σ := Nat) (fun i => ⟨[(0, .sl nl (l.map intC) c), (1, .sc (.int .i64 x)), (7, .sc (.int .i64 l.length)), (8, .sc (.int .i64 i))], [], [], 0⟩) (fun i => l.length - i) (fun i => i ≤ l.length ∧ x ∉ l.take i) [0, 1, 7, 8] 0 ?_ ?_
  · exact ⟨[], 0, rfl, (by (simp only [go_sem, Int.natCast_zero]) <;> rfl), Nat.zero_le _, by simp⟩
  rintro i ⟨h1, h2⟩
  refine EvC.seq (EvC.rg (by (simp only [go_sem]) <;> rfl) (by simp) ?_)
  refine EvC.seq ?_
  refine EvC.cond (by (simp only [go_sem]) <;> rfl) (fun hc => ?_) (fun hc => ?_)
  rotate_left
  · refine EvC.exit ?_  -- 0
    refine EvC.seq (EvC.rg (by (simp only [go_sem]) <;> rfl) (by simp) ?_)
    refine EvC.ret ⟨.inl rfl, _, (by (simp only [go_sem]) <;> rfl), ?_, rfl⟩
    simp only [go_sem]
    obtain rfl : i = l.length := by have : ¬ i < l.length := by simpa using hc
                                    omega
    rw [List.take_length] at h2
    rw [idxI, if_neg h2]
  have hi : i < l.length := by simpa using hc
  have he : l[i]? = some l[i] := List.getElem?_eq_getElem hi
  have htk : l.take (i + 1) = l.take i ++ [l[i]] := by rw [List.take_add_one, he]; rfl
  have hsp : l = l.take i ++ l[i] :: l.drop (i + 1) := by rw [← List.drop_eq_getElem_cons hi, List.take_append_drop]
  generalize l[i] = y at he htk hsp
  clear hc
  refine EvC.skip ?_
  refine EvC.seq ?_
  refine EvC.block ?_  -- 1
  refine EvC.seq (EvC.rg (by (simp only [go_sem]) <;> rfl) (by simp) ?_)
  refine EvC.seq (EvC.rg (by (simp only [go_sem, he, intC]) <;> rfl) (by simp) ?_)
  refine EvC.cond (by (simp only [go_sem]) <;> rfl) (fun hc => ?_) (fun hc => ?_)
  · have hx : x = y := by simpa using hc
    subst hx
    refine EvC.seq (EvC.rg (by (simp only [go_sem]) <;> rfl) (by simp) ?_)
    refine EvC.ret ⟨.inl rfl, _, (by (simp only [go_sem]) <;> rfl), ?_, rfl⟩
    simp only [go_sem]
    have hm : x ∈ l := by rw [hsp]; simp
    have hix : l.idxOf x = i := by
      rw [hsp, List.idxOf_append, if_neg h2, List.idxOf_cons_self]; simp; omega
    rw [idxI, if_pos hm, hix]
  have hx : ¬ x = y := by simpa using hc
  refine EvC.skip ?_
  refine EvC.rg (by (simp only [go_sem]) <;> rfl) (by exact inI64_of (by omega) (by omega)) ?_
  exact ⟨[], i + 1, rfl, (by (simp only [go_sem, Int.natCast_add, Int.natCast_one]) <;> rfl), ⟨hi, by rw [htk]; simp [h2, hx]⟩, by omega⟩
theorem contains51_is (nl : Bool) (l : List Int) (c : Cp) (x : Int) (hl : l.length < 1000000) : PureIs prog 51 [.sl nl (l.map intC) c, .sc (.int .i64 x)] (.sc (.bool (decide (x ∈ l)))) := by
  refine PureIs.of (nv := 3) (hid := [4]) func51 rfl (by kernel_rfl) (by simp [ntmps51]) fun _ => ?_
  rw [ntmps51, results51]
  refine EvC.seq (EvC.rg (by (simp only [go_sem]) <;> rfl) (by simp) ?_)
  apply EvC.seq
  apply EvC.tr
  · apply Tr.run
    · (simp only [go_sem]) <;> rfl
    · simp
    apply Tr.cons
    · exact .call rfl rfl (by (simp only [go_sem]) <;> rfl) (by (simp only [go_sem]) <;> rfl) (by (simp only [go_sem]) <;> rfl) (by (simp only [go_sem]) <;> rfl) (by (simp only [go_sem]) <;> rfl) (index_is nl l c x hl)
    apply Tr.done
    · (simp only [go_sem]) <;> rfl
    · simp
  refine EvC.ret ⟨.inl rfl, _, (by (simp only [go_sem]) <;> rfl), ?_, rfl⟩
  simp only [go_sem]
  unfold idxI
  by_cases h : x ∈ l
  · rw [if_pos h]; simp [h]
  · rw [if_neg h]; simp [h]

/-- Some rows by their contents, the others nil. -/
def rpart (R : Nat → Row) (n s : Nat) : List (List AV) := ((List.range s).map fun k => rowG (R k)) ++ List.replicate (n - s) [.sl true [] .zer]
theorem rpart_len {R : Nat → Row} {n s : Nat} (h : s ≤ n) : (rpart R n s).length = n := by simp [rpart]; omega
theorem rpart_zero (R : Nat → Row) (n : Nat) : rpart R n 0 = List.replicate n [.sl true [] .zer] := by simp [rpart]
theorem rpart_all (R : Nat → Row) (n : Nat) : rpart R n n = (List.range n).map fun k => rowG (R k) := by simp [rpart]
theorem rpart_get {R : Nat → Row} {n s : Nat} (h : s < n) : (rpart R n s)[s]? = some [.sl true [] .zer] := by
  rw [rpart, List.getElem?_append_right (by simp), List.length_map, List.length_range, Nat.sub_self, List.getElem?_replicate, if_pos (by omega)]
theorem rpart_set {R : Nat → Row} {n s : Nat} (h : s < n) : (rpart R n s).set s (rowG (R s)) = rpart R n (s + 1) := by
  obtain ⟨d, hd⟩ : ∃ d, n - s = d + 1 := ⟨n - s - 1, by omega⟩
  have hd' : n - (s + 1) = d := by omega
  rw [rpart, List.set_append_right _ _ (by simp), List.length_map, List.length_range, Nat.sub_self, hd, List.replicate_succ, List.set_cons_zero, rpart, hd', List.range_succ, List.map_append, List.append_assoc]; rfl
@[go_sem] theorem norefs_rpart (R : Nat → Row) (n s : Nat) : (rpart R n s).all AV.norefs = true := by simp [rpart, List.all_eq_true, rowG, AV.norefs, AV.noref]
/-- .. and one row that is still written. -/
def rput (R : Nat → Row) (n s : Nat) (v : AV) : List (List AV) := (rpart R n s).set s [v]
theorem rput_len {R : Nat → Row} {n s : Nat} (v : AV) (h : s ≤ n) : (rput R n s v).length = n := by rw [rput, List.length_set, rpart_len h]
theorem rput_get {R : Nat → Row} {n s : Nat} (v : AV) (h : s < n) : (rput R n s v)[s]? = some [v] := by
  rw [rput, List.getElem?_set_self (by rw [rpart_len (Nat.le_of_lt h)]; exact h)]
theorem rput_set {R : Nat → Row} {n s : Nat} (v u : AV) : (rput R n s v).set s [u] = rput R n s u := by rw [rput, List.set_set]; rfl
theorem rput_done {R : Nat → Row} {n s : Nat} (v : AV) (h : s < n) : (rput R n s v).set s (rowG (R s)) = rpart R n (s + 1) := by rw [rput, List.set_set, rpart_set h]
theorem rput_ren {R : Nat → Row} {n s : Nat} (v : AV) (K : List (Nat × Nat)) : (rput R n s v).map (fun c => c.map (AV.ren K)) = rput R n s (v.ren K) := by
  rw [rput, List.map_set, rput]
  congr 1
  have : ∀ c ∈ rpart R n s, c.map (AV.ren K) = c := fun c hc => by
    have h := norefs_rpart R n s
    rw [List.all_eq_true] at h
    have h := h c hc
    rw [← List.map_id c]
    rw [List.map_map]
    refine List.map_congr_left fun x hx => ?_
    obtain ⟨i, hi, rfl⟩ := List.getElem_of_mem hx
    simp only [Function.comp, AV.ren, norefs_get c h i hi, if_true, id]
  rw [← List.map_id (rpart R n s), List.map_map]
  exact List.map_congr_left fun c hc => this c hc
theorem rput_norefs {R : Nat → Row} {n s : Nat} {v : AV} (h : s < n) (hv : v.noref = false) : (rput R n s v).all AV.norefs = false := by
  rw [List.all_eq_false]
  refine ⟨[v], ?_, by simp [AV.norefs, hv]⟩
  exact List.mem_of_getElem? (rput_get v h)
end Go.Avl
namespace Go.Avl
open Go Go.Proofs.Try
set_option maxRecDepth 10000
set_option linter.unusedSimpArgs false

def okIns (m : Mach) (l : List Int) : Bool := (l.all fun x => decide (0 ≤ x) && decide (x < m.ins)) && decide l.Nodup && !l.isEmpty
theorem okIns_true {m : Mach} {l : List Int} : okIns m l = true ↔ (∀ x ∈ l, 0 ≤ x ∧ x < m.ins) ∧ l.Nodup ∧ l ≠ [] := by simp [okIns, and_assoc]
def resRow (m : Mach) (l : List Int) (s : Nat) : Row := (false, l.map fun i => eAt m s i.toNat)
def resM (m : Mach) (l : List Int) : Mach := ⟨l.length, m.outs, false, (List.range m.rows.length).map (resRow m l)⟩
def restrictA (m : Mach) (l : List Int) : AV :=
  if checkM m ≠ 0 then errA (checkM m) else if 16 < l.length then errA 3 else if okIns m l = true then .tu [.ag (resM m l).cellsF, .sc (.int .i64 0)] else errA 1
theorem restrictA_noref (m : Mach) (l : List Int) : (restrictA m l).noref = true := by unfold restrictA; split; rfl; split; rfl; split; simp [AV.noref, AV.norefs, norefs_cellsF]; rfl
/-- A row, as far as it is made. -/
def rcells (m : Mach) (l : List Int) (s k : Nat) : List (List AV) := (((l.take k).map fun i : Int => eAt m s i.toNat) ++ List.replicate (l.length - k) (0, 0)).map edgeC
theorem rcells_len (m : Mach) (l : List Int) (s : Nat) {k : Nat} (h : k ≤ l.length) : (rcells m l s k).length = l.length := by simp [rcells]; omega
@[go_sem] theorem norefs_rcells (m : Mach) (l : List Int) (s k : Nat) : (rcells m l s k).all AV.norefs = true := by rw [rcells]; exact norefs_edges _
theorem rcells_zero (m : Mach) (l : List Int) (s : Nat) : rcells m l s 0 = List.replicate l.length [.sc (.int .i64 0), .sc (.int .i64 0)] := by simp [rcells, edgeC]
theorem rcells_all (m : Mach) (l : List Int) (s : Nat) : rcells m l s l.length = (resRow m l s).2.map edgeC := by simp [rcells, resRow]
theorem rcells_set (m : Mach) (l : List Int) (s : Nat) {k : Nat} {x : Int} (h : l[k]? = some x) : (rcells m l s k).set k (edgeC (eAt m s x.toNat)) = rcells m l s (k + 1) := by
  obtain ⟨hk, rfl⟩ := List.getElem?_eq_some_iff.1 h
  obtain ⟨d, hd⟩ : ∃ d, l.length - k = d + 1 := ⟨l.length - k - 1, by omega⟩
  have hd' : l.length - (k + 1) = d := by omega
  rw [rcells, ← List.map_set, List.set_append_right _ _ (by simp; omega), List.length_map, List.length_take, Nat.min_eq_left (Nat.le_of_lt hk), Nat.sub_self, hd, List.replicate_succ, List.set_cons_zero, rcells, hd', List.take_add_one, h]
  simp only [List.map_append, List.map_cons, List.map_nil, Option.toList_some, List.append_assoc, List.cons_append, List.nil_append, List.map_replicate]
theorem rcells_get (m : Mach) (l : List Int) (s : Nat) {k : Nat} (h : k < l.length) : (rcells m l s k)[k]? = some [.sc (.int .i64 0), .sc (.int .i64 0)] := by
  rw [rcells, List.getElem?_map, List.getElem?_append_right (by simp; omega), List.length_map, List.length_take, Nat.min_eq_left (Nat.le_of_lt h), Nat.sub_self, List.getElem?_replicate, if_pos (by omega)]; rfl

set_option maxHeartbeats 2000000 in
theorem restrict_is (m : Mach) (hr : ∀ r ∈ m.rows, r.2.length < 1000000) (nl : Bool) (l : List Int) (c : Cp) (hl : l.length < 1000000) : PureIs prog 29 [.ag m.cells, .sl nl (l.map intC) c] (restrictA m l) := by
  refine PureIs.of (nv := 3) (hid := [4, 5, 6, 7, 8, 9, 10, 11, 12, 13, 17, 22, 24, 25, 26, 27, 45, 50, 62, 63, 64, 65, 76, 77, 78, 79, 59, 74]) func29 rfl (by kernel_rfl) (by simp [ntmps29]) fun _ => ?_
  rw [ntmps29, results29]
  refine EvC.seq (EvC.rg (by (simp only [go_sem, Mach.cells]) <;> rfl) (by simp) ?_)
  refine EvC.frzB 0 (by (simp only [go_sem]) <;> rfl) ?_
  refine EvC.seq ?_
  apply EvC.seq
  apply EvC.tr
  · apply Tr.run
    · (simp only [go_sem, Mach.cells]) <;> rfl
    · simp
    apply Tr.cons
    · exact .call rfl rfl (by (simp only [go_sem]) <;> rfl) (by (simp only [go_sem]) <;> rfl) (by (simp only [go_sem]) <;> rfl) (by (simp only [go_sem]) <;> rfl) (by (simp only [go_sem]) <;> rfl) (check_is m hr)
    apply Tr.done
    · (simp only [go_sem]) <;> rfl
    · simp
  refine EvC.seq (EvC.rg (by (simp only [go_sem]) <;> rfl) (by simp) ?_)
  refine EvC.cond (by (simp only [go_sem]) <;> rfl) (fun hc => ?_) (fun hc => ?_)
  · refine EvC.seq (EvC.rg (by (simp only [go_sem]) <;> rfl) (by simp) ?_)
    refine EvC.ret ⟨.inl rfl, _, (by (simp only [go_sem]) <;> rfl), ?_, restrictA_noref _ _⟩
    simp only [go_sem]
    rw [restrictA, if_pos (by simpa using hc)]; rfl
  have hm : checkM m = 0 := by simpa using hc
  have hv := Valid.of hm
  have hin := hv.ins
  have hrw := hv.rows
  clear hc
  refine EvC.skip ?_
  refine EvC.seq ?_
  refine EvC.seq (EvC.rg (by (simp only [go_sem, List.length_map]) <;> rfl) (by simp) ?_)
  refine EvC.cond (by (simp only [go_sem]) <;> rfl) (fun hc => ?_) (fun hc => ?_)
  · refine EvC.seq (EvC.rg (by (simp only [go_sem]) <;> rfl) (by simp) ?_)
    refine EvC.ret ⟨.inl rfl, _, (by (simp only [go_sem]) <;> rfl), ?_, restrictA_noref _ _⟩
    simp only [go_sem]
    rw [restrictA, if_neg (by simpa using hm), if_pos (by have : (16 : Int) < l.length := by simpa using hc
                                                          omega)]; rfl
  have h16 : ¬ 16 < l.length := by have : ¬ (16 : Int) < l.length := by simpa using hc
                                   omega
  clear hc
  refine EvC.skip ?_
  refine EvC.seq ?_
  refine EvC.seq (EvC.rg (by (simp only [go_sem, List.length_map]) <;> rfl) (by simp) ?_)
  refine EvC.block ?_  -- 0
  refine EvC.loopS (σ := Nat) (fun i => ⟨[(1, .sl nl (l.map intC) c), (2, .ia m.cells), (4, .rf 0 0), (5, .sc (.int .i64 0)), (24, .sl nl (l.map intC) c), (25, .sc (.int .i64 l.length)), (26, .sc (.int .i64 i))], [], [(0, .cells [.sc (.int .i64 0), .sc (.int .i64 0), .sl true [] .zer])], 1⟩) (fun i => l.length - i)
    (fun i => i ≤ l.length ∧ (∀ x ∈ l.take i, 0 ≤ x ∧ x < m.ins) ∧ (l.take i).Nodup) [1, 2, 4, 5, 24, 25, 26] 1 ?_ ?_
  · exact ⟨[(1, 0)], 0, rfl, (by (simp only [go_sem, Mach.cells, Int.natCast_zero]) <;> rfl), Nat.zero_le _, by simp, by simp⟩
  rintro i ⟨h1, h2, h3⟩
  refine EvC.seq (EvC.rg (by (simp only [go_sem]) <;> rfl) (by simp) ?_)
  refine EvC.seq ?_
  refine EvC.cond (by (simp only [go_sem]) <;> rfl) (fun hc => ?_) (fun hc => ?_)
  rotate_left
  · refine EvC.exit ?_  -- 0
    obtain rfl : i = l.length := by have : ¬ i < l.length := by simpa using hc
                                    omega
    rw [List.take_length] at h2 h3
    clear hc h1
    refine EvC.seq ?_
    refine EvC.seq (EvC.rg (by (simp only [go_sem, List.length_map]) <;> rfl) (by simp) ?_)
    refine EvC.cond (by (simp only [go_sem]) <;> rfl) (fun hc => ?_) (fun hc => ?_)
    · have h0 : l = [] := by have : (l.length : Int) = 0 := by simpa using hc
                             exact List.length_eq_zero_iff.1 (by omega)
      refine EvC.seq (EvC.rg (by (simp only [go_sem]) <;> rfl) (by simp) ?_)
      refine EvC.ret ⟨.inl rfl, _, (by (simp only [go_sem]) <;> rfl), ?_, restrictA_noref _ _⟩
      simp only [go_sem]
      rw [restrictA, if_neg (by simpa using hm), if_neg h16, if_neg (by simp [okIns, h0])]; rfl
    have h0 : l ≠ [] := by
      rintro rfl
      simp at hc
    clear hc
    have hlp : 1 ≤ l.length := List.length_pos_iff.2 h0
    have hok : okIns m l = true := okIns_true.2 ⟨h2, h3, h0⟩
    have hB : restrictA m l = .tu [.ag (resM m l).cellsF, .sc (.int .i64 0)] := by rw [restrictA, if_neg (by simpa using hm), if_neg h16, if_pos hok]
    refine EvC.skip ?_
    obtain ⟨n, hn⟩ : ∃ n, n = m.rows.length := ⟨_, rfl⟩
    have hnn : ((n : Nat) : Int).toNat = n := Int.toNat_natCast n
    have hll : ((l.length : Nat) : Int).toNat = l.length := Int.toNat_natCast _
    obtain ⟨R, hR⟩ : ∃ R, R = resRow m l := ⟨_, rfl⟩
    have hrl0 := rpart_len (R := R) (Nat.zero_le n)
    apply EvC.seq
    apply EvC.drd mixed
    · (simp only [go_sem, Mach.cells, List.length_map, ← hn, hnn, ← rpart_zero R, hrl0]) <;> rfl
    · simp [room_eq, hrl0]; omega
    · kernel_rfl
    refine EvC.seq ?_
    refine EvC.seq (EvC.rg (by (simp only [go_sem, Mach.cells, List.length_map, ← hn]) <;> rfl) (by simp) ?_)
    refine EvC.block ?_  -- 2
    refine EvC.loopS (σ := Nat) (fun s => ⟨[(1, .sl nl (l.map intC) c), (4, .rf 0 0), (9, .rf 1 0), (62, .sl m.nl (m.rows.map rowC) .unk), (63, .sc (.int .i64 n)), (64, .sc (.int .i64 s))], [], [(0, .cells [.sc (.int .i64 0), .sc (.int .i64 0), .sl true [] .zer]), (1, .cells [.sc (.int .i64 l.length), .sc (.int .i64 m.outs), .tv 2 n 0 n (.val n)]), (2, .arr 1 (rpart R n s) false)], 3⟩) (fun s => n - s) (fun s => s ≤ n) [1, 4, 9, 62, 63, 64] 3 ?_ ?_
    · exact ⟨[(0, 0), (14, 1), (12, 2)], 0, rfl, (by (simp only [go_sem, Int.natCast_zero]) <;> rfl), Nat.zero_le _⟩
    intro s hs
    have hrl := rpart_len (R := R) hs
    refine EvC.seq (EvC.rg (by (simp only [go_sem]) <;> rfl) (by simp) ?_)
    refine EvC.seq ?_
    refine EvC.cond (by (simp only [go_sem]) <;> rfl) (fun hc => ?_) (fun hc => ?_)
    rotate_left
    · refine EvC.exit ?_  -- 2
      obtain rfl : n = s := by have : ¬ s < n := by simpa using hc
                               omega
      refine EvC.frzD 2 (by (simp only [go_sem, hrl]) <;> rfl) ?_
      refine EvC.seq (EvC.rg (by (simp only [go_sem]) <;> rfl) (by simp) ?_)
      refine EvC.ret ⟨.inl rfl, _, (by (simp only [go_sem]) <;> rfl), ?_, restrictA_noref _ _⟩
      simp only [go_sem]
      rw [hB, rpart_all, hR, hn, resM, Mach.cellsF, List.map_map]; rfl
    have hsl : s < n := by simpa using hc
    clear hc
    have he : m.rows[s]? = some (m.rows[s]'(by omega)) := List.getElem?_eq_getElem (by omega)
    have hrow := (hv.row _ (List.getElem_mem (show s < m.rows.length by omega))).1
    generalize m.rows[s]'(by omega) = r at he hrow
    have hgs := rpart_get (R := R) hsl
    refine EvC.skip ?_
    refine EvC.seq ?_
    refine EvC.block ?_  -- 3
    refine EvC.seq (EvC.rg (by (simp only [go_sem, he, rowC]) <;> rfl) (by simp) ?_)
    apply EvC.seq
    apply EvC.drd mixed
    · (simp only [go_sem, List.length_map, hll, ← rcells_zero m l s, hrl, hgs, rcells_len m l s (Nat.zero_le _)]) <;> rfl
    · simp [room_eq, hrl]; omega
    · kernel_rfl
    refine EvC.seq (EvC.rg (by (simp only [go_sem, List.length_map]) <;> rfl) (by simp) ?_)
    refine EvC.block ?_  -- 4
    refine EvC.loopS (σ := Nat) (fun k => ⟨[(1, .sl nl (l.map intC) c), (4, .rf 0 0), (9, .rf 1 0), (10, .sc (.int .i64 s)), (11, .sl r.1 (r.2.map edgeC) .unk), (62, .sl m.nl (m.rows.map rowC) .unk), (63, .sc (.int .i64 n)), (64, .sc (.int .i64 s)), (76, .sl nl (l.map intC) c), (77, .sc (.int .i64 l.length)), (78, .sc (.int .i64 k))], [], [(0, .cells [.sc (.int .i64 0), .sc (.int .i64 0), .sl true [] .zer]), (1, .cells [.sc (.int .i64 l.length), .sc (.int .i64 m.outs), .tv 2 n 0 n (.val n)]), (2, .arr 1 (rput R n s (.tv 3 l.length 0 l.length (.val l.length))) false), (3, .arr 2 (rcells m l s k) false)], 4⟩) (fun k => l.length - k) (fun k => k ≤ l.length) [1, 4, 9, 10, 11, 62, 63, 64, 76, 77, 78] 4 ?_ ?_
    · have hput : ∀ v, (rpart R n s).set s [v] = rput R n s v := fun _ => rfl
      have hnf : (rput R n s (.tv 14 l.length 0 l.length (.val l.length))).all AV.norefs = false := rput_norefs hsl rfl
      exact ⟨[(0, 0), (1, 1), (2, 2), (14, 3)], 0, rfl, (by (simp only [go_sem, hput, rput_ren, hnf, Int.natCast_zero]) <;> rfl), Nat.zero_le _⟩
    intro k hk
    have hrc := rcells_len m l s hk
    refine EvC.seq (EvC.rg (by (simp only [go_sem]) <;> rfl) (by simp) ?_)
    refine EvC.seq ?_
    refine EvC.cond (by (simp only [go_sem]) <;> rfl) (fun hc => ?_) (fun hc => ?_)
    rotate_left
    · refine EvC.exit ?_  -- 4
      obtain rfl : k = l.length := by have : ¬ k < l.length := by simpa using hc
                                      omega
      have hall := rcells_all m l s
      have hdone := rput_done (R := R) (n := n) (s := s) (.tv 3 l.length 0 l.length (.val l.length)) hsl
      have hRs : rowG (R s) = [.sl false (rcells m l s l.length) .full] := by rw [hall, hR]; rfl
      rw [hRs] at hdone
      refine EvC.frz 3 (by (simp only [go_sem, hrc]) <;> rfl) ?_
      refine EvC.snapE 2 s (by (simp only [go_sem, rput_get (R := R) (n := n) _ hsl, hrc, true_and, hdone]) <;> rfl) ?_
      refine EvC.rg (by (simp only [go_sem]) <;> rfl) (by exact inI64_of (by omega) (by omega)) ?_
      exact ⟨[(0, 0), (1, 1), (2, 2)], s + 1, rfl, (by (simp only [go_sem, Int.natCast_add, Int.natCast_one]) <;> rfl), hsl, by omega⟩
    have hkl : k < l.length := by simpa using hc
    clear hc
    have hlk : l[k]? = some l[k] := List.getElem?_eq_getElem hkl
    have hx := h2 _ (List.getElem_mem hkl)
    generalize l[k] = x at hlk hx
    have hre : r.2[x.toNat]? = some (r.2[x.toNat]'(by omega)) := List.getElem?_eq_getElem (by omega)
    generalize r.2[x.toNat]'(by omega) = e at hre
    have hee := eAt_get he hre
    have hset : (rcells m l s k).set k [.sc (.int .i64 e.1), .sc (.int .i64 e.2)] = rcells m l s (k + 1) := by
      have := rcells_set m l s hlk
      rw [hee] at this; exact this
    have hrg := rcells_get m l s hkl
    refine EvC.skip ?_
    refine EvC.seq ?_
    refine EvC.block ?_  -- 5
    refine EvC.seq (EvC.rg (by (simp only [go_sem, hlk, intC]) <;> rfl) (by simp) ?_)
    apply EvC.drd mixed
    · (simp only [go_sem, rput_get (R := R) (n := n) _ hsl, rput_len (R := R) _ (Nat.le_of_lt hsl), hrc, hrg, hre, edgeC, hset, Int.toNat_natCast]) <;> rfl
    · simp [hx.1]; omega
    · kernel_rfl
    refine EvC.rg (by (simp only [go_sem]) <;> rfl) (by exact inI64_of (by omega) (by omega)) ?_
    exact ⟨[(0, 0), (1, 1), (2, 2), (3, 3)], k + 1, rfl, (by (simp only [go_sem, rput_ren, ite_self, Int.natCast_add, Int.natCast_one]) <;> rfl), hkl, by omega⟩
  have hi : i < l.length := by simpa using hc
  have he : l[i]? = some l[i] := List.getElem?_eq_getElem hi
  have hxm := List.getElem_mem hi
  have htk : l.take (i + 1) = l.take i ++ [l[i]] := by rw [List.take_add_one, he]; rfl
  generalize l[i] = x at he hxm htk
  clear hc
  have hnok : ∀ {P : Prop}, P → (P → okIns m l = false) → restrictA m l = errA 1 := fun h1 h2 => by rw [restrictA, if_neg (by simpa using hm), if_neg h16, if_neg (by simp [h2 h1])]
  refine EvC.skip ?_
  refine EvC.seq ?_
  refine EvC.block ?_  -- 1
  refine EvC.seq (EvC.rg (by (simp only [go_sem, he, intC]) <;> rfl) (by simp) ?_)
  by_cases hk : 0 ≤ x ∧ x < m.ins
  · have d1 : decide (x < 0) = false := decide_eq_false (by omega)
    have d2 : decide (m.ins ≤ x) = false := decide_eq_false (by omega)
    have hct := contains51_is nl (l.take i) (cutHead c) x (by simp; omega)
    rw [List.map_take] at hct
    apply EvC.seq
    apply EvC.tr  -- R9
    · apply Tr.run
      · (simp only [go_sem, Mach.cells, d1, d2, Int.toNat_natCast]) <;> rfl
      · simp [intC]; omega
      apply Tr.cons
      · exact .callG rfl rfl (by (simp only [go_sem]) <;> rfl) rfl (by (simp only [go_sem]) <;> rfl) (by (simp only [go_sem]) <;> rfl) (by (simp only [go_sem]) <;> rfl) (by (simp only [go_sem]) <;> rfl) (by (simp only [go_sem]) <;> rfl) (hct)
      apply Tr.done
      · (simp only [go_sem, d1, d2]) <;> rfl
      · simp
    refine EvC.cond (by (simp only [go_sem]) <;> rfl) (fun hc => ?_) (fun hc => ?_)
    · have hin2 : x ∈ l.take i := by simpa using hc
      refine EvC.seq (EvC.rg (by (simp only [go_sem]) <;> rfl) (by simp) ?_)
      refine EvC.ret ⟨.inl rfl, _, (by (simp only [go_sem]) <;> rfl), ?_, restrictA_noref _ _⟩
      simp only [go_sem]
      rw [hnok hin2 fun h => by
        rw [Bool.eq_false_iff]; intro h4
        have hn := (okIns_true.1 h4).2.1
        have hd : l.drop i = l[i] :: l.drop (i + 1) := List.drop_eq_getElem_cons hi
        rw [← List.take_append_drop i l, List.nodup_append] at hn
        have hxi : l[i] = x := by rw [List.getElem?_eq_getElem hi] at he; exact Option.some.inj he
        exact hn.2.2 x h x (by rw [hd, hxi]; exact List.mem_cons_self) rfl]
      rfl
    have hin2 : ¬ x ∈ l.take i := by simpa using hc
    clear hc
    refine EvC.skip ?_
    refine EvC.rg (by (simp only [go_sem]) <;> rfl) (by exact inI64_of (by omega) (by omega)) ?_
    refine ⟨[(0, 0)], i + 1, rfl, (by (simp only [go_sem, Mach.cells, Int.natCast_add, Int.natCast_one]) <;> rfl), ⟨hi, ?_, ?_⟩, by omega⟩
    · rw [htk]; intro y hy
      rcases List.mem_append.1 hy with hy | hy
      · exact h2 y hy
      · simp at hy; subst hy; exact hk
    · rw [htk, List.nodup_append]
      exact ⟨h3, by simp, fun a ha b hb e => hin2 (by simp at hb; rw [← hb, ← e]; exact ha)⟩
  · have hor : (if decide (x < 0) = true then true else decide (m.ins ≤ x)) = true := by
      by_cases h : x < 0
      · simp [h]
      · simp [h]; omega
    apply EvC.seq
    apply EvC.tr  -- R9
    · apply Tr.run
      · (simp only [go_sem, Mach.cells, hor, Int.toNat_natCast]) <;> rfl
      · simp [intC]; try omega
      apply Tr.cons
      · exact .skipv (.sc (.bool true)) rfl rfl (by (simp only [go_sem]) <;> rfl) (by (simp only [go_sem]) <;> rfl)
      apply Tr.done
      · (simp only [go_sem, hor]) <;> rfl
      · simp
    refine EvC.cond_true (by (simp only [go_sem]) <;> rfl) ?_
    refine EvC.seq (EvC.rg (by (simp only [go_sem]) <;> rfl) (by simp) ?_)
    refine EvC.ret ⟨.inl rfl, _, (by (simp only [go_sem]) <;> rfl), ?_, restrictA_noref _ _⟩
    simp only [go_sem]
    rw [hnok hk fun h => by
      rw [Bool.eq_false_iff]; intro h4
      exact h ((okIns_true.1 h4).1 x hxm)]
    rfl
end Go.Avl
namespace Go.Avl
open Go Go.Proofs.Try
set_option maxRecDepth 10000
set_option linter.unusedSimpArgs false

def lrowC (r : List Row) : List AV := [.sl false (r.map rowG) .full]
@[go_sem] theorem norefs_lrows (l : List (List Row)) : (l.map lrowC).all AV.norefs = true := by simp [List.all_eq_true, lrowC, AV.norefs, AV.noref]
def flatR (l : List (List Row)) : List Row := l.flatten
theorem flatR_cons (r : List Row) (l : List (List Row)) : flatR (r :: l) = r ++ flatR l := rfl
theorem flatR_nil : flatR [] = [] := rfl
theorem concat55_is (nl : Bool) (ls : List (List Row)) (c : Cp) (hl : ls.length < 1000000) (h0 : 0 < (flatR ls).length) (h1 : (flatR ls).length < 1000000) :
    PureIs prog 55 [.sl nl (ls.map lrowC) c] (.sl false ((flatR ls).map rowG) .unk) := by
  refine PureIs.of (nv := 1) (hid := [2, 3, 5, 6, 8, 9, 10, 11, 12, 20, 25, 26, 27, 28]) func55 rfl (by kernel_rfl) (by simp [ntmps55]) fun _ => ?_
  rw [ntmps55, results55]
  refine EvC.seq (EvC.rg (by (simp only [go_sem]) <;> rfl) (by simp) ?_)
  refine EvC.seq (EvC.rg (by (simp only [go_sem]) <;> rfl) (by simp) ?_)
  refine EvC.seq ?_
  refine EvC.seq (EvC.rg (by (simp only [go_sem]) <;> rfl) (by simp) ?_)
  refine EvC.block ?_  -- 0
  refine EvC.loopS (σ := Nat × Int) (fun g => ⟨[(0, .sl nl (ls.map lrowC) c), (3, .sc (.int .i64 g.2)), (9, .sl nl (ls.map lrowC) c), (10, .sc (.int .i64 ls.length)), (11, .sc (.int .i64 g.1))], [], [], 0⟩) (fun g => ls.length - g.1)
    (fun g => g.1 ≤ ls.length ∧ 0 ≤ g.2 ∧ ((flatR ls).length : Int) = g.2 + ((flatR (ls.drop g.1)).length : Nat)) [0, 3, 9, 10, 11] 0 ?_ ?_
  · refine ⟨[], (0, 0), rfl, (by (simp only [go_sem]) <;> rfl), Nat.zero_le _, Int.le_refl _, by simp⟩
  rintro ⟨i, z⟩ ⟨h2, h3, h4⟩
  simp only at h2 h3 h4
  refine EvC.seq (EvC.rg (by (simp only [go_sem]) <;> rfl) (by simp) ?_)
  refine EvC.seq ?_
  refine EvC.cond (by (simp only [go_sem]) <;> rfl) (fun hc => ?_) (fun hc => ?_)
  rotate_left
  · refine EvC.exit ?_  -- 0
    obtain rfl : i = ls.length := by have : ¬ i < ls.length := by simpa using hc
                                     omega
    have hz : z = (flatR ls).length := by rw [h4]; simp [flatR]
    subst hz
    clear h2 h3 h4 hc
    have hz0 : 0 < ((flatR ls).length : Int) := by omega
    apply EvC.seq  -- R9
    apply EvC.rs
    · (simp only [go_sem]) <;> rfl
    · simp
    refine XR.callB 2 [4, 6, 16] rfl rfl (by (simp only [go_sem]) <;> rfl) (by (simp only [go_sem]) <;> rfl) (by (simp only [go_sem, bodyArgs]) <;> rfl) func67 rfl (by kernel_rfl) (by simp [ntmps67]) fun _ => ?_
    rw [ntmps67, results67]
    refine EvC.seq (EvC.rg (by (simp only [go_sem]) <;> rfl) (by simp) ?_)
    refine EvC.seq ?_
    refine EvC.seq (EvC.rg (by (simp only [go_sem]) <;> rfl) (by simp) ?_)
    have hneg : decide (((flatR ls).length : Int) < 0) = false := by simp
    refine EvC.cond_false (by (simp only [go_sem, hneg]) <;> rfl) ?_
    refine EvC.skip ?_
    refine EvC.seq ?_
    have hI1 : inI64 ((flatR ls).length : Int) = true := inI64_of (by omega) (by omega)
    have hI2 : inI64 (0 : Int) = true := inI64_of (by omega) (by omega)
    refine EvC.seq (EvC.rg (by (simp only [go_sem, Int.sub_self, Int.sub_zero]) <;> rfl) (by simp [hI1, hI2]) ?_)
    refine EvC.seq (EvC.rg (by (simp only [go_sem]) <;> rfl) (by simp) ?_)
    have hpos : decide (0 < ((flatR ls).length : Int)) = true := by simp; omega
    refine EvC.cond_true (by (simp only [go_sem, hpos]) <;> rfl) ?_
    have hzz : ∀ n : Nat, (List.replicate n [AV.sl true [] .zer]).length = n := fun n => by simp
    have hzl : ∀ n : Nat, ((List.replicate n [AV.sl true [] .zer]).all fun y => decide (y.length = 1)) = true := fun n => by simp [List.all_eq_true]
    have hne : ¬ (flatR ls).length = 0 := by omega
    refine EvC.rg (by (simp only [go_sem, cutHead, Int.toNat_natCast, Int.toNat_zero, hzz, List.length_map, List.length_replicate, Nat.sub_self]) <;> rfl) (by simp [room_eq, hpos, hne]; omega) ?_
    refine EvC.seq (EvC.rg (by (simp only [go_sem]) <;> rfl) (by simp) ?_)
    refine EvC.ret ⟨.inl rfl, _, (by (simp only [go_sem, resAllR, resOneR]) <;> rfl), ?_⟩
    refine XR.shrink 24 (by (simp only [go_sem, List.length_map, List.length_replicate]) <;> rfl) ?_
    refine XR.done (by (simp only [go_sem]) <;> rfl) (by simp) ?_
    refine EvC.seq ?_
    refine EvC.seq (EvC.rg (by (simp only [go_sem]) <;> rfl) (by simp) ?_)
    refine EvC.block ?_  -- 2
    refine EvC.loopS (σ := Nat × List Row) (fun g => ⟨[(6, .tl 0 g.2.length false), (25, .sl nl (ls.map lrowC) c), (26, .sc (.int .i64 ls.length)), (27, .sc (.int .i64 g.1))], [], [(0, .arr 1 (g.2.map rowG) false)], 1⟩) (fun g => ls.length - g.1)
      (fun g => g.1 ≤ ls.length ∧ (flatR ls) = g.2 ++ flatR (ls.drop g.1)) [6, 25, 26, 27] 1 ?_ ?_
    · exact ⟨[(27, 0)], (0, []), rfl, (by (simp only [go_sem]) <;> rfl), Nat.zero_le _, by simp⟩
    rintro ⟨i, out⟩ ⟨h2, h3⟩
    simp only at h2 h3
    have hol : out.length < 1000000 := by rw [h3] at h1; simp at h1; omega
    refine EvC.seq (EvC.rg (by (simp only [go_sem]) <;> rfl) (by simp) ?_)
    refine EvC.seq ?_
    refine EvC.cond (by (simp only [go_sem]) <;> rfl) (fun hc => ?_) (fun hc => ?_)
    rotate_left
    · refine EvC.exit ?_  -- 2
      obtain rfl : i = ls.length := by have : ¬ i < ls.length := by simpa using hc
                                       omega
      have ho : out = (flatR ls) := by rw [h3]; simp [flatR]
      subst ho
      refine EvC.frz 0 (by (simp only [go_sem, List.length_map]) <;> rfl) ?_
      refine EvC.seq (EvC.rg (by (simp only [go_sem]) <;> rfl) (by simp) ?_)
      refine EvC.ret ⟨.inl rfl, _, (by (simp only [go_sem]) <;> rfl), ?_, rfl⟩
      simp only [go_sem]
    have hi : i < ls.length := by simpa using hc
    have he : ls[i]? = some ls[i] := List.getElem?_eq_getElem hi
    have hd : ls.drop i = ls[i] :: ls.drop (i + 1) := List.drop_eq_getElem_cons hi
    generalize ls[i] = r at he hd
    rw [hd, flatR_cons] at h3
    have hrl : out.length + r.length < 1000000 := by rw [h3] at h1; simp at h1; omega
    refine EvC.skip ?_
    refine EvC.seq ?_
    refine EvC.block ?_  -- 3
    refine EvC.seq (EvC.rg (by (simp only [go_sem, he, lrowC]) <;> rfl) (by simp) ?_)
    refine EvC.rg (by (simp only [go_sem]) <;> rfl) (by simp [room_eq, rowG]; omega) ?_
    refine EvC.rg (by (simp only [go_sem]) <;> rfl) (by exact inI64_of (by omega) (by omega)) ?_
    exact ⟨[(0, 0)], (i + 1, out ++ r), rfl, (by (simp only [go_sem, List.length_append, List.length_map, List.isEmpty_map]) <;> rfl), ⟨by simp only; omega, by simp only; rw [h3, List.append_assoc]⟩, by simp only; omega⟩
  have hi : i < ls.length := by simpa using hc
  have he : ls[i]? = some ls[i] := List.getElem?_eq_getElem hi
  have hd : ls.drop i = ls[i] :: ls.drop (i + 1) := List.drop_eq_getElem_cons hi
  generalize ls[i] = r at he hd
  rw [hd, flatR_cons, List.length_append] at h4
  have hI : inI64 (z + r.length) = true := inI64_of (by omega) (by omega)
  have hz : decide (z + (r.length : Int) < 0) = false := by simp; omega
  refine EvC.skip ?_
  refine EvC.seq ?_
  refine EvC.block ?_  -- 1
  refine EvC.seq (EvC.rg (by (simp only [go_sem, he, lrowC]) <;> rfl) (by simp) ?_)
  refine EvC.seq (EvC.rg (by (simp only [go_sem]) <;> rfl) (by simp [hI]) ?_)
  refine EvC.seq (EvC.rg (by (simp only [go_sem]) <;> rfl) (by simp) ?_)
  refine EvC.cond_false (by (simp only [go_sem, hz]) <;> rfl) ?_
  refine EvC.skip ?_
  refine EvC.rg (by (simp only [go_sem]) <;> rfl) (by exact inI64_of (by omega) (by omega)) ?_
  refine ⟨[], (i + 1, z + r.length), rfl, (by (simp only [go_sem]) <;> rfl), ⟨by simp only; omega, by simp only; omega, ?_⟩, by simp only; omega⟩
  simp only; omega
end Go.Avl
namespace Go.Avl
open Go Go.Proofs.Try
set_option maxRecDepth 10000
set_option linter.unusedSimpArgs false

theorem unite1_is (s i : Int) (e : Int × Int) : PureIs prog 53 [.sc (.int .i64 s), .sc (.int .i64 i), edgeA e] (.tu [.sc (.int .i64 s), .sc (.int .i64 i), edgeA e]) := by
  refine PureIs.of (nv := 3) (hid := [5, 6, 7, 8]) func53 rfl (by kernel_rfl) (by simp [ntmps53]) fun _ => ?_
  rw [ntmps53, results53]
  refine EvC.seq (EvC.rg (by (simp only [go_sem, edgeA]) <;> rfl) (by simp) ?_)
  apply EvC.seq
  apply EvC.drd mixed
  · (simp only [go_sem]) <;> rfl
  · simp
  · kernel_rfl
  refine EvC.ret ⟨.inl rfl, _, (by (simp only [go_sem]) <;> rfl), ?_, by simp [edgeA, AV.noref, AV.norefs]⟩
  simp only [go_sem]
  rfl
def latE (n : Int) (e : Int × Int) : Int × Int := if isNone e = true then e else (e.1 + n, e.2)
theorem unite2_is (s i n : Int) (e : Int × Int) (h : inI64 (e.1 + n) = true) : PureIs prog 54 [.sc (.int .i64 s), .sc (.int .i64 i), edgeA e, .ia [.sc (.int .i64 n)]] (.tu [.sc (.int .i64 s), .sc (.int .i64 i), edgeA (latE n e)]) := by
  refine PureIs.of (nv := 4) (hid := [6, 7, 8, 9, 12]) func54 rfl (by kernel_rfl) (by simp [ntmps54]) fun _ => ?_
  rw [ntmps54, results54]
  refine EvC.seq (EvC.rg (by (simp only [go_sem, edgeA]) <;> rfl) (by simp) ?_)
  refine EvC.seq ?_
  apply EvC.seq
  apply EvC.drw mixed
  · apply Tr.run
    · (simp only [go_sem]) <;> rfl
    · simp
    apply Tr.cons
    · exact .call rfl rfl (by (simp only [go_sem]) <;> rfl) (by (simp only [go_sem]) <;> rfl) (by (simp only [go_sem]) <;> rfl) (by (simp only [go_sem]) <;> rfl) (by (simp only [go_sem]) <;> rfl) (none11_is)
    apply Tr.done
    · (simp only [go_sem]) <;> rfl
    · simp [descAgg, matchKinds, matchKind]
  · kernel_rfl
  refine EvC.cond (by (simp only [go_sem]) <;> rfl) (fun hc => ?_) (fun hc => ?_)
  · have hn : ¬ isNone e = true := by
      unfold isNone
      by_cases h1 : e.1 = -1 <;> by_cases h2 : e.2 = -1 <;> simp [h1, h2] at hc ⊢
    refine EvC.rg (by (simp only [go_sem]) <;> rfl) (by simp [h]) ?_
    apply EvC.seq
    apply EvC.drd mixed
    · (simp only [go_sem]) <;> rfl
    · simp
    · kernel_rfl
    refine EvC.ret ⟨.inl rfl, _, (by (simp only [go_sem]) <;> rfl), ?_, by simp [edgeA, AV.noref, AV.norefs]⟩
    simp only [go_sem]
    rw [latE, if_neg hn]; rfl
  have hn : isNone e = true := by
    unfold isNone
    by_cases h1 : e.1 = -1 <;> by_cases h2 : e.2 = -1 <;> simp [h1, h2] at hc ⊢
  refine EvC.skip ?_
  apply EvC.seq
  apply EvC.drd mixed
  · (simp only [go_sem]) <;> rfl
  · simp
  · kernel_rfl
  refine EvC.ret ⟨.inl rfl, _, (by (simp only [go_sem]) <;> rfl), ?_, by simp [edgeA, AV.noref, AV.norefs]⟩
  simp only [go_sem]
  rw [latE, if_pos hn]; rfl

def rowsOf (m : Mach) (N : Nat) (f : Int × Int → Int × Int) : List Row := (List.range m.rows.length).map fun s => (false, (List.range N).map fun i => f (eAt m s i))
theorem rowsOf_len (m : Mach) (N : Nat) (f : Int × Int → Int × Int) : (rowsOf m N f).length = m.rows.length := by simp [rowsOf]
def uniM (a b : Mach) : Mach := ⟨a.ins, if a.outs ≤ b.outs then b.outs else a.outs, false, rowsOf a a.ins.toNat id ++ rowsOf b a.ins.toNat (latE a.rows.length)⟩
def uniteA (a b : Mach) : AV := if bothE a b ≠ 0 then errA (bothE a b) else if a.ins ≠ b.ins then errA 5 else if 64 < a.rows.length + b.rows.length then errA 3 else .tu [.ag (uniM a b).cellsF, .sc (.int .i64 0)]
theorem uniteA_noref (a b : Mach) : (uniteA a b).noref = true := by unfold uniteA; split; rfl; split; rfl; split; rfl; simp [AV.noref, AV.norefs, norefs_cellsF]

theorem unite_is (a b : Mach) (ha : ∀ r ∈ a.rows, r.2.length < 1000000) (hb : ∀ r ∈ b.rows, r.2.length < 1000000) : PureIs prog 32 [.ag a.cells, .ag b.cells] (uniteA a b) := by
  refine PureIs.of (nv := 11) (hid := [15, 22, 32]) func32 rfl (by kernel_rfl) (by simp [ntmps32]) fun _ => ?_
  rw [ntmps32, results32]
  refine EvC.seq (EvC.rg (by (simp only [go_sem, Mach.cells]) <;> rfl) (by simp) ?_)
  refine EvC.frzB 0 (by (simp only [go_sem]) <;> rfl) ?_
  refine EvC.frzB 1 (by (simp only [go_sem]) <;> rfl) ?_
  refine EvC.seq ?_
  apply EvC.seq
  apply EvC.tr
  · apply Tr.run
    · (simp only [go_sem, Mach.cells]) <;> rfl
    · simp
    apply Tr.cons
    · exact .call rfl rfl (by (simp only [go_sem]) <;> rfl) (by (simp only [go_sem]) <;> rfl) (by (simp only [go_sem]) <;> rfl) (by (simp only [go_sem]) <;> rfl) (by (simp only [go_sem]) <;> rfl) (both_is a b ha hb)
    apply Tr.done
    · (simp only [go_sem]) <;> rfl
    · simp
  refine EvC.seq (EvC.rg (by (simp only [go_sem]) <;> rfl) (by simp) ?_)
  refine EvC.cond (by (simp only [go_sem]) <;> rfl) (fun hc => ?_) (fun hc => ?_)
  · refine EvC.seq (EvC.rg (by (simp only [go_sem]) <;> rfl) (by simp) ?_)
    refine EvC.ret ⟨.inl rfl, _, (by (simp only [go_sem]) <;> rfl), ?_, uniteA_noref _ _⟩
    simp only [go_sem]
    rw [uniteA, if_pos (by simpa using hc)]; rfl
  have hbe : bothE a b = 0 := by simpa using hc
  obtain ⟨va, vb⟩ := bothE_zero hbe
  clear hc
  refine EvC.skip ?_
  refine EvC.seq ?_
  refine EvC.seq (EvC.rg (by (simp only [go_sem]) <;> rfl) (by simp) ?_)
  refine EvC.cond (by (simp only [go_sem]) <;> rfl) (fun hc => ?_) (fun hc => ?_)
  · refine EvC.seq (EvC.rg (by (simp only [go_sem]) <;> rfl) (by simp) ?_)
    refine EvC.ret ⟨.inl rfl, _, (by (simp only [go_sem]) <;> rfl), ?_, uniteA_noref _ _⟩
    simp only [go_sem]
    rw [uniteA, if_neg (by simpa using hbe), if_pos (by simpa using hc)]; rfl
  have hio : a.ins = b.ins := by simpa using hc
  have hai := va.ins
  have hra := va.rows
  have hrb := vb.rows
  clear hc
  refine EvC.skip ?_
  refine EvC.seq (EvC.rg (by (simp only [go_sem, List.length_map]) <;> rfl) (by simp) ?_)
  refine EvC.seq ?_
  have hI : inI64 ((a.rows.length : Int) + (b.rows.length : Int)) = true := inI64_of (by omega) (by omega)
  refine EvC.seq (EvC.rg (by (simp only [go_sem, List.length_map]) <;> rfl) (by simp [hI]) ?_)
  refine EvC.cond (by (simp only [go_sem]) <;> rfl) (fun hc => ?_) (fun hc => ?_)
  · refine EvC.seq (EvC.rg (by (simp only [go_sem]) <;> rfl) (by simp) ?_)
    refine EvC.ret ⟨.inl rfl, _, (by (simp only [go_sem]) <;> rfl), ?_, uniteA_noref _ _⟩
    simp only [go_sem]
    rw [uniteA, if_neg (by simpa using hbe), if_neg (by simpa using hio), if_pos (by have : (64 : Int) < (a.rows.length : Int) + b.rows.length := by simpa using hc
                                                                                     omega)]; rfl
  have h64 : ¬ 64 < a.rows.length + b.rows.length := by
    have : ¬ (64 : Int) < (a.rows.length : Int) + b.rows.length := by simpa using hc
    omega
  clear hc
  have hB : uniteA a b = .tu [.ag (uniM a b).cellsF, .sc (.int .i64 0)] := by rw [uniteA, if_neg (by simpa using hbe), if_neg (by simpa using hio), if_neg h64]
  refine EvC.skip ?_
  refine EvC.seq (EvC.rg (by (simp only [go_sem]) <;> rfl) (by simp) ?_)
  refine EvC.frzB 18 (by (simp only [go_sem]) <;> rfl) ?_
  refine EvC.seq (EvC.rg (by (simp only [go_sem]) <;> rfl) (by simp) ?_)
  obtain ⟨N, hN⟩ : ∃ N, N = a.ins.toNat := ⟨_, rfl⟩
  have hNa : a.ins = (N : Int) := by omega
  have hNb : b.ins = (N : Int) := by omega
  have m1 := mapped_is (m := a) (n := a.rows.length) (N := N) (fid := 53) (caps := []) (F := fun s i => ((s, i), id (eAt a s i))) rfl (by omega) hNa (by omega) (fun r hr => by have := (va.row r hr).1; omega) rfl
    (fun s i r e k1 k2 => by
      have hrow := va.row r (List.mem_of_getElem? k1)
      have hil : i < r.2.length := (List.getElem?_eq_some_iff.1 k2).1
      have hrl := hrow.1
      refine ⟨(List.getElem?_eq_some_iff.1 k1).1, by simp only; omega, ?_⟩
      rw [eAt_get k1 k2]
      exact unite1_is _ _ e)
  rw [mapRows_id _ fun _ _ => rfl] at m1
  have m2 := mapped_is (m := b) (n := b.rows.length) (N := N) (fid := 54) (caps := [.ia [.sc (.int .i64 (a.rows.length : Int))]]) (F := fun s i => ((s, i), latE a.rows.length (eAt b s i))) rfl (by omega) hNb (by omega) (fun r hr => by have := (vb.row r hr).1; omega) rfl
    (fun s i r e k1 k2 => by
      have hrow := vb.row r (List.mem_of_getElem? k1)
      have hil : i < r.2.length := (List.getElem?_eq_some_iff.1 k2).1
      have hrl := hrow.1
      have hfit := fits_edge (hrow.2 e (List.mem_of_getElem? k2))
      refine ⟨(List.getElem?_eq_some_iff.1 k1).1, by simp only; omega, ?_⟩
      rw [eAt_get k1 k2]
      exact unite2_is _ _ _ e (inI64_of (by omega) (by omega)))
  rw [mapRows_id _ fun _ _ => rfl] at m2
  have hA : (List.range a.rows.length).map (fun s => (false, (List.range N).map fun i => id (eAt a s i))) = rowsOf a N id := rfl
  have hBb : (List.range b.rows.length).map (fun s => (false, (List.range N).map fun i => latE a.rows.length (eAt b s i))) = rowsOf b N (latE a.rows.length) := rfl
  rw [hA] at m1
  rw [hBb] at m2
  have e1 := rowsOf_len a N id
  have e2 := rowsOf_len b N (latE a.rows.length)
  have hfl : flatR [rowsOf a N id, rowsOf b N (latE a.rows.length)] = rowsOf a N id ++ rowsOf b N (latE a.rows.length) := by simp [flatR]
  have hcat := concat55_is false [rowsOf a N id, rowsOf b N (latE a.rows.length)] .full (by simp) (by rw [hfl]; simp [e1, e2]; omega) (by rw [hfl]; simp [e1, e2]; omega)
  rw [hfl] at hcat
  have hclip := clip56_is false ((rowsOf a N id ++ rowsOf b N (latE a.rows.length)).map rowG) .unk (rowG_one _)
  rw [uniM, ← hN, Mach.cellsF] at hB
  simp only at hB
  generalize rowsOf a N id = A at m1 e1 hcat hclip hB
  generalize rowsOf b N (latE a.rows.length) = B at m2 e2 hcat hclip hB
  simp only [List.map_cons, List.map_nil, lrowC] at hcat
  apply EvC.seq
  apply EvC.drw mixed
  · apply Tr.run
    · (simp only [go_sem, Mach.cells]) <;> rfl
    · simp [AV.norefs, AV.noref]
    apply Tr.cons
    · exact .call rfl rfl (by (simp only [go_sem]) <;> rfl) (by (simp only [go_sem]) <;> rfl) (by (simp only [go_sem]) <;> rfl) (by (simp only [go_sem]) <;> rfl) (by (simp only [go_sem]) <;> rfl) (m1)
    apply Tr.run
    · (simp only [go_sem, Mach.cells]) <;> rfl
    · simp [AV.norefs, AV.noref]
    apply Tr.cons
    · exact .call rfl rfl (by (simp only [go_sem]) <;> rfl) (by (simp only [go_sem]) <;> rfl) (by (simp only [go_sem]) <;> rfl) (by (simp only [go_sem]) <;> rfl) (by (simp only [go_sem]) <;> rfl) (m2)
    apply Tr.run
    · (simp only [go_sem, Mach.cells]) <;> rfl
    · simp [AV.norefs, AV.noref]
    apply Tr.cons
    · exact .call rfl rfl (by (simp only [go_sem]) <;> rfl) (by (simp only [go_sem]) <;> rfl) (by (simp only [go_sem]) <;> rfl) (by (simp only [go_sem]) <;> rfl) (by (simp only [go_sem]) <;> rfl) (hcat)
    apply Tr.done
    · (simp only [go_sem]) <;> rfl
    · simp
  · kernel_rfl
  obtain ⟨C, hC⟩ : ∃ C, C = (A ++ B).map rowG := ⟨_, rfl⟩
  rw [← hC] at hclip hB
  simp only [← List.map_append, ← hC]
  apply EvC.seq
  apply EvC.drw mixed
  · apply Tr.run
    · (simp only [go_sem]) <;> rfl
    · simp
    apply Tr.cons
    · exact .call rfl rfl (by (simp only [go_sem]) <;> rfl) (by (simp only [go_sem]) <;> rfl) (by (simp only [go_sem]) <;> rfl) (by (simp only [go_sem]) <;> rfl) (by (simp only [go_sem]) <;> rfl) (hclip)
    apply Tr.done
    · (simp only [go_sem]) <;> rfl
    · simp
  · kernel_rfl
  refine EvC.ret ⟨.inl rfl, _, (by (simp only [go_sem]) <;> rfl), ?_, uniteA_noref _ _⟩
  simp only [go_sem]
  rw [hB]
end Go.Avl
namespace Go.Avl
open Go Go.Proofs.Try
set_option maxRecDepth 10000
set_option linter.unusedSimpArgs false

def besE (n : Int) (e : Int × Int) : Int × Int := if 0 ≤ e.1 then (e.1 + n, e.2) else e
def besRow (a b : Mach) (s : Nat) : Row := (false, (List.range b.ins.toNat).map fun i => besE a.rows.length (eAt b s i))
def besM (a b : Mach) : Mach := ⟨a.ins, if a.outs ≤ b.outs then b.outs else a.outs, false, a.rows ++ (List.range b.rows.length).map (besRow a b)⟩
theorem beside_is {a b : Mach} (va : Valid a) (vb : Valid b) : PureIs prog 33 [.ag a.cells, .ag b.cells] (.ag (besM a b).cells) := by
  have hra := va.rows
  have hrb := vb.rows
  have hbi := vb.ins
  obtain ⟨na, hna⟩ : ∃ na, na = a.rows.length := ⟨_, rfl⟩
  obtain ⟨nb, hnb⟩ : ∃ nb, nb = b.rows.length := ⟨_, rfl⟩
  obtain ⟨N, hN⟩ : ∃ N, N = b.ins.toNat := ⟨_, rfl⟩
  have hNb : b.ins = (N : Int) := by omega
  refine PureIs.of (nv := 11) (hid := [23, 40, 46, 59]) func33 rfl (by kernel_rfl) (by simp [ntmps33]) fun _ => ?_
  rw [ntmps33, results33]
  refine EvC.seq (EvC.rg (by (simp only [go_sem, Mach.cells]) <;> rfl) (by simp) ?_)
  refine EvC.frzB 0 (by (simp only [go_sem]) <;> rfl) ?_
  refine EvC.frzB 1 (by (simp only [go_sem]) <;> rfl) ?_
  refine EvC.seq (EvC.rg (by (simp only [go_sem]) <;> rfl) (by simp) ?_)
  refine EvC.seq ?_
  refine EvC.seq (EvC.rg (by (simp only [go_sem]) <;> rfl) (by simp) ?_)
  refine EvC.block ?_  -- 0
  refine EvC.ownC 11 2 1 (by (simp only [go_sem]) <;> rfl) ?_
  obtain ⟨mo, hmo⟩ : ∃ mo, mo = if a.outs ≤ b.outs then b.outs else a.outs := ⟨_, rfl⟩
  refine EvC.loopS (σ := Nat) (fun s => ⟨[(2, .ia a.cells), (3, .ia b.cells), (4, .rf 0 0), (5, .rf 1 0), (6, .sc (.int .i64 s))], [], [(0, .cells [.sc (.int .i64 0), .sc (.int .i64 0), .sl true [] .zer]), (1, .cells [.sc (.int .i64 a.ins), .sc (.int .i64 mo), .tl 2 s (s == 0)]), (2, .arr 1 ((a.rows.take s).map rowC) true)], 3⟩) (fun s => na - s) (fun s => s ≤ na) [2, 3, 4, 5, 6] 3 ?_ ?_
  · exact ⟨[(2, 0), (11, 1), (14, 2)], 0, rfl, (by simp only [List.take_zero, List.map_nil]; rw [hmo]; (simp only [go_sem, Mach.cells, Int.natCast_zero]) <;> rfl), Nat.zero_le _⟩
  intro s hs
  have htl : (a.rows.take s).length = s := by simp; omega
  refine EvC.seq ?_
  refine EvC.seq (EvC.rg (by (simp only [go_sem, Mach.cells, List.length_map, ← hna]) <;> rfl) (by simp) ?_)
  refine EvC.cond (by (simp only [go_sem]) <;> rfl) (fun hc => ?_) (fun hc => ?_)
  rotate_left
  · refine EvC.exit ?_  -- 0
    obtain rfl : na = s := by have : ¬ s < na := by simpa using hc
                              omega
    clear hc hs
    refine EvC.seq ?_
    refine EvC.seq (EvC.rg (by (simp only [go_sem]) <;> rfl) (by simp) ?_)
    refine EvC.block ?_  -- 2
    have hta : a.rows.take na = a.rows := by rw [hna, List.take_length]
    rw [hta]
    have hn0 : (na == 0) = false := by simp; omega
    refine EvC.loopS (σ := Nat) (fun t => ⟨[(2, .ia a.cells), (3, .ia b.cells), (4, .rf 0 0), (5, .rf 1 0), (7, .sc (.int .i64 t))], [], [(0, .cells [.sc (.int .i64 0), .sc (.int .i64 0), .sl true [] .zer]), (1, .cells [.sc (.int .i64 a.ins), .sc (.int .i64 mo), .tl 2 (na + t) false]), (2, .arr 1 ((a.rows ++ (List.range t).map (besRow a b)).map rowC) true)], 3⟩) (fun t => nb - t) (fun t => t ≤ nb) [2, 3, 4, 5, 7] 3 ?_ ?_
    · exact ⟨[(0, 0), (1, 1), (2, 2)], 0, rfl, (by simp only [List.range_zero, List.map_nil, List.append_nil, Nat.add_zero]; (simp only [go_sem, Mach.cells, hn0, Int.natCast_zero]) <;> rfl), Nat.zero_le _⟩
    intro t ht
    obtain ⟨D, hD⟩ : ∃ D, D = a.rows ++ (List.range t).map (besRow a b) := ⟨_, rfl⟩
    have hDl : D.length = na + t := by rw [hD]; simp [hna]
    rw [← hD]
    refine EvC.seq ?_
    refine EvC.seq (EvC.rg (by (simp only [go_sem, Mach.cells, List.length_map, ← hnb]) <;> rfl) (by simp) ?_)
    refine EvC.cond (by (simp only [go_sem]) <;> rfl) (fun hc => ?_) (fun hc => ?_)
    rotate_left
    · refine EvC.exit ?_  -- 2
      obtain rfl : nb = t := by have : ¬ t < nb := by simpa using hc
                                omega
      refine EvC.frzD 2 (by (simp only [go_sem, List.length_map, hDl]) <;> rfl) ?_
      refine EvC.seq (EvC.rg (by (simp only [go_sem]) <;> rfl) (by simp) ?_)
      refine EvC.ret ⟨.inl rfl, _, (by (simp only [go_sem]) <;> rfl), ?_, rfl⟩
      simp only [go_sem]
      rw [besM, Mach.cells, ← hnb, ← hD, ← hmo]
    have htl2 : t < nb := by simpa using hc
    clear hc
    have he : b.rows[t]? = some (b.rows[t]'(by omega)) := List.getElem?_eq_getElem (by omega)
    have hrow := vb.row _ (List.getElem_mem (show t < b.rows.length by omega))
    generalize b.rows[t]'(by omega) = r at he hrow
    refine EvC.skip ?_
    refine EvC.seq ?_
    refine EvC.block ?_  -- 3
    refine EvC.seq (EvC.rg (by (simp only [go_sem]) <;> rfl) (by simp) ?_)
    refine EvC.seq ?_
    refine EvC.seq (EvC.rg (by (simp only [go_sem]) <;> rfl) (by simp) ?_)
    refine EvC.block ?_  -- 4
    refine EvC.loopS (σ := Nat) (fun i => ⟨[(2, .ia a.cells), (3, .ia b.cells), (4, .rf 0 0), (5, .rf 1 0), (7, .sc (.int .i64 t)), (8, .tl 3 i (i == 0)), (9, .sc (.int .i64 i))], [], [(0, .cells [.sc (.int .i64 0), .sc (.int .i64 0), .sl true [] .zer]), (1, .cells [.sc (.int .i64 a.ins), .sc (.int .i64 mo), .tl 2 (na + t) false]), (2, .arr 1 (D.map rowC) true), (3, .arr 2 (gcells edgeC (fun i => besE na (eAt b t i)) i) true)], 4⟩) (fun i => N - i) (fun i => i ≤ N) [2, 3, 4, 5, 7, 8, 9] 4 ?_ ?_
    · exact ⟨[(0, 0), (1, 1), (2, 2), (8, 3)], 0, rfl, (by (simp only [go_sem, Mach.cells, hNb, gcells, List.range_zero, List.map_nil, Int.natCast_zero]) <;> rfl), Nat.zero_le _⟩
    intro i hi
    have hgl := gcells_len edgeC (fun i => besE na (eAt b t i)) i
    have hgn := gcells_norefs hEn (fun i => besE (na : Int) (eAt b t i)) i
    refine EvC.seq ?_
    refine EvC.seq (EvC.rg (by (simp only [go_sem, Mach.cells, hNb]) <;> rfl) (by simp) ?_)
    refine EvC.cond (by (simp only [go_sem]) <;> rfl) (fun hc => ?_) (fun hc => ?_)
    rotate_left
    · refine EvC.exit ?_  -- 4
      obtain rfl : N = i := by have : ¬ i < N := by simpa using hc
                               omega
      have hN0 : (N == 0) = false := by simp; omega
      refine EvC.frz 3 (by (simp only [go_sem, hgl, hgn, hN0]) <;> rfl) ?_
      refine EvC.rg (by (simp only [go_sem, List.length_map, hDl]) <;> rfl) (by simp [room_eq, AV.norefs, AV.noref, hDl]; omega) ?_
      refine EvC.rg (by (simp only [go_sem]) <;> rfl) (by exact inI64_of (by omega) (by omega)) ?_
      have hnx : D ++ [besRow a b t] = a.rows ++ (List.range (t + 1)).map (besRow a b) := by rw [hD, List.range_succ, List.map_append, List.append_assoc]; rfl
      have hrc : rowC (besRow a b t) = [.sl false (gcells edgeC (fun i => besE na (eAt b t i)) N) .unk] := by rw [rowC, besRow, ← hN, gcells_edge, hna]
      refine ⟨[(0, 0), (1, 1), (2, 2)], t + 1, rfl, ?_, htl2, by omega⟩
      rw [← hnx]
      (simp only [go_sem, Mach.cells, hNb, List.map_append, List.map_cons, List.map_nil, hrc, Int.natCast_add, Int.natCast_one, Nat.add_assoc, List.length_map, hDl]) <;> rfl
    have hil : i < N := by simpa using hc
    clear hc
    have hrl := hrow.1
    have hre : r.2[i]? = some (r.2[i]'(by omega)) := List.getElem?_eq_getElem (by omega)
    have hfit := fits_edge (hrow.2 _ (List.getElem_mem (show i < r.2.length by omega)))
    generalize r.2[i]'(by omega) = e at hre hfit
    have hee := eAt_get he hre
    have hgs := gcells_snoc edgeC (fun i => besE (na : Int) (eAt b t i)) i
    simp only [hee] at hgs
    have hI : inI64 (e.1 + (na : Int)) = true := inI64_of (by omega) (by omega)
    have hi0 : (i + 1 == 0) = false := rfl
    refine EvC.skip ?_
    refine EvC.seq ?_
    refine EvC.block ?_  -- 5
    refine EvC.seq (EvC.rg (by (simp only [go_sem, he, rowC, hre, edgeC]) <;> rfl) (by simp) ?_)
    refine EvC.seq ?_
    refine EvC.seq (EvC.rg (by (simp only [go_sem]) <;> rfl) (by simp) ?_)
    refine EvC.cond (by (simp only [go_sem]) <;> rfl) (fun hc => ?_) (fun hc => ?_)
    · have h0 : 0 ≤ e.1 := by simpa using hc
      have hb : besE (na : Int) e = (e.1 + na, e.2) := by rw [besE, if_pos h0]
      rw [hb] at hgs
      refine EvC.rg (by (simp only [go_sem, List.length_map, ← hna]) <;> rfl) (by simp [hI]) ?_
      refine EvC.rg (by (simp only [go_sem, hgl]) <;> rfl) (by simp [room_eq, AV.norefs, AV.noref, hgl]; omega) ?_
      refine EvC.rg (by (simp only [go_sem]) <;> rfl) (by exact inI64_of (by omega) (by omega)) ?_
      refine ⟨[(0, 0), (1, 1), (2, 2), (3, 3)], i + 1, rfl, ?_, hil, by omega⟩
      rw [← hgs]
      (simp only [go_sem, Mach.cells, hNb, hi0, hgl, hgn, edgeC, Int.natCast_add, Int.natCast_one]) <;> rfl
    have h0 : ¬ 0 ≤ e.1 := by simpa using hc
    have hb : besE (na : Int) e = e := by rw [besE, if_neg h0]
    rw [hb] at hgs
    refine EvC.skip ?_
    refine EvC.rg (by (simp only [go_sem, hgl]) <;> rfl) (by simp [room_eq, AV.norefs, AV.noref, hgl]; omega) ?_
    refine EvC.rg (by (simp only [go_sem]) <;> rfl) (by exact inI64_of (by omega) (by omega)) ?_
    refine ⟨[(0, 0), (1, 1), (2, 2), (3, 3)], i + 1, rfl, ?_, hil, by omega⟩
    rw [← hgs]
    (simp only [go_sem, Mach.cells, hNb, hi0, hgl, hgn, edgeC, Int.natCast_add, Int.natCast_one]) <;> rfl
  have hsl : s < na := by simpa using hc
  clear hc
  have he : a.rows[s]? = some (a.rows[s]'(by omega)) := List.getElem?_eq_getElem (by omega)
  generalize a.rows[s]'(by omega) = r at he
  have htk : a.rows.take (s + 1) = a.rows.take s ++ [r] := by rw [List.take_add_one, he]; rfl
  have hs0 : (s + 1 == 0) = false := rfl
  refine EvC.skip ?_
  refine EvC.seq ?_
  refine EvC.block ?_  -- 1
  apply EvC.drd mixed
  · (simp only [go_sem, he, rowC, List.length_map, htl]) <;> rfl
  · simp [room_eq, AV.norefs, AV.noref, htl]; omega
  · kernel_rfl
  refine EvC.rg (by (simp only [go_sem]) <;> rfl) (by exact inI64_of (by omega) (by omega)) ?_
  refine ⟨[(0, 0), (1, 1), (2, 2)], s + 1, rfl, ?_, hsl, by omega⟩
  rw [htk]
  (simp only [go_sem, Mach.cells, hs0, List.map_append, List.map_cons, List.map_nil, rowC, Int.natCast_add, Int.natCast_one, List.length_map, htl]) <;> rfl
end Go.Avl
namespace Go.Avl
open Go Go.Proofs.Try
set_option maxRecDepth 10000
set_option linter.unusedSimpArgs false

theorem machineF_is {a b : Mach} (h1 : a.ins = b.ins) (h2 : a.outs = b.outs) (h3 : a.rows.map (·.2) = b.rows.map (·.2)) (hl : a.rows.length < 1000000) (hr : ∀ r ∈ a.rows, r.2.length < 1000000) : PureIs prog 21 [.ag a.cellsF, .sc (.int .i64 0), .ag b.cellsF] (.sc (.bool true)) := by
  have hs : PureIs prog 42 [.ag a.cellsF, .ag b.cellsF] (.sc (.bool true)) := by
    refine PureIs.weak ?_
    simp only [List.map_cons, List.map_nil, AV.unk, Mach.cellsF_unk, Mach.cells_unk]
    exact sameM_is h1 h2 h3 hl hr
  refine PureIs.of (nv := 4) (hid := [5, 6]) func21 rfl (by kernel_rfl) (by simp [ntmps21]) fun _ => ?_
  rw [ntmps21, results21]
  refine EvC.seq (EvC.rg (by (simp only [go_sem, Mach.cellsF, Mach.cells]) <;> rfl) (by simp) ?_)
  refine EvC.frzB 0 (by (simp only [go_sem]) <;> rfl) ?_
  refine EvC.frzB 1 (by (simp only [go_sem]) <;> rfl) ?_
  apply EvC.seq
  apply EvC.tr
  · apply Tr.run
    · (simp only [go_sem, Mach.cellsF, Mach.cells]) <;> rfl
    · simp
    apply Tr.cons
    · exact .callG rfl rfl (by (simp only [go_sem]) <;> rfl) rfl (by (simp only [go_sem]) <;> rfl) (by (simp only [go_sem]) <;> rfl) (by (simp only [go_sem]) <;> rfl) (by (simp only [go_sem]) <;> rfl) (by (simp only [go_sem]) <;> rfl) (by simpa [Mach.cellsF, Mach.cells] using hs)
    apply Tr.run
    · (simp only [go_sem]) <;> rfl
    · simp
    apply Tr.cons
    · exact .callG rfl rfl (by (simp only [go_sem]) <;> rfl) rfl (by (simp only [go_sem]) <;> rfl) (by (simp only [go_sem]) <;> rfl) (by (simp only [go_sem]) <;> rfl) (by (simp only [go_sem]) <;> rfl) (by (simp only [go_sem]) <;> rfl) (by simpa [Mach.cellsF] using clipped_is a hl)
    apply Tr.done
    · (simp only [go_sem]) <;> rfl
    · simp
  refine EvC.ret ⟨.inl rfl, _, (by (simp only [go_sem]) <;> rfl), ?_, rfl⟩
  simp only [go_sem]
theorem edge_is' (a b : Int) : PureIs prog 27 [.sc (.int .i64 a), .sc (.int .i64 b)] (.ag [.sc (.int .i64 a), .sc (.int .i64 b)]) := edge_is a b
theorem nothingZ_is (e : Int) : PureIs prog 18 [.ag [.sc (.int .i64 0), .sc (.int .i64 0), .sl true [] .zer], .sc (.int .i64 e), .sc (.int .i64 e)] (.sc (.bool true)) := nothing_is e .zer

def lva : Mach := ⟨1, 2, false, [(false, [(1, 0)]), (false, [(0, 1)])]⟩
def lvb : Mach := ⟨2, 2, false, [(false, [(0, 0), (1, 1)]), (false, [(0, 1), (1, 0)])]⟩
def lvc : Mach := ⟨1, 1, false, [(false, [(-1, -1)])]⟩
def lvD : Mach := ⟨1, 2, false, [(false, [(1, 0)]), (false, [(2, 1)]), (false, [(1, 1)])]⟩
def lvF : Mach := ⟨1, 4, false, [(false, [(1, 0)]), (false, [(0, 3)])]⟩
def lvH : Mach := ⟨1, 2, false, [(false, [(1, 1)]), (false, [(0, 0)])]⟩
def lvJ : Mach := ⟨1, 1, false, [(false, [(0, 0)])]⟩
def lvL : Mach := ⟨1, 1, false, [(false, [(1, 0)]), (false, [(1, 0)])]⟩
def lvP : Mach := ⟨1, 2, false, [(false, [(1, 1)]), (false, [(1, 0)])]⟩
def lvT : Mach := ⟨1, 2, false, [(false, [(1, 0)]), (false, [(0, 1)]), (false, [(-1, -1)])]⟩
theorem lv_d : PureIs prog 14 [.ag [.sc (.int .i64 1), .sc (.int .i64 2), .sl false [[.sl false [[.sc (.int .i64 1), .sc (.int .i64 0)]] .full], [.sl false [[.sc (.int .i64 0), .sc (.int .i64 1)]] .full]] .full], .ag [.sc (.int .i64 2), .sc (.int .i64 2), .sl false [[.sl false [[.sc (.int .i64 0), .sc (.int .i64 0)], [.sc (.int .i64 1), .sc (.int .i64 1)]] .full], [.sl false [[.sc (.int .i64 0), .sc (.int .i64 1)], [.sc (.int .i64 1), .sc (.int .i64 0)]] .full]] .full]] (.tu [.ag [.sc (.int .i64 1), .sc (.int .i64 2), .sl false [[.sl false [[.sc (.int .i64 1), .sc (.int .i64 0)]] .full], [.sl false [[.sc (.int .i64 2), .sc (.int .i64 1)]] .full], [.sl false [[.sc (.int .i64 1), .sc (.int .i64 1)]] .full]] .full], .sc (.int .i64 0)]) := by
  refine PureIs.weak ?_
  have h := series_is lva lvb (by decide) (by decide)
  rw [show seriesA lva lvb = (.tu [.ag [.sc (.int .i64 1), .sc (.int .i64 2), .sl false [[.sl false [[.sc (.int .i64 1), .sc (.int .i64 0)]] .full], [.sl false [[.sc (.int .i64 2), .sc (.int .i64 1)]] .full], [.sl false [[.sc (.int .i64 1), .sc (.int .i64 1)]] .full]] .full], .sc (.int .i64 0)]) from by kernel_rfl] at h
  exact h
theorem lv_f : PureIs prog 22 [.ag [.sc (.int .i64 1), .sc (.int .i64 2), .sl false [[.sl false [[.sc (.int .i64 1), .sc (.int .i64 0)]] .full], [.sl false [[.sc (.int .i64 0), .sc (.int .i64 1)]] .full]] .full], .ag [.sc (.int .i64 1), .sc (.int .i64 2), .sl false [[.sl false [[.sc (.int .i64 1), .sc (.int .i64 0)]] .full], [.sl false [[.sc (.int .i64 0), .sc (.int .i64 1)]] .full]] .full]] (.tu [.ag [.sc (.int .i64 1), .sc (.int .i64 4), .sl false [[.sl false [[.sc (.int .i64 1), .sc (.int .i64 0)]] .full], [.sl false [[.sc (.int .i64 0), .sc (.int .i64 3)]] .full]] .full], .sc (.int .i64 0)]) := by
  refine PureIs.weak ?_
  have h := parallel_is lva lva (by decide) (by decide)
  rw [show parallelA lva lva = (.tu [.ag [.sc (.int .i64 1), .sc (.int .i64 4), .sl false [[.sl false [[.sc (.int .i64 1), .sc (.int .i64 0)]] .full], [.sl false [[.sc (.int .i64 0), .sc (.int .i64 3)]] .full]] .full], .sc (.int .i64 0)]) from by kernel_rfl] at h
  exact h
theorem lv_h : PureIs prog 23 [.ag [.sc (.int .i64 1), .sc (.int .i64 2), .sl false [[.sl false [[.sc (.int .i64 1), .sc (.int .i64 0)]] .full], [.sl false [[.sc (.int .i64 0), .sc (.int .i64 1)]] .full]] .full], .sl false [[.sc (.int .i64 0)]] .full, .sl false [[.sc (.int .i64 1)], [.sc (.int .i64 0)]] .full, .sl false [[.sc (.int .i64 0)], [.sc (.int .i64 1)]] .full] (.tu [.ag [.sc (.int .i64 1), .sc (.int .i64 2), .sl false [[.sl false [[.sc (.int .i64 1), .sc (.int .i64 1)]] .full], [.sl false [[.sc (.int .i64 0), .sc (.int .i64 0)]] .full]] .full], .sc (.int .i64 0)]) := by
  refine PureIs.weak ?_
  have h := rename_is lva (by decide) false false false [0] [1, 0] [0, 1] .unk .unk .unk (by decide) (by decide) (by decide)
  rw [show renameA lva [0] [1, 0] [0, 1] = (.tu [.ag [.sc (.int .i64 1), .sc (.int .i64 2), .sl false [[.sl false [[.sc (.int .i64 1), .sc (.int .i64 1)]] .full], [.sl false [[.sc (.int .i64 0), .sc (.int .i64 0)]] .full]] .full], .sc (.int .i64 0)]) from by kernel_rfl] at h
  exact h
theorem lv_j : PureIs prog 25 [.ag [.sc (.int .i64 1), .sc (.int .i64 1), .sl false [[.sl false [[.sc (.int .i64 (-1)), .sc (.int .i64 (-1))]] .full]] .full], .sc (.int .u8 0), .sc (.int .i64 0)] (.tu [.ag [.sc (.int .i64 1), .sc (.int .i64 1), .sl false [[.sl false [[.sc (.int .i64 0), .sc (.int .i64 0)]] .full]] .full], .sc (.int .i64 0)]) := by
  refine PureIs.weak ?_
  have h := fill_is lvc (by decide) 0 0 (by decide)
  rw [show fillA lvc 0 0 = (.tu [.ag [.sc (.int .i64 1), .sc (.int .i64 1), .sl false [[.sl false [[.sc (.int .i64 0), .sc (.int .i64 0)]] .full]] .full], .sc (.int .i64 0)]) from by kernel_rfl] at h
  exact h
theorem lv_l : PureIs prog 25 [.ag [.sc (.int .i64 1), .sc (.int .i64 1), .sl false [[.sl false [[.sc (.int .i64 (-1)), .sc (.int .i64 (-1))]] .full]] .full], .sc (.int .u8 1), .sc (.int .i64 0)] (.tu [.ag [.sc (.int .i64 1), .sc (.int .i64 1), .sl false [[.sl false [[.sc (.int .i64 1), .sc (.int .i64 0)]] .full], [.sl false [[.sc (.int .i64 1), .sc (.int .i64 0)]] .full]] .full], .sc (.int .i64 0)]) := by
  refine PureIs.weak ?_
  have h := fill_is lvc (by decide) 1 0 (by decide)
  rw [show fillA lvc 1 0 = (.tu [.ag [.sc (.int .i64 1), .sc (.int .i64 1), .sl false [[.sl false [[.sc (.int .i64 1), .sc (.int .i64 0)]] .full], [.sl false [[.sc (.int .i64 1), .sc (.int .i64 0)]] .full]] .full], .sc (.int .i64 0)]) from by kernel_rfl] at h
  exact h
theorem lv_n : PureIs prog 25 [.ag [.sc (.int .i64 1), .sc (.int .i64 1), .sl false [[.sl false [[.sc (.int .i64 (-1)), .sc (.int .i64 (-1))]] .full]] .full], .sc (.int .u8 0), .sc (.int .i64 1)] (.tu [.ag [.sc (.int .i64 0), .sc (.int .i64 0), .sl true [] .zer], .sc (.int .i64 1)]) := by
  refine PureIs.weak ?_
  have h := fill_is lvc (by decide) 0 1 (by decide)
  rw [show fillA lvc 0 1 = (.tu [.ag [.sc (.int .i64 0), .sc (.int .i64 0), .sl true [] .zer], .sc (.int .i64 1)]) from by kernel_rfl] at h
  exact h
theorem lv_p : PureIs prog 29 [.ag [.sc (.int .i64 2), .sc (.int .i64 2), .sl false [[.sl false [[.sc (.int .i64 0), .sc (.int .i64 0)], [.sc (.int .i64 1), .sc (.int .i64 1)]] .full], [.sl false [[.sc (.int .i64 0), .sc (.int .i64 1)], [.sc (.int .i64 1), .sc (.int .i64 0)]] .full]] .full], .sl false [[.sc (.int .i64 1)]] .full] (.tu [.ag [.sc (.int .i64 1), .sc (.int .i64 2), .sl false [[.sl false [[.sc (.int .i64 1), .sc (.int .i64 1)]] .full], [.sl false [[.sc (.int .i64 1), .sc (.int .i64 0)]] .full]] .full], .sc (.int .i64 0)]) := by
  refine PureIs.weak ?_
  have h := restrict_is lvb (by decide) false [1] .unk (by decide)
  rw [show restrictA lvb [1] = (.tu [.ag [.sc (.int .i64 1), .sc (.int .i64 2), .sl false [[.sl false [[.sc (.int .i64 1), .sc (.int .i64 1)]] .full], [.sl false [[.sc (.int .i64 1), .sc (.int .i64 0)]] .full]] .full], .sc (.int .i64 0)]) from by kernel_rfl] at h
  exact h
theorem lv_r : PureIs prog 29 [.ag [.sc (.int .i64 2), .sc (.int .i64 2), .sl false [[.sl false [[.sc (.int .i64 0), .sc (.int .i64 0)], [.sc (.int .i64 1), .sc (.int .i64 1)]] .full], [.sl false [[.sc (.int .i64 0), .sc (.int .i64 1)], [.sc (.int .i64 1), .sc (.int .i64 0)]] .full]] .full], .sl false [[.sc (.int .i64 1)], [.sc (.int .i64 1)]] .full] (.tu [.ag [.sc (.int .i64 0), .sc (.int .i64 0), .sl true [] .zer], .sc (.int .i64 1)]) := by
  refine PureIs.weak ?_
  have h := restrict_is lvb (by decide) false [1, 1] .unk (by decide)
  rw [show restrictA lvb [1, 1] = (.tu [.ag [.sc (.int .i64 0), .sc (.int .i64 0), .sl true [] .zer], .sc (.int .i64 1)]) from by kernel_rfl] at h
  exact h
theorem lv_t : PureIs prog 32 [.ag [.sc (.int .i64 1), .sc (.int .i64 2), .sl false [[.sl false [[.sc (.int .i64 1), .sc (.int .i64 0)]] .full], [.sl false [[.sc (.int .i64 0), .sc (.int .i64 1)]] .full]] .full], .ag [.sc (.int .i64 1), .sc (.int .i64 1), .sl false [[.sl false [[.sc (.int .i64 (-1)), .sc (.int .i64 (-1))]] .full]] .full]] (.tu [.ag [.sc (.int .i64 1), .sc (.int .i64 2), .sl false [[.sl false [[.sc (.int .i64 1), .sc (.int .i64 0)]] .full], [.sl false [[.sc (.int .i64 0), .sc (.int .i64 1)]] .full], [.sl false [[.sc (.int .i64 (-1)), .sc (.int .i64 (-1))]] .full]] .full], .sc (.int .i64 0)]) := by
  refine PureIs.weak ?_
  have h := unite_is lva lvc (by decide) (by decide)
  rw [show uniteA lva lvc = (.tu [.ag [.sc (.int .i64 1), .sc (.int .i64 2), .sl false [[.sl false [[.sc (.int .i64 1), .sc (.int .i64 0)]] .full], [.sl false [[.sc (.int .i64 0), .sc (.int .i64 1)]] .full], [.sl false [[.sc (.int .i64 (-1)), .sc (.int .i64 (-1))]] .full]] .full], .sc (.int .i64 0)]) from by kernel_rfl] at h
  exact h
theorem lv_v : PureIs prog 14 [.ag [.sc (.int .i64 1), .sc (.int .i64 2), .sl false [[.sl false [[.sc (.int .i64 1), .sc (.int .i64 0)]] .full], [.sl false [[.sc (.int .i64 0), .sc (.int .i64 1)]] .full]] .full], .ag [.sc (.int .i64 1), .sc (.int .i64 1), .sl false [[.sl false [[.sc (.int .i64 (-1)), .sc (.int .i64 (-1))]] .full]] .full]] (.tu [.ag [.sc (.int .i64 0), .sc (.int .i64 0), .sl true [] .zer], .sc (.int .i64 5)]) := by
  refine PureIs.weak ?_
  have h := series_is lva lvc (by decide) (by decide)
  rw [show seriesA lva lvc = (.tu [.ag [.sc (.int .i64 0), .sc (.int .i64 0), .sl true [] .zer], .sc (.int .i64 5)]) from by kernel_rfl] at h
  exact h
theorem lv_x : PureIs prog 22 [.ag [.sc (.int .i64 1), .sc (.int .i64 2), .sl false [[.sl false [[.sc (.int .i64 1), .sc (.int .i64 0)]] .full], [.sl false [[.sc (.int .i64 0), .sc (.int .i64 1)]] .full]] .full], .ag [.sc (.int .i64 2), .sc (.int .i64 2), .sl false [[.sl false [[.sc (.int .i64 0), .sc (.int .i64 0)], [.sc (.int .i64 1), .sc (.int .i64 1)]] .full], [.sl false [[.sc (.int .i64 0), .sc (.int .i64 1)], [.sc (.int .i64 1), .sc (.int .i64 0)]] .full]] .full]] (.tu [.ag [.sc (.int .i64 0), .sc (.int .i64 0), .sl true [] .zer], .sc (.int .i64 5)]) := by
  refine PureIs.weak ?_
  have h := parallel_is lva lvb (by decide) (by decide)
  rw [show parallelA lva lvb = (.tu [.ag [.sc (.int .i64 0), .sc (.int .i64 0), .sl true [] .zer], .sc (.int .i64 5)]) from by kernel_rfl] at h
  exact h
theorem lv_z : PureIs prog 14 [.ag [.sc (.int .i64 1), .sc (.int .i64 2), .sl false [[.sl false [[.sc (.int .i64 1), .sc (.int .i64 0)]] .full], [.sl false [[.sc (.int .i64 0), .sc (.int .i64 1)]] .full]] .full], .ag [.sc (.int .i64 1), .sc (.int .i64 2), .sl false [[.sl false [[.sc (.int .i64 1), .sc (.int .i64 0)]] .full], [.sl false [[.sc (.int .i64 0), .sc (.int .i64 1)]] .full]] .full]] (.tu [.ag [.sc (.int .i64 0), .sc (.int .i64 0), .sl true [] .zer], .sc (.int .i64 5)]) := by
  refine PureIs.weak ?_
  have h := series_is lva lva (by decide) (by decide)
  rw [show seriesA lva lva = (.tu [.ag [.sc (.int .i64 0), .sc (.int .i64 0), .sl true [] .zer], .sc (.int .i64 5)]) from by kernel_rfl] at h
  exact h
theorem lm_D : PureIs prog 21 [.ag [.sc (.int .i64 1), .sc (.int .i64 2), .sl false [[.sl false [[.sc (.int .i64 1), .sc (.int .i64 0)]] .full], [.sl false [[.sc (.int .i64 2), .sc (.int .i64 1)]] .full], [.sl false [[.sc (.int .i64 1), .sc (.int .i64 1)]] .full]] .full], .sc (.int .i64 0), .ag [.sc (.int .i64 1), .sc (.int .i64 2), .sl false [[.sl false [[.sc (.int .i64 1), .sc (.int .i64 0)]] .full], [.sl false [[.sc (.int .i64 2), .sc (.int .i64 1)]] .full], [.sl false [[.sc (.int .i64 1), .sc (.int .i64 1)]] .full]] .full]] (.sc (.bool true)) := machineF_is (a := lvD) (b := lvD) rfl rfl rfl (by decide) (by decide)
theorem lm_F : PureIs prog 21 [.ag [.sc (.int .i64 1), .sc (.int .i64 4), .sl false [[.sl false [[.sc (.int .i64 1), .sc (.int .i64 0)]] .full], [.sl false [[.sc (.int .i64 0), .sc (.int .i64 3)]] .full]] .full], .sc (.int .i64 0), .ag [.sc (.int .i64 1), .sc (.int .i64 4), .sl false [[.sl false [[.sc (.int .i64 1), .sc (.int .i64 0)]] .full], [.sl false [[.sc (.int .i64 0), .sc (.int .i64 3)]] .full]] .full]] (.sc (.bool true)) := machineF_is (a := lvF) (b := lvF) rfl rfl rfl (by decide) (by decide)
theorem lm_H : PureIs prog 21 [.ag [.sc (.int .i64 1), .sc (.int .i64 2), .sl false [[.sl false [[.sc (.int .i64 1), .sc (.int .i64 1)]] .full], [.sl false [[.sc (.int .i64 0), .sc (.int .i64 0)]] .full]] .full], .sc (.int .i64 0), .ag [.sc (.int .i64 1), .sc (.int .i64 2), .sl false [[.sl false [[.sc (.int .i64 1), .sc (.int .i64 1)]] .full], [.sl false [[.sc (.int .i64 0), .sc (.int .i64 0)]] .full]] .full]] (.sc (.bool true)) := machineF_is (a := lvH) (b := lvH) rfl rfl rfl (by decide) (by decide)
theorem lm_J : PureIs prog 21 [.ag [.sc (.int .i64 1), .sc (.int .i64 1), .sl false [[.sl false [[.sc (.int .i64 0), .sc (.int .i64 0)]] .full]] .full], .sc (.int .i64 0), .ag [.sc (.int .i64 1), .sc (.int .i64 1), .sl false [[.sl false [[.sc (.int .i64 0), .sc (.int .i64 0)]] .full]] .full]] (.sc (.bool true)) := machineF_is (a := lvJ) (b := lvJ) rfl rfl rfl (by decide) (by decide)
theorem lm_L : PureIs prog 21 [.ag [.sc (.int .i64 1), .sc (.int .i64 1), .sl false [[.sl false [[.sc (.int .i64 1), .sc (.int .i64 0)]] .full], [.sl false [[.sc (.int .i64 1), .sc (.int .i64 0)]] .full]] .full], .sc (.int .i64 0), .ag [.sc (.int .i64 1), .sc (.int .i64 1), .sl false [[.sl false [[.sc (.int .i64 1), .sc (.int .i64 0)]] .full], [.sl false [[.sc (.int .i64 1), .sc (.int .i64 0)]] .full]] .full]] (.sc (.bool true)) := machineF_is (a := lvL) (b := lvL) rfl rfl rfl (by decide) (by decide)
theorem lm_P : PureIs prog 21 [.ag [.sc (.int .i64 1), .sc (.int .i64 2), .sl false [[.sl false [[.sc (.int .i64 1), .sc (.int .i64 1)]] .full], [.sl false [[.sc (.int .i64 1), .sc (.int .i64 0)]] .full]] .full], .sc (.int .i64 0), .ag [.sc (.int .i64 1), .sc (.int .i64 2), .sl false [[.sl false [[.sc (.int .i64 1), .sc (.int .i64 1)]] .full], [.sl false [[.sc (.int .i64 1), .sc (.int .i64 0)]] .full]] .full]] (.sc (.bool true)) := machineF_is (a := lvP) (b := lvP) rfl rfl rfl (by decide) (by decide)
theorem lm_T : PureIs prog 21 [.ag [.sc (.int .i64 1), .sc (.int .i64 2), .sl false [[.sl false [[.sc (.int .i64 1), .sc (.int .i64 0)]] .full], [.sl false [[.sc (.int .i64 0), .sc (.int .i64 1)]] .full], [.sl false [[.sc (.int .i64 (-1)), .sc (.int .i64 (-1))]] .full]] .full], .sc (.int .i64 0), .ag [.sc (.int .i64 1), .sc (.int .i64 2), .sl false [[.sl false [[.sc (.int .i64 1), .sc (.int .i64 0)]] .full], [.sl false [[.sc (.int .i64 0), .sc (.int .i64 1)]] .full], [.sl false [[.sc (.int .i64 (-1)), .sc (.int .i64 (-1))]] .full]] .full]] (.sc (.bool true)) := machineF_is (a := lvT) (b := lvT) rfl rfl rfl (by decide) (by decide)

end Go.Avl
namespace Go.Avl
open Go Go.Proofs.Try
set_option maxRecDepth 10000
set_option linter.unusedSimpArgs false
attribute [go_sem] List.append_eq

set_option maxHeartbeats 16000000 in
theorem lives_is : PureIs prog 20 [] (.sc (.bool true)) := by
  refine PureIs.of (nv := 28) (hid := []) func20 rfl (by kernel_rfl) (by simp [ntmps20]) fun _ => ?_
  rw [ntmps20, results20]
  refine EvC.seq (EvC.rg (by (simp only [go_sem]) <;> rfl) (by simp) ?_)
  apply EvC.seq
  apply EvC.tr
  · apply Tr.run
    · (simp only [go_sem]) <;> rfl
    · simp
    apply Tr.cons
    · exact .call rfl rfl (by (simp only [go_sem]) <;> rfl) (by (simp only [go_sem]) <;> rfl) (by (simp only [go_sem]) <;> rfl) (by (simp only [go_sem]) <;> rfl) (by (simp only [go_sem]) <;> rfl) (edge_is' 1 0)
    apply Tr.run
    · (simp only [go_sem]) <;> rfl
    · simp
    apply Tr.cons
    · exact .call rfl rfl (by (simp only [go_sem]) <;> rfl) (by (simp only [go_sem]) <;> rfl) (by (simp only [go_sem]) <;> rfl) (by (simp only [go_sem]) <;> rfl) (by (simp only [go_sem]) <;> rfl) (edge_is' 0 1)
    apply Tr.done
    · (simp only [go_sem]) <;> rfl
    · simp
  apply EvC.seq
  apply EvC.tr
  · apply Tr.run
    · (simp only [go_sem]) <;> rfl
    · simp
    apply Tr.cons
    · exact .call rfl rfl (by (simp only [go_sem]) <;> rfl) (by (simp only [go_sem]) <;> rfl) (by (simp only [go_sem]) <;> rfl) (by (simp only [go_sem]) <;> rfl) (by (simp only [go_sem]) <;> rfl) (edge_is' 0 0)
    apply Tr.run
    · (simp only [go_sem]) <;> rfl
    · simp
    apply Tr.cons
    · exact .call rfl rfl (by (simp only [go_sem]) <;> rfl) (by (simp only [go_sem]) <;> rfl) (by (simp only [go_sem]) <;> rfl) (by (simp only [go_sem]) <;> rfl) (by (simp only [go_sem]) <;> rfl) (edge_is' 1 1)
    apply Tr.run
    · (simp only [go_sem]) <;> rfl
    · simp
    apply Tr.cons
    · exact .call rfl rfl (by (simp only [go_sem]) <;> rfl) (by (simp only [go_sem]) <;> rfl) (by (simp only [go_sem]) <;> rfl) (by (simp only [go_sem]) <;> rfl) (by (simp only [go_sem]) <;> rfl) (edge_is' 0 1)
    apply Tr.run
    · (simp only [go_sem]) <;> rfl
    · simp
    apply Tr.cons
    · exact .call rfl rfl (by (simp only [go_sem]) <;> rfl) (by (simp only [go_sem]) <;> rfl) (by (simp only [go_sem]) <;> rfl) (by (simp only [go_sem]) <;> rfl) (by (simp only [go_sem]) <;> rfl) (edge_is' 1 0)
    apply Tr.done
    · (simp only [go_sem]) <;> rfl
    · simp
  apply EvC.seq
  apply EvC.tr
  · apply Tr.run
    · (simp only [go_sem]) <;> rfl
    · simp
    apply Tr.cons
    · exact .call rfl rfl (by (simp only [go_sem]) <;> rfl) (by (simp only [go_sem]) <;> rfl) (by (simp only [go_sem]) <;> rfl) (by (simp only [go_sem]) <;> rfl) (by (simp only [go_sem]) <;> rfl) (edge_is' (-1) (-1))
    apply Tr.done
    · (simp only [go_sem]) <;> rfl
    · simp
  apply EvC.seq
  apply EvC.tr
  · apply Tr.run
    · (simp only [go_sem]) <;> rfl
    · simp
    apply Tr.cons
    · exact .call rfl rfl (by (simp only [go_sem]) <;> rfl) (by (simp only [go_sem]) <;> rfl) (by (simp only [go_sem]) <;> rfl) (by (simp only [go_sem]) <;> rfl) (by (simp only [go_sem]) <;> rfl) (lv_d)
    apply Tr.done
    · (simp only [go_sem]) <;> rfl
    · simp
  apply EvC.seq
  apply EvC.tr
  · apply Tr.run
    · (simp only [go_sem]) <;> rfl
    · simp
    apply Tr.cons
    · exact .call rfl rfl (by (simp only [go_sem]) <;> rfl) (by (simp only [go_sem]) <;> rfl) (by (simp only [go_sem]) <;> rfl) (by (simp only [go_sem]) <;> rfl) (by (simp only [go_sem]) <;> rfl) (lv_f)
    apply Tr.done
    · (simp only [go_sem]) <;> rfl
    · simp
  apply EvC.seq
  apply EvC.tr
  · apply Tr.run
    · (simp only [go_sem]) <;> rfl
    · simp
    apply Tr.cons
    · exact .call rfl rfl (by (simp only [go_sem]) <;> rfl) (by (simp only [go_sem]) <;> rfl) (by (simp only [go_sem]) <;> rfl) (by (simp only [go_sem]) <;> rfl) (by (simp only [go_sem]) <;> rfl) (lv_h)
    apply Tr.done
    · (simp only [go_sem]) <;> rfl
    · simp
  apply EvC.seq
  apply EvC.tr
  · apply Tr.run
    · (simp only [go_sem]) <;> rfl
    · simp
    apply Tr.cons
    · exact .call rfl rfl (by (simp only [go_sem]) <;> rfl) (by (simp only [go_sem]) <;> rfl) (by (simp only [go_sem]) <;> rfl) (by (simp only [go_sem]) <;> rfl) (by (simp only [go_sem]) <;> rfl) (lv_j)
    apply Tr.done
    · (simp only [go_sem]) <;> rfl
    · simp
  apply EvC.seq
  apply EvC.tr
  · apply Tr.run
    · (simp only [go_sem]) <;> rfl
    · simp
    apply Tr.cons
    · exact .call rfl rfl (by (simp only [go_sem]) <;> rfl) (by (simp only [go_sem]) <;> rfl) (by (simp only [go_sem]) <;> rfl) (by (simp only [go_sem]) <;> rfl) (by (simp only [go_sem]) <;> rfl) (lv_l)
    apply Tr.done
    · (simp only [go_sem]) <;> rfl
    · simp
  apply EvC.seq
  apply EvC.tr
  · apply Tr.run
    · (simp only [go_sem]) <;> rfl
    · simp
    apply Tr.cons
    · exact .call rfl rfl (by (simp only [go_sem]) <;> rfl) (by (simp only [go_sem]) <;> rfl) (by (simp only [go_sem]) <;> rfl) (by (simp only [go_sem]) <;> rfl) (by (simp only [go_sem]) <;> rfl) (lv_n)
    apply Tr.done
    · (simp only [go_sem]) <;> rfl
    · simp
  apply EvC.seq
  apply EvC.tr
  · apply Tr.run
    · (simp only [go_sem]) <;> rfl
    · simp
    apply Tr.cons
    · exact .call rfl rfl (by (simp only [go_sem]) <;> rfl) (by (simp only [go_sem]) <;> rfl) (by (simp only [go_sem]) <;> rfl) (by (simp only [go_sem]) <;> rfl) (by (simp only [go_sem]) <;> rfl) (lv_p)
    apply Tr.done
    · (simp only [go_sem]) <;> rfl
    · simp
  apply EvC.seq
  apply EvC.tr
  · apply Tr.run
    · (simp only [go_sem]) <;> rfl
    · simp
    apply Tr.cons
    · exact .call rfl rfl (by (simp only [go_sem]) <;> rfl) (by (simp only [go_sem]) <;> rfl) (by (simp only [go_sem]) <;> rfl) (by (simp only [go_sem]) <;> rfl) (by (simp only [go_sem]) <;> rfl) (lv_r)
    apply Tr.done
    · (simp only [go_sem]) <;> rfl
    · simp
  apply EvC.seq
  apply EvC.tr
  · apply Tr.run
    · (simp only [go_sem]) <;> rfl
    · simp
    apply Tr.cons
    · exact .call rfl rfl (by (simp only [go_sem]) <;> rfl) (by (simp only [go_sem]) <;> rfl) (by (simp only [go_sem]) <;> rfl) (by (simp only [go_sem]) <;> rfl) (by (simp only [go_sem]) <;> rfl) (lv_t)
    apply Tr.done
    · (simp only [go_sem]) <;> rfl
    · simp
  apply EvC.seq
  apply EvC.tr
  · apply Tr.run
    · (simp only [go_sem]) <;> rfl
    · simp
    apply Tr.cons
    · exact .call rfl rfl (by (simp only [go_sem]) <;> rfl) (by (simp only [go_sem]) <;> rfl) (by (simp only [go_sem]) <;> rfl) (by (simp only [go_sem]) <;> rfl) (by (simp only [go_sem]) <;> rfl) (lv_v)
    apply Tr.done
    · (simp only [go_sem]) <;> rfl
    · simp
  apply EvC.seq
  apply EvC.tr
  · apply Tr.run
    · (simp only [go_sem]) <;> rfl
    · simp
    apply Tr.cons
    · exact .call rfl rfl (by (simp only [go_sem]) <;> rfl) (by (simp only [go_sem]) <;> rfl) (by (simp only [go_sem]) <;> rfl) (by (simp only [go_sem]) <;> rfl) (by (simp only [go_sem]) <;> rfl) (lv_x)
    apply Tr.done
    · (simp only [go_sem]) <;> rfl
    · simp
  apply EvC.seq
  apply EvC.tr
  · apply Tr.run
    · (simp only [go_sem]) <;> rfl
    · simp
    apply Tr.cons
    · exact .call rfl rfl (by (simp only [go_sem]) <;> rfl) (by (simp only [go_sem]) <;> rfl) (by (simp only [go_sem]) <;> rfl) (by (simp only [go_sem]) <;> rfl) (by (simp only [go_sem]) <;> rfl) (lv_z)
    apply Tr.done
    · (simp only [go_sem]) <;> rfl
    · simp
  apply EvC.seq
  apply EvC.drw mixed
  · apply Tr.run
    · (simp only [go_sem]) <;> rfl
    · simp
    apply Tr.cons
    · exact .call rfl rfl (by (simp only [go_sem]) <;> rfl) (by (simp only [go_sem]) <;> rfl) (by (simp only [go_sem]) <;> rfl) (by (simp only [go_sem]) <;> rfl) (by (simp only [go_sem]) <;> rfl) (edge_is' (1) (0))
    apply Tr.run
    · (simp only [go_sem]) <;> rfl
    · simp
    apply Tr.cons
    · exact .call rfl rfl (by (simp only [go_sem]) <;> rfl) (by (simp only [go_sem]) <;> rfl) (by (simp only [go_sem]) <;> rfl) (by (simp only [go_sem]) <;> rfl) (by (simp only [go_sem]) <;> rfl) (edge_is' (2) (1))
    apply Tr.run
    · (simp only [go_sem]) <;> rfl
    · simp
    apply Tr.cons
    · exact .call rfl rfl (by (simp only [go_sem]) <;> rfl) (by (simp only [go_sem]) <;> rfl) (by (simp only [go_sem]) <;> rfl) (by (simp only [go_sem]) <;> rfl) (by (simp only [go_sem]) <;> rfl) (edge_is' (1) (1))
    apply Tr.run
    · (simp only [go_sem]) <;> rfl
    · simp
    apply Tr.cons
    · exact .call rfl rfl (by (simp only [go_sem]) <;> rfl) (by (simp only [go_sem]) <;> rfl) (by (simp only [go_sem]) <;> rfl) (by (simp only [go_sem]) <;> rfl) (by (simp only [go_sem]) <;> rfl) (lm_D)
    apply Tr.run
    · (simp only [go_sem]) <;> rfl
    · simp
    apply Tr.cons
    · exact .callG rfl rfl (by (simp only [go_sem]) <;> rfl) rfl (by (simp only [go_sem]) <;> rfl) (by (simp only [go_sem]) <;> rfl) (by (simp only [go_sem]) <;> rfl) (by (simp only [go_sem]) <;> rfl) (by (simp only [go_sem]) <;> rfl) (edge_is' (1) (0))
    apply Tr.run
    · (simp only [go_sem]) <;> rfl
    · simp
    apply Tr.cons
    · exact .callG rfl rfl (by (simp only [go_sem]) <;> rfl) rfl (by (simp only [go_sem]) <;> rfl) (by (simp only [go_sem]) <;> rfl) (by (simp only [go_sem]) <;> rfl) (by (simp only [go_sem]) <;> rfl) (by (simp only [go_sem]) <;> rfl) (edge_is' (0) (3))
    apply Tr.run
    · (simp only [go_sem]) <;> rfl
    · simp
    apply Tr.cons
    · exact .callG rfl rfl (by (simp only [go_sem]) <;> rfl) rfl (by (simp only [go_sem]) <;> rfl) (by (simp only [go_sem]) <;> rfl) (by (simp only [go_sem]) <;> rfl) (by (simp only [go_sem]) <;> rfl) (by (simp only [go_sem]) <;> rfl) (lm_F)
    apply Tr.run
    · (simp only [go_sem]) <;> rfl
    · simp
    apply Tr.cons
    · exact .callG rfl rfl (by (simp only [go_sem]) <;> rfl) rfl (by (simp only [go_sem]) <;> rfl) (by (simp only [go_sem]) <;> rfl) (by (simp only [go_sem]) <;> rfl) (by (simp only [go_sem]) <;> rfl) (by (simp only [go_sem]) <;> rfl) (edge_is' (1) (1))
    apply Tr.run
    · (simp only [go_sem]) <;> rfl
    · simp
    apply Tr.cons
    · exact .callG rfl rfl (by (simp only [go_sem]) <;> rfl) rfl (by (simp only [go_sem]) <;> rfl) (by (simp only [go_sem]) <;> rfl) (by (simp only [go_sem]) <;> rfl) (by (simp only [go_sem]) <;> rfl) (by (simp only [go_sem]) <;> rfl) (edge_is' (0) (0))
    apply Tr.run
    · (simp only [go_sem]) <;> rfl
    · simp
    apply Tr.cons
    · exact .callG rfl rfl (by (simp only [go_sem]) <;> rfl) rfl (by (simp only [go_sem]) <;> rfl) (by (simp only [go_sem]) <;> rfl) (by (simp only [go_sem]) <;> rfl) (by (simp only [go_sem]) <;> rfl) (by (simp only [go_sem]) <;> rfl) (lm_H)
    apply Tr.run
    · (simp only [go_sem]) <;> rfl
    · simp
    apply Tr.cons
    · exact .callG rfl rfl (by (simp only [go_sem]) <;> rfl) rfl (by (simp only [go_sem]) <;> rfl) (by (simp only [go_sem]) <;> rfl) (by (simp only [go_sem]) <;> rfl) (by (simp only [go_sem]) <;> rfl) (by (simp only [go_sem]) <;> rfl) (edge_is' (0) (0))
    apply Tr.run
    · (simp only [go_sem]) <;> rfl
    · simp
    apply Tr.cons
    · exact .callG rfl rfl (by (simp only [go_sem]) <;> rfl) rfl (by (simp only [go_sem]) <;> rfl) (by (simp only [go_sem]) <;> rfl) (by (simp only [go_sem]) <;> rfl) (by (simp only [go_sem]) <;> rfl) (by (simp only [go_sem]) <;> rfl) (lm_J)
    apply Tr.run
    · (simp only [go_sem]) <;> rfl
    · simp
    apply Tr.cons
    · exact .callG rfl rfl (by (simp only [go_sem]) <;> rfl) rfl (by (simp only [go_sem]) <;> rfl) (by (simp only [go_sem]) <;> rfl) (by (simp only [go_sem]) <;> rfl) (by (simp only [go_sem]) <;> rfl) (by (simp only [go_sem]) <;> rfl) (edge_is' (1) (0))
    apply Tr.run
    · (simp only [go_sem]) <;> rfl
    · simp
    apply Tr.cons
    · exact .callG rfl rfl (by (simp only [go_sem]) <;> rfl) rfl (by (simp only [go_sem]) <;> rfl) (by (simp only [go_sem]) <;> rfl) (by (simp only [go_sem]) <;> rfl) (by (simp only [go_sem]) <;> rfl) (by (simp only [go_sem]) <;> rfl) (edge_is' (1) (0))
    apply Tr.run
    · (simp only [go_sem]) <;> rfl
    · simp
    apply Tr.cons
    · exact .callG rfl rfl (by (simp only [go_sem]) <;> rfl) rfl (by (simp only [go_sem]) <;> rfl) (by (simp only [go_sem]) <;> rfl) (by (simp only [go_sem]) <;> rfl) (by (simp only [go_sem]) <;> rfl) (by (simp only [go_sem]) <;> rfl) (lm_L)
    apply Tr.run
    · (simp only [go_sem]) <;> rfl
    · simp
    apply Tr.cons
    · exact .callG rfl rfl (by (simp only [go_sem]) <;> rfl) rfl (by (simp only [go_sem]) <;> rfl) (by (simp only [go_sem]) <;> rfl) (by (simp only [go_sem]) <;> rfl) (by (simp only [go_sem]) <;> rfl) (by (simp only [go_sem]) <;> rfl) (nothingZ_is 1)
    apply Tr.run
    · (simp only [go_sem]) <;> rfl
    · simp
    apply Tr.cons
    · exact .callG rfl rfl (by (simp only [go_sem]) <;> rfl) rfl (by (simp only [go_sem]) <;> rfl) (by (simp only [go_sem]) <;> rfl) (by (simp only [go_sem]) <;> rfl) (by (simp only [go_sem]) <;> rfl) (by (simp only [go_sem]) <;> rfl) (edge_is' (1) (1))
    apply Tr.run
    · (simp only [go_sem]) <;> rfl
    · simp
    apply Tr.cons
    · exact .callG rfl rfl (by (simp only [go_sem]) <;> rfl) rfl (by (simp only [go_sem]) <;> rfl) (by (simp only [go_sem]) <;> rfl) (by (simp only [go_sem]) <;> rfl) (by (simp only [go_sem]) <;> rfl) (by (simp only [go_sem]) <;> rfl) (edge_is' (1) (0))
    apply Tr.run
    · (simp only [go_sem]) <;> rfl
    · simp
    apply Tr.cons
    · exact .callG rfl rfl (by (simp only [go_sem]) <;> rfl) rfl (by (simp only [go_sem]) <;> rfl) (by (simp only [go_sem]) <;> rfl) (by (simp only [go_sem]) <;> rfl) (by (simp only [go_sem]) <;> rfl) (by (simp only [go_sem]) <;> rfl) (lm_P)
    apply Tr.run
    · (simp only [go_sem]) <;> rfl
    · simp
    apply Tr.cons
    · exact .callG rfl rfl (by (simp only [go_sem]) <;> rfl) rfl (by (simp only [go_sem]) <;> rfl) (by (simp only [go_sem]) <;> rfl) (by (simp only [go_sem]) <;> rfl) (by (simp only [go_sem]) <;> rfl) (by (simp only [go_sem]) <;> rfl) (nothingZ_is 1)
    apply Tr.run
    · (simp only [go_sem]) <;> rfl
    · simp
    apply Tr.cons
    · exact .callG rfl rfl (by (simp only [go_sem]) <;> rfl) rfl (by (simp only [go_sem]) <;> rfl) (by (simp only [go_sem]) <;> rfl) (by (simp only [go_sem]) <;> rfl) (by (simp only [go_sem]) <;> rfl) (by (simp only [go_sem]) <;> rfl) (edge_is' (1) (0))
    apply Tr.run
    · (simp only [go_sem]) <;> rfl
    · simp
    apply Tr.cons
    · exact .callG rfl rfl (by (simp only [go_sem]) <;> rfl) rfl (by (simp only [go_sem]) <;> rfl) (by (simp only [go_sem]) <;> rfl) (by (simp only [go_sem]) <;> rfl) (by (simp only [go_sem]) <;> rfl) (by (simp only [go_sem]) <;> rfl) (edge_is' (0) (1))
    apply Tr.run
    · (simp only [go_sem]) <;> rfl
    · simp
    apply Tr.cons
    · exact .callG rfl rfl (by (simp only [go_sem]) <;> rfl) rfl (by (simp only [go_sem]) <;> rfl) (by (simp only [go_sem]) <;> rfl) (by (simp only [go_sem]) <;> rfl) (by (simp only [go_sem]) <;> rfl) (by (simp only [go_sem]) <;> rfl) (edge_is' (-1) (-1))
    apply Tr.run
    · (simp only [go_sem]) <;> rfl
    · simp
    apply Tr.cons
    · exact .callG rfl rfl (by (simp only [go_sem]) <;> rfl) rfl (by (simp only [go_sem]) <;> rfl) (by (simp only [go_sem]) <;> rfl) (by (simp only [go_sem]) <;> rfl) (by (simp only [go_sem]) <;> rfl) (by (simp only [go_sem]) <;> rfl) (lm_T)
    apply Tr.run
    · (simp only [go_sem]) <;> rfl
    · simp
    apply Tr.cons
    · exact .callG rfl rfl (by (simp only [go_sem]) <;> rfl) rfl (by (simp only [go_sem]) <;> rfl) (by (simp only [go_sem]) <;> rfl) (by (simp only [go_sem]) <;> rfl) (by (simp only [go_sem]) <;> rfl) (by (simp only [go_sem]) <;> rfl) (nothingZ_is 5)
    apply Tr.run
    · (simp only [go_sem]) <;> rfl
    · simp
    apply Tr.cons
    · exact .callG rfl rfl (by (simp only [go_sem]) <;> rfl) rfl (by (simp only [go_sem]) <;> rfl) (by (simp only [go_sem]) <;> rfl) (by (simp only [go_sem]) <;> rfl) (by (simp only [go_sem]) <;> rfl) (by (simp only [go_sem]) <;> rfl) (nothingZ_is 5)
    apply Tr.run
    · (simp only [go_sem]) <;> rfl
    · simp
    apply Tr.cons
    · exact .callG rfl rfl (by (simp only [go_sem]) <;> rfl) rfl (by (simp only [go_sem]) <;> rfl) (by (simp only [go_sem]) <;> rfl) (by (simp only [go_sem]) <;> rfl) (by (simp only [go_sem]) <;> rfl) (by (simp only [go_sem]) <;> rfl) (nothingZ_is 5)
    apply Tr.done
    · (simp only [go_sem]) <;> rfl
    · simp
  · kernel_rfl
  refine EvC.ret ⟨.inl rfl, _, (by (simp only [go_sem]) <;> rfl), ?_, rfl⟩
  simp only [go_sem]
end Go.Avl
namespace Go.Avl
open Go Go.ChangeShapes Go.RowKit

/-- Every cell that is there. -/
def Live (w : World) : Nat → Nat → Prop := fun b _ => b < w.heap.size

section
variable {H : Type} {enc : TypeId × Value → H} {P : Program} {w : World} {α β : Type}

/-- What is read is of a size that memory can hold. -/
def Fits (P : Program) (t : TypeId) (d : DataW H) : Prop := ∀ n ∈ d.weights P t, n ≤ reachBytes
theorem fits_all {P : Program} {e : TypeId} : ∀ {l : List (DataW H)}, (∀ n ∈ DataW.weightsAll P e l, n ≤ reachBytes) → ∀ d ∈ l, Fits P e d
  | [], _, d, hd => by cases hd
  | a :: l, h, d, hd => by
    simp only [DataW.weightsAll, List.mem_append] at h
    rcases List.mem_cons.1 hd with rfl | hd
    · exact fun n hn => h n (.inl hn)
    · exact fits_all (fun n hn => h n (.inr hn)) d hd
theorem fits_each {P : Program} : ∀ {ts : List TypeId} {l : List (DataW H)}, (∀ n ∈ DataW.weightsEach P ts l, n ≤ reachBytes) → ∀ (i : Nat) t d, ts[i]? = some t → l[i]? = some d → Fits P t d
  | [], _, _, i, t, d, h1, _ => by simp at h1
  | _ :: _, [], _, i, t, d, _, h2 => by simp at h2
  | a :: ts, b :: l, h, i, t, d, h1, h2 => by
    simp only [DataW.weightsEach, List.mem_append] at h
    cases i with
    | zero =>
      simp only [List.getElem?_cons_zero, Option.some.injEq] at h1 h2
      subst h1; subst h2
      exact fun n hn => h n (.inl hn)
    | succ i => exact fits_each (fun n hn => h n (.inr hn)) i t d (by simpa using h1) (by simpa using h2)

/-- The cells of a reading, as abstract values. -/
def Reads (enc : TypeId × Value → H) (P : Program) (w : World) (t : TypeId) (f : α → List AV) (Ok : α → Prop) : Prop :=
  ∀ fuel cs x, Fits P t x.1 → DataW.trod enc P w 0 (fun _ => true) true fuel t cs = some x →
    ∃ a, Ok a ∧ Imms (Live w) w cs (f a) ∧ ∀ v ∈ cs, v.oneCell' = true

theorem Imms.one {F : Nat → Nat → Prop} {v : Value} {x : AV} (h : Imm F w v x) : Imms F w [v] [x] :=
  ⟨rfl, fun i h1 _ => by have : i = 0 := by simpa using h1
                         subst this; exact h⟩
theorem Imms.append {F : Nat → Nat → Prop} {vs vs' : List Value} {xs xs' : List AV} (h : Imms F w vs xs) (h' : Imms F w vs' xs') : Imms F w (vs ++ vs') (xs ++ xs') := by
  have e := h.1
  have e' := h'.1
  refine ⟨by simp [e, e'], fun i h1 h2 => ?_⟩
  by_cases hi : i < vs.length
  · rw [List.getElem_append_left hi, List.getElem_append_left (by omega)]; exact h.2 i _ _
  · rw [List.getElem_append_right (by omega), List.getElem_append_right (by omega)]
    have := h'.2 (i - vs.length) (by simp at h1; omega) (by simp at h2; omega)
    simpa only [e] using this

theorem Reads.mono {t : TypeId} {f : α → List AV} {Ok : α → Prop} {g : β → List AV} {Ok' : β → Prop} (h : Reads enc P w t f Ok) (hq : ∀ a, Ok a → ∃ b, Ok' b ∧ g b = f a) : Reads enc P w t g Ok' :=
  fun fuel cs x hs ht => let ⟨a, h1, h2, h3⟩ := h fuel cs x hs ht; let ⟨b, k1, k2⟩ := hq a h1; ⟨b, k1, by rw [k2]; exact h2, h3⟩
theorem Reads.int {t : TypeId} {k : IntKind} (ht : P.underlying t = some (.int k)) : Reads enc P w t (fun n : Int => [.sc (.int k n)]) (fun n => (Lit.int k n).wf = true) := fun fuel cs x _ h => by
  obtain ⟨n, rfl, rfl, hw⟩ := DataW.trod_int ht h
  exact ⟨n, hw, .one (.sc _), by simp [Value.oneCell']⟩
theorem Reads.bool {t : TypeId} (ht : P.underlying t = some .bool) : Reads enc P w t (fun b : Bool => [.sc (.bool b)]) (fun _ => True) := fun fuel cs x _ h => by
  obtain ⟨b, rfl, rfl⟩ := DataW.trod_bool ht h
  exact ⟨b, trivial, .one (.sc _), by simp [Value.oneCell']⟩

theorem pick {α : Type} {p : Nat → α → Prop} (n : Nat) (h : ∀ i, i < n → ∃ a, p i a) : ∃ l : List α, l.length = n ∧ ∀ i (hi : i < l.length), p i l[i] := by
  induction n with
  | zero => exact ⟨[], rfl, fun i hi => by simp at hi⟩
  | succ n ih =>
    obtain ⟨l, h1, h2⟩ := ih fun i hi => h i (by omega)
    obtain ⟨a, ha⟩ := h n (by omega)
    refine ⟨l ++ [a], by simp [h1], fun i hi => ?_⟩
    by_cases h3 : i < l.length
    · rw [List.getElem_append_left h3]; exact h2 i h3
    · have : i = l.length := by simp at hi; omega
      subst this
      rw [List.getElem_append_right (Nat.le_refl _)]
      simpa [h1] using ha

theorem Reads.slice {t e : TypeId} {f : α → List AV} {Ok : α → Prop} (ht : P.underlying t = some (.slice e)) (he : Reads enc P w e f Ok) (hz : ∀ a, (f a).length = P.cellsOf e) (hz0 : 0 < P.cellsOf e) :
    Reads enc P w t (fun x : Bool × List α => [.sl x.1 (x.2.map f) .unk]) (fun x => (∀ y ∈ x.2, Ok y) ∧ (x.1 = true → x.2 = []) ∧ x.2.length * P.bytesOf e ≤ reachBytes) := fun fuel cs x hs h => by
  rcases DataW.trod_slice ht h with ⟨rfl, rfl⟩ | ⟨a, len, cap, elems, rest, n, rfl, rfl, rfl, _, hlc, hcm, hlen, hel, hrest, _⟩
  · exact ⟨(true, []), ⟨by simp, fun _ => rfl, by simp⟩, .one (.nil _ (.inl rfl)), by simp [Value.oneCell']⟩
  unfold Fits at hs
  simp only [DataW.weights, ht, List.mem_cons, List.mem_append, List.length_map] at hs
  have hbytes : len * P.bytesOf e ≤ reachBytes := by
    have := hs _ (.inl rfl)
    rw [hlen, Nat.add_mul] at this; omega
  have hfit : ∀ i (hi : i < elems.length), Fits P e elems[i].1 := fun i hi =>
    fits_all (l := elems.map (·.1)) (fun n hn => hs n (.inr (.inl hn))) _ (List.mem_map.2 ⟨_, List.getElem_mem hi, rfl⟩)
  by_cases hc0 : cap = 0
  · have hl0 : len = 0 := by omega
    subst hc0; subst hl0
    exact ⟨(false, []), ⟨by simp, by simp, by simp⟩, .one (.sz a _ (.inl rfl)), by simp [Value.oneCell']⟩
  have hfirst : ∃ v, w.cell? a = some v := by
    have hcells : ∃ cs', w.cells? 0 a (P.cellsOf e) = some cs' := by
      by_cases hl0 : len = 0
      · subst hl0
        have h1 := (hrest rfl).2 0 (by omega)
        rw [List.getElem?_eq_getElem (by rw [(hrest rfl).1]; omega)] at h1
        obtain ⟨cs', h2, _⟩ := Option.bind_eq_some_iff.1 h1
        refine ⟨cs', ?_⟩
        simpa [Addr.add] using h2
      · have h1 := hel 0 (by omega)
        rw [List.getElem?_eq_getElem (by omega)] at h1
        obtain ⟨cs', h2, _⟩ := Option.bind_eq_some_iff.1 h1
        refine ⟨cs', ?_⟩
        simpa [Addr.add] using h2
    obtain ⟨cs', h2⟩ := hcells
    obtain ⟨_, q1, q2⟩ := World.cells?_some h2
    have := q2 0 hz0
    rw [List.getElem?_eq_getElem (by omega)] at this
    exact ⟨_, by simpa [Addr.add] using this⟩
  have hsp : a.spot = none := by
    obtain ⟨v, hv⟩ := hfirst
    unfold World.cell? at hv
    cases hsp : a.spot with
    | none => rfl
    | some k =>
      rw [hsp] at hv
      split at hv <;> simp at hv
  obtain ⟨b, off, spt⟩ := a
  cases hsp
  have key : ∀ i, i < len → ∃ y : α, Ok y ∧ ∃ cs', cs'.length = P.cellsOf e ∧ (∀ j (hj : j < cs'.length), w.cell? ⟨b, off + i * P.cellsOf e + j, none⟩ = some cs'[j]) ∧ Imms (Live w) w cs' (f y) ∧ ∀ v ∈ cs', v.oneCell' = true := fun i hi => by
    have h1 := hel i hi
    rw [List.getElem?_eq_getElem (by omega)] at h1
    obtain ⟨cs', h2, h3⟩ := Option.bind_eq_some_iff.1 h1
    obtain ⟨y, k1, k2, k3⟩ := he _ _ _ (hfit i (by omega)) h3
    obtain ⟨_, q1, q2⟩ := World.cells?_some h2
    refine ⟨y, k1, cs', q1, fun j hj => ?_, k2, k3⟩
    have := q2 j (by omega)
    rw [List.getElem?_eq_getElem hj] at this
    rw [← this]
    congr 1
    unfold Addr.add
    by_cases e1 : i * P.cellsOf e = 0
    · rw [if_pos e1]
      by_cases e2 : j = 0
      · subst e2; simp [e1]
      · rw [if_neg e2]; simp [e1]
    · rw [if_neg e1]
      by_cases e2 : j = 0
      · subst e2; simp
      · rw [if_neg e2]
  obtain ⟨l, hl, hp⟩ := pick len key
  refine ⟨(false, l), ⟨fun y hy => ?_, by simp, by rw [hl]; exact hbytes⟩, .one ?_, by simp [Value.oneCell']⟩
  · obtain ⟨i, hi, rfl⟩ := List.getElem_of_mem hy
    exact (hp i hi).1
  · -- the cells of the row
    have hcell : ∀ i j, i < len → j < P.cellsOf e → ∃ v, w.cell? ⟨b, off + i * P.cellsOf e + j, none⟩ = some v ∧ v.oneCell' = true ∧ ∀ (h : i < l.length) (h' : j < (f l[i]).length), Imm (Live w) w v (f l[i])[j] := fun i j hi hj => by
      obtain ⟨_, cs', q1, q2, q3, q4⟩ := hp i (by omega)
      exact ⟨cs'[j], q2 j (by omega), q4 _ (List.getElem_mem _), fun h h' => q3.2 j (by omega) h'⟩
    have hv := fun i j => show ∃ v, i < len → j < P.cellsOf e → w.cell? ⟨b, off + i * P.cellsOf e + j, none⟩ = some v ∧ v.oneCell' = true ∧ ∀ (h : i < l.length) (h' : j < (f l[i]).length), Imm (Live w) w v (f l[i])[j] from by
      by_cases h : i < len ∧ j < P.cellsOf e
      · obtain ⟨v, hv⟩ := hcell i j h.1 h.2; exact ⟨v, fun _ _ => hv⟩
      · exact ⟨undef, fun h1 h2 => absurd ⟨h1, h2⟩ h⟩
    have hvs : ∀ i j, ∃ v, v = Classical.choose (hv i j) := fun i j => ⟨_, rfl⟩
    have e0 : (l.map f).length = len := by simp [hl]
    have := Imm.sl (F := Live w) (w := w) b off cap (P.cellsOf e) (l.map f) .unk (fun i j => Classical.choose (hv i j)) (by rw [e0]; exact hlc) (.inl rfl) (fun i hi => by rw [List.getElem_map]; exact hz _)
      (fun i j hi hj => by
        obtain ⟨k1, k2, _⟩ := Classical.choose_spec (hv i j) (by rw [← e0]; exact hi) hj
        refine ⟨?_, k1, k2⟩
        unfold World.cell? at k1
        show b < w.heap.size
        cases hb : w.heap[b]? with
        | none => simp [hb] at k1
        | some o => exact (Array.getElem?_eq_some_iff.1 hb).1)
      (fun i j h h' => by
        have h'2 := h'
        rw [List.getElem_map, hz] at h'2
        have := (Classical.choose_spec (hv i j) (by rw [← e0]; exact h) h'2).2.2 (by simpa using h) (by rw [hz]; exact h'2)
        simpa only [List.getElem_map] using this)
    rw [e0] at this
    exact this

/-- The fields of a struct from cell k on. -/
def RdF (enc : TypeId × Value → H) (P : Program) (w : World) (L : List Field) (k tot : Nat) (f : α → List AV) (Ok : α → Prop) : Prop :=
  ∀ (n : Nat) (cs : List Value), cs.length = tot → (∀ fd ∈ L, ∃ y, DataW.trod enc P w 0 (fun _ => true) true n fd.type ((cs.drop fd.offset).take (P.cellsOf fd.type)) = some y ∧ Fits P fd.type y.1) →
    ∃ a, Ok a ∧ Imms (Live w) w (cs.drop k) (f a) ∧ ∀ v ∈ cs.drop k, v.oneCell' = true
theorem RdF.nil {tot : Nat} : RdF enc P w [] tot tot (fun _ : Unit => []) (fun _ => True) := fun n cs hl _ => by
  have : cs.drop tot = [] := by rw [List.drop_eq_nil_iff]; omega
  rw [this]
  exact ⟨(), trivial, ⟨rfl, fun i h => by simp at h⟩, by simp⟩
theorem RdF.cons {fd : Field} {fs : List Field} {k k' sz tot : Nat} {f : α → List AV} {Ok : α → Prop} {g : β → List AV} {Ok' : β → Prop} (ho : fd.offset = k) (hz : P.cellsOf fd.type = sz) (hk : k + sz = k')
    (h : Reads enc P w fd.type f Ok) (hs : RdF enc P w fs k' tot g Ok') : RdF enc P w (fd :: fs) k tot (fun x : α × β => f x.1 ++ g x.2) (fun x => Ok x.1 ∧ Ok' x.2) := fun n cs hl hf => by
  obtain ⟨y, hy, hyf⟩ := hf fd List.mem_cons_self
  obtain ⟨a, h1, h2, h3⟩ := h _ _ _ hyf hy
  obtain ⟨b, k1, k2, k3⟩ := hs n cs hl fun fd' h' => hf fd' (List.mem_cons_of_mem _ h')
  have e : cs.drop k = (cs.drop k).take sz ++ cs.drop k' := by
    rw [← hk, ← List.drop_drop, List.take_append_drop]
  rw [ho, hz] at h2 h3
  refine ⟨(a, b), ⟨h1, k1⟩, by rw [e]; exact h2.append k2, fun v hv => ?_⟩
  rw [e, List.mem_append] at hv
  rcases hv with hv | hv
  · exact h3 v hv
  · exact k3 v hv
theorem Reads.struct {t : TypeId} {fs : Array Field} {tot : Nat} {f : α → List AV} {Ok : α → Prop} (ht : P.underlying t = some (.struct fs)) (hz : P.cellsOf t = tot) (h : RdF enc P w fs.toList 0 tot f Ok) : Reads enc P w t f Ok := fun fuel cs x hs hx => by
  obtain ⟨xs, n, _, rfl, hl, hlen, hf⟩ := DataW.trod_struct ht hx
  unfold Fits at hs
  simp only [DataW.weights, ht] at hs
  obtain ⟨a, h1, h2, h3⟩ := h n cs (hl.trans hz) fun fd hfd => by
    obtain ⟨i, hi, rfl⟩ := List.getElem_of_mem hfd
    have := hf i fs.toList[i] (by simp)
    have hix : i < xs.length := by simp at hi; omega
    rw [List.getElem?_eq_getElem hix] at this
    exact ⟨_, this, fits_each hs i _ _ (by rw [List.getElem?_map, List.getElem?_eq_getElem hi]; rfl) (by rw [List.getElem?_map, List.getElem?_eq_getElem hix]; rfl)⟩
  exact ⟨a, h1, by simpa using h2, by simpa using h3⟩

theorem arr_go {sz : Nat} {f : α → List AV} {Ok : α → Prop} : ∀ (n : Nat) (cs : List Value), cs.length = n * sz →
    (∀ i, i < n → ∃ a, Ok a ∧ Imms (Live w) w ((cs.drop (i * sz)).take sz) (f a) ∧ ∀ v ∈ (cs.drop (i * sz)).take sz, v.oneCell' = true) →
    ∃ l : List α, l.length = n ∧ (∀ a ∈ l, Ok a) ∧ Imms (Live w) w cs (l.map f).flatten ∧ ∀ v ∈ cs, v.oneCell' = true
  | 0, cs, hl, _ => by
    have : cs = [] := by cases cs with
      | nil => rfl
      | cons a l => simp at hl
    subst this
    exact ⟨[], rfl, by simp, ⟨rfl, fun i h => by simp at h⟩, by simp⟩
  | n + 1, cs, hl, h => by
    obtain ⟨a, h1, h2, h3⟩ := h 0 (by omega)
    obtain ⟨l, k1, k2, k3, k4⟩ := arr_go (sz := sz) n (cs.drop sz) (by rw [List.length_drop, hl, Nat.add_mul]; omega) fun i hi => by
      have := h (i + 1) (by omega)
      rwa [List.drop_drop, show sz + i * sz = (i + 1) * sz by rw [Nat.add_mul]; omega]
    simp only [Nat.zero_mul, List.drop_zero] at h2 h3
    have e := List.take_append_drop sz cs
    refine ⟨a :: l, by simp [k1], fun b hb => ?_, ?_, fun v hv => ?_⟩
    · rcases List.mem_cons.1 hb with rfl | hb
      · exact h1
      · exact k2 b hb
    · rw [← e]; simpa using h2.append k3
    · rw [← e, List.mem_append] at hv
      rcases hv with hv | hv
      · exact h3 v hv
      · exact k4 v hv
theorem Reads.array {t e : TypeId} {n sz : Nat} {f : α → List AV} {Ok : α → Prop} (ht : P.underlying t = some (.array n e)) (hz : P.cellsOf e = sz) (ha : P.cellsOf t = n * sz) (h : Reads enc P w e f Ok) :
    Reads enc P w t (fun l : List α => (l.map f).flatten) (fun l => l.length = n ∧ ∀ a ∈ l, Ok a) := fun fuel cs x hs hx => by
  obtain ⟨xs, m, _, rfl, hl, hlen, hf⟩ := DataW.trod_array ht hx
  rw [ha] at hl
  rw [hz] at hf
  unfold Fits at hs
  simp only [DataW.weights, ht] at hs
  obtain ⟨l, h1, h2, h3, h4⟩ := arr_go n cs hl fun i hi => by
    have := hf i hi
    rw [List.getElem?_eq_getElem (by omega)] at this
    exact h _ _ _ (fits_all hs _ (List.mem_map.2 ⟨_, List.getElem_mem _, rfl⟩)) this
  exact ⟨l, ⟨h1, h2⟩, h3, h4⟩

theorem Reads.imm_struct {t : TypeId} {fs : Array Field} {f : α → List AV} {Ok : α → Prop} {r : Reach} {b0 : Nat} {v : Value} {d : DataW H} {ps : List MemPlace} (ht : P.underlying t = some (.struct fs)) (h : Reads enc P w t f Ok)
    (hv : Value.okWide P w r b0 t v) (hw : Fits P t d) (hd : DataW.Trod enc P w 0 (fun _ => true) true t v d ps) : ∃ a, Ok a ∧ Imm (Live w) w v (.ag (f a)) := by
  obtain ⟨cs, rfl, _⟩ := WideShapes.okWide_struct ht hv
  obtain ⟨fuel, hd⟩ := hd
  obtain ⟨a, h1, h2, _⟩ := h _ _ _ hw hd
  refine ⟨a, h1, ?_⟩
  have : (Value.agg cs) = .agg cs.toList.toArray := by simp
  rw [this]
  exact .ag _ _ h2.1 h2.2
theorem Reads.imm_array {t e : TypeId} {n : Nat} {f : α → List AV} {Ok : α → Prop} {r : Reach} {b0 : Nat} {v : Value} {d : DataW H} {ps : List MemPlace} (ht : P.underlying t = some (.array n e)) (h : Reads enc P w t f Ok)
    (hv : Value.okWide P w r b0 t v) (hw : Fits P t d) (hd : DataW.Trod enc P w 0 (fun _ => true) true t v d ps) : ∃ a, Ok a ∧ Imm (Live w) w v (.ag (f a)) := by
  simp only [Value.okWide, ht] at hv
  obtain ⟨cs, rfl, _⟩ := hv
  obtain ⟨fuel, hd⟩ := hd
  obtain ⟨a, h1, h2, _⟩ := h _ _ _ hw hd
  refine ⟨a, h1, ?_⟩
  have : (Value.agg cs) = .agg cs.toList.toArray := by simp
  rw [this]
  exact .ag _ _ h2.1 h2.2
theorem Reads.imm_slice {t e : TypeId} {f : α → AV} {Ok : α → Prop} {r : Reach} {b0 : Nat} {v : Value} {d : DataW H} {ps : List MemPlace} (ht : P.underlying t = some (.slice e)) (h : Reads enc P w t (fun a => [f a]) Ok)
    (hv : Value.okWide P w r b0 t v) (hw : Fits P t d) (hd : DataW.Trod enc P w 0 (fun _ => true) true t v d ps) : ∃ a, Ok a ∧ Imm (Live w) w v (f a) := by
  have hc : v.cells = #[v] := by
    simp only [Value.okWide, ht, Cell.okWide] at hv
    cases v <;> simp_all [Cell.ok, Value.cells]
  obtain ⟨fuel, hd⟩ := hd
  obtain ⟨a, h1, h2, _⟩ := h _ _ _ hw hd
  rw [hc] at h2
  exact ⟨a, h1, h2.2 0 (by simp) (by simp)⟩

theorem Grown.below {F F' : Nat → Nat → Prop} {w' : World} (g : Avl.Grown F w F' w') : Below w.heap.size w w' := ⟨g.kept.os, g.kept.tape, g.kept.output, g.size, g.old⟩

theorem trodAll_stays (hl : laidOutB P = true) {w' : World} (hb : Below w.heap.size w w') {spf : Nat → Bool} : ∀ {ts : List TypeId} {vs : List Value} {ds : List (DataW H)} {ps : List MemPlace}, (∀ t ∈ ts, P.readableRec t = true ∧ t < P.types.size) →
    DataW.TrodAll enc P w 0 (fun _ => true) true ts vs ds ps → (∀ p ∈ ps, p.block < w.heap.size) → (∀ p ∈ ps, spf p.block = true) → DataW.TrodAll enc P w' 0 spf true ts vs ds ps
  | [], [], [], _, _, h, _, _ => h
  | t :: ts, v :: vs, d :: ds, _, hr, ⟨p, q, h1, h2, e⟩, hlt, hsp => by
    subst e
    refine ⟨p, q, ?_, trodAll_stays hl hb (fun t ht => hr t (List.mem_cons_of_mem _ ht)) h2 (fun x hx => hlt x (List.mem_append_right _ hx)) fun x hx => hsp x (List.mem_append_right _ hx), rfl⟩
    have := hr t List.mem_cons_self
    exact WideElems.Trod_stays hl this.1 this.2 h1 (fun x hx => hb.same (hlt x (List.mem_append_left _ hx))) fun x hx => hsp x (List.mem_append_left _ hx)
  | [], _ :: _, _, _, _, h, _, _ => h.elim
  | [], [], _ :: _, _, _, h, _, _ => h.elim
  | _ :: _, [], _, _, _, h, _, _ => h.elim
  | _ :: _, _ :: _, [], _, _, h, _, _ => h.elim

/-- A law from its contract: true comes back, and the arguments read as they did. -/
theorem law_calls {f : FuncId} {fn : Func} {s : ChangeSpec} {apart fresh handsOn again : Bool} {args : Array Value} {avs : List AV} {ds : List (DataW H)} {before : List MemPlace} {tb : TypeId}
    (hl : laidOutB P = true) (hrd : (fn.params.toList.all fun t => P.readableRec t && decide (t < P.types.size)) = true) (hrt : fn.resultTypes = #[tb]) (htb : P.underlying tb = some .bool) (hvars : s.vars = [])
    (hs : s.fn H (ds ++ []) = { results := [.lit (.bool true)], args := ds })
    (h : PureIs P f avs (.sc (.bool true))) (hi : Imms (Live w) w args.toList avs) (hW : DataW.Whole enc P fn.params.toList s.vars apart w args.toList ds [] before) :
    Calls P f args w fun e W' => ∃ v, e = .returned v ∧ s.post enc P fn apart fresh handsOn again w args v W' := by
  have hW' := hW
  obtain ⟨p, q, hA, hV, rfl, hfz, hnd⟩ := hW
  rw [hvars] at hV
  obtain ⟨_, rfl⟩ := trodVars_none hV
  have hc := callsIn_wide.1 (h.2 (Live w) w args.toList (fun _ _ h => h) hi)
  rw [Array.toArray_toList] at hc
  refine hc.mono fun e W' ⟨v, F', he, hr, g⟩ => ?_
  have hv : v = .bool true := by cases hr; rfl
  subst hv
  have hb := Grown.below g
  refine ⟨_, he, post_of_same (pa := p) (pv := []) (by simpa using hW') (fun _ _ _ => ?_) (fun sp hsp => ?_) (fun _ _ => ?_) (by simp) (hb.frame _) g.kept.froz ?_⟩
  · rw [hs, hrt]; exact trodAll_mk1 (shut_bool htb true)
  · rw [hs]
    refine trodAll_stays hl hb (fun t ht => ?_) hA (fun x hx => hW'.lt x (by simpa using hx)) fun x hx => hsp x (by simpa using hx)
    have := List.all_eq_true.1 hrd t ht
    simpa using this
  · rw [hvars, hs]; exact rfl
  · exact ok_one hrt rfl (okWide_bool_mk htb true)

end
end Go.Avl
namespace Go.Proofs.Ytbiifplfohnpeaa
open Go Go.Avl Go.Proofs Go.ChangeShapes Go.RowKit

theorem Try.own : ownKnob Try.prog.godebug = none := by kernel_rfl
theorem Try.laidOut : laidOutB Try.prog = true := by kernel_rfl

section
variable {H : Type} {enc : TypeId × Value → H} {w : World}

theorem u8wf {n : Int} (h : (Lit.int .u8 n).wf = true) : 0 ≤ n ∧ n < 256 := by
  simp [Lit.wf, IntKind.min, IntKind.max, IntKind.signed, IntKind.bits] at h
  omega
theorem u16wf {n : Int} (h : (Lit.int .u16 n).wf = true) : 0 ≤ n ∧ n < 65536 := by
  simp [Lit.wf, IntKind.min, IntKind.max, IntKind.signed, IntKind.bits] at h
  omega
theorem rd_u8 : Reads enc Try.prog w 5 u8C (fun n => 0 ≤ n ∧ n < 256) := (Reads.int (by kernel_rfl)).mono fun a h => ⟨a, u8wf h, rfl⟩
theorem rd_u16 : Reads enc Try.prog w 70 u16C (fun n => 0 ≤ n ∧ n < 65536) := (Reads.int (by kernel_rfl)).mono fun a h => ⟨a, u16wf h, rfl⟩
theorem rd_i64 : Reads enc Try.prog w 3 (fun n : Int => [.sc (.int .i64 n)]) (fun _ => True) := (Reads.int Try.underlying3).mono fun a _ => ⟨a, trivial, rfl⟩
theorem rd_LM : Reads enc Try.prog w 24 LM.cells LM.Ok := by
  have := (Reads.struct (enc := enc) (w := w) (tot := 5) Try.underlying24 (by kernel_rfl) (.cons (sz := 1) rfl (by kernel_rfl) rfl rd_u8 (.cons (sz := 1) rfl (by kernel_rfl) rfl rd_u8 (.cons (sz := 1) rfl (by kernel_rfl) rfl rd_u8 (.cons (sz := 1) rfl (by kernel_rfl) rfl (Reads.bool Try.underlying4)
    (.cons (sz := 1) rfl (by kernel_rfl) rfl (Reads.slice Try.underlying22 rd_u16 (fun a => by rw [show Program.cellsOf Try.prog 70 = 1 by kernel_rfl]; rfl) (by rw [show Program.cellsOf Try.prog 70 = 1 by kernel_rfl]; exact Nat.succ_pos _)) .nil))))))
  exact this.mono fun a h => ⟨⟨a.1, a.2.1, a.2.2.1, a.2.2.2.1, a.2.2.2.2.1.1, a.2.2.2.2.1.2, .unk⟩, ⟨h.1.1, h.2.1.1, h.2.2.1.1, h.2.2.2.2.1.1⟩, rfl⟩
/-- A word of bytes. -/
abbrev WB := Bool × List Int
def WB.cells (x : WB) : List AV := [.sl x.1 (x.2.map u8C) .unk]
def WB.Ok (x : WB) : Prop := ∀ e ∈ x.2, 0 ≤ e ∧ e < 256
theorem rd_W : Reads enc Try.prog w 27 WB.cells WB.Ok := by
  have := (Reads.struct (enc := enc) (w := w) (tot := 1) Try.underlying27 (by kernel_rfl) (.cons (sz := 1) rfl (by kernel_rfl) rfl (Reads.slice Try.underlying25 rd_u8 (fun a => by rw [show Program.cellsOf Try.prog 5 = 1 by kernel_rfl]; rfl) (by rw [show Program.cellsOf Try.prog 5 = 1 by kernel_rfl]; exact Nat.succ_pos _)) .nil))
  exact this.mono fun a h => ⟨(a.1.1, a.1.2), h.1.1, rfl⟩
/-- Rows that memory can hold. -/
theorem len_of {n b : Nat} (hb : 1 ≤ b) (h : n * b ≤ reachBytes) : (n : Int) ≤ 140737488355328 := by
  have h1 : n * 1 ≤ n * b := Nat.mul_le_mul_left n hb
  have h2 : reachBytes ≤ 140737488355328 := by decide
  omega
theorem rd_edge : Reads enc Try.prog w 58 edgeC (fun _ => True) := by
  have := (Reads.struct (enc := enc) (w := w) (tot := 2) Try.underlying58 (by kernel_rfl) (.cons (sz := 1) rfl (by kernel_rfl) rfl rd_i64 (.cons (sz := 1) rfl (by kernel_rfl) rfl rd_i64 .nil)))
  exact this.mono fun a _ => ⟨(a.1, a.2.1), trivial, rfl⟩
theorem rd_row : Reads enc Try.prog w 59 rowC (fun _ => True) :=
  (Reads.slice (by kernel_rfl) rd_edge (fun a => by rw [show Program.cellsOf Try.prog 58 = 2 by kernel_rfl]; rfl) (by rw [show Program.cellsOf Try.prog 58 = 2 by kernel_rfl]; exact Nat.succ_pos _)).mono fun a h => ⟨a, trivial, rfl⟩
theorem rd_rows : Reads enc Try.prog w 31 (fun x : Bool × List Row => [.sl x.1 (x.2.map rowC) .unk]) (fun x => (x.2.length : Int) ≤ 140737488355328) :=
  (Reads.slice Try.underlying31 rd_row (fun a => by rw [show Program.cellsOf Try.prog 59 = 1 by kernel_rfl]; rfl) (by rw [show Program.cellsOf Try.prog 59 = 1 by kernel_rfl]; exact Nat.succ_pos _)).mono fun a h => ⟨a, len_of (b := Program.bytesOf Try.prog 59) (by decide +kernel) h.2.2, rfl⟩
theorem rd_mach : Reads enc Try.prog w 33 Mach.cells (fun m => (m.rows.length : Int) ≤ 140737488355328) := by
  have := (Reads.struct (enc := enc) (w := w) (tot := 3) Try.underlying33 (by kernel_rfl) (.cons (sz := 1) rfl (by kernel_rfl) rfl rd_i64 (.cons (sz := 1) rfl (by kernel_rfl) rfl rd_i64 (.cons (sz := 1) rfl (by kernel_rfl) rfl rd_rows .nil))))
  exact this.mono fun a h => ⟨⟨a.1, a.2.1, a.2.2.1.1, a.2.2.1.2⟩, h.2.2.1, rfl⟩
theorem rd_ints : Reads enc Try.prog w 35 (fun x : Bool × List Int => [.sl x.1 (x.2.map intC) .unk]) (fun x => (x.2.length : Int) ≤ 140737488355328) :=
  (Reads.slice Try.underlying35 rd_i64 (fun a => by rw [show Program.cellsOf Try.prog 3 = 1 by kernel_rfl]; rfl) (by rw [show Program.cellsOf Try.prog 3 = 1 by kernel_rfl]; exact Nat.succ_pos _)).mono fun a h => ⟨a, len_of (b := Program.bytesOf Try.prog 3) (by decide +kernel) h.2.2, rfl⟩
/-- Three lists of numbers. -/
abbrev NW := (Bool × List Int) × (Bool × List Int) × (Bool × List Int)
def NW.cells (x : NW) : List AV := [.sl x.1.1 (x.1.2.map intC) .unk, .sl x.2.1.1 (x.2.1.2.map intC) .unk, .sl x.2.2.1 (x.2.2.2.map intC) .unk]
theorem rd_N : Reads enc Try.prog w 50 NW.cells (fun _ => True) := by
  have := (Reads.struct (enc := enc) (w := w) (tot := 3) Try.underlying50 (by kernel_rfl) (.cons (sz := 1) rfl (by kernel_rfl) rfl rd_ints (.cons (sz := 1) rfl (by kernel_rfl) rfl rd_ints (.cons (sz := 1) rfl (by kernel_rfl) rfl rd_ints .nil))))
  exact this.mono fun a h => ⟨(a.1, a.2.1, a.2.2.1), trivial, rfl⟩
end

end Go.Proofs.Ytbiifplfohnpeaa
