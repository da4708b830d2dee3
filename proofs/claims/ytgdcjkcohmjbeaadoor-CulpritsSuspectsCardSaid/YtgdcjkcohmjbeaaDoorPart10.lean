/-
  Lemmas.
  Lemmas.
  Lemmas.
  Lemmas.
  Lemmas.
  Lemmas.
  Lemmas.
  Lemmas.
  Lemmas.
  Lemmas.
  Lemmas.
  Lemmas.
  Lemmas.
  Lemmas.
  From a law's row to its contract: arguments opened, and read again behind the call.
  How the arguments of the culprits' laws read, and the table of the kinds of faults.
-/
import Derived.ProofKit
import Derived.OpenShut
import Derived.Test.YtgdcjkcohmjbeaaDoorCards
import Derived.Test.YtgdcjkcohmjbeaaDoorTie
import Derived.LaidMore
import Derived.Stop.Joined
import Derived.Test.YtgdcjkcohmjbeaaDoorPart9
set_option linter.unusedSimpArgs false
set_option linter.unusedVariables false
set_option linter.unnecessarySimpa false
set_option linter.deprecated false
namespace Go.Avl
open Go Go.Proofs.Tryd
set_option maxRecDepth 10000
set_option linter.unusedSimpArgs false
def agA (m : Mach) (i o : Int) (L : List TR) : AV :=
 if checkM m ≠ 0 then .tu [.ag [.sc (.int .i64 0), .sc (.int .i64 0)], .sc (.bool false), .sc (.int .i64 (checkM m))]
 else if checkL i o L ≠ 0 then .tu [.ag [.sc (.int .i64 0), .sc (.int .i64 0)], .sc (.bool false), .sc (.int .i64 (checkL i o L))]
 else if m.ins ≠ i then .tu [.ag [.sc (.int .i64 0), .sc (.int .i64 0)], .sc (.bool false), .sc (.int .i64 5)]
 else .tu [.ag [.sc (.int .i64 (agst m L 0).1), .sc (.int .i64 (agst m L 0).2.1)], .sc (.bool (!(agst m L 0).2.2)), .sc (.int .i64 0)]
theorem checkL_ok {i o : Int} {L : List TR} (h : checkL i o L = 0) : withinB i o L = true ∧ 1 ≤ i ∧ 1 ≤ o ∧ ∀ t ∈ L, trOk i o t = true := by
 unfold checkL at h
 split at h
 ·cases h
 ·rename_i h1
  split at h
  ·cases h
  ·rename_i h2
   split at h
   ·rename_i h3
    exact ⟨by simpa using h1, by omega, by omega, List.all_eq_true.1 h3⟩
   ·cases h
theorem trOk_ok {i o : Int} {t : TR} (h : trOk i o t = true) : t.r.length = t.w.length ∧ ∀ a ∈ t.w, 0 ≤ a ∧ a < i := by
 unfold trOk at h
 simp only [Bool.and_eq_true, decide_eq_true_eq, Bool.not_eq_true'] at h
 refine ⟨h.1, fun a ha => ?_⟩
 have h2 := h.2.1
 unfold badW at h2
 rw [List.any_eq_false] at h2
 have := h2 a ha
 simp at this; omega
theorem withinB_ok {i o : Int} {L : List TR} (h : withinB i o L = true) : i ≤ 16 ∧ o ≤ 16 ∧ L.length ≤ 1024 ∧ ∀ t ∈ L, t.w.length ≤ 256 := by
 simp only [withinB, Bool.and_eq_true, decide_eq_true_eq, List.all_eq_true] at h
 exact ⟨h.1, h.2.1, h.2.2.1, h.2.2.2.1⟩
set_option maxHeartbeats 4000000 in
theorem against37_is (m : Mach) (hm : ∀ r ∈ m.rows, r.2.length < 1000000) (i o : Int) (L : List TR) (hL : LogSm L) : PureIs prog 37 [.ag m.cells, .ag (logC i o L)] (agA m i o L) := by
 have h1 := hL.len
 have q0 := check_is m hm
 have q1 := check74_is i o L hL
 unfold logC at q1
 unfold agA
 refine PureIs.of1 12 [13, 14, 18, 24, 31, 34, 35, 36, 37, 48, 49, 50, 51, 61] func37 ntmps37 results37 fun _ => ?_
 refine EvC.a ?_ (by simp only [go_sem, Mach.cells, logC] <;> rfl)
 refine EvC.z 0 ?_
 refine EvC.z 1 ?_
 refine EvC.seq ?_
 apply EvC.s1
 ·apply Tr.run
  ·simp only [go_sem, Mach.cells] <;> rfl
  ·simp
  apply Tr.cons
  ·exact .ca (q0)
  apply Tr.done
  ·simp only [go_sem] <;> rfl
  ·simp
 refine EvC.a ?_
 by_cases c0 : checkM m = 0
 rotate_left
 ·rw [if_pos c0]
  refine EvC.ct ?_ (by simp only [go_sem, decide_eq_false c0] <;> rfl)
  refine EvC.a ?_
  refine EvC.rz ?_
  simp only [go_sem]
 rw [if_neg (show ¬ checkM m ≠ 0 from fun h => h c0)]
 have hv := Valid.of c0
 refine EvC.cs ?_ (by simp only [go_sem, decide_eq_true c0] <;> rfl)
 refine EvC.seq ?_
 apply EvC.s1
 ·apply Tr.run
  ·simp only [go_sem] <;> rfl
  ·simp
  apply Tr.cons
  ·exact .ca (q1)
  apply Tr.done
  ·simp only [go_sem] <;> rfl
  ·simp
 refine EvC.a ?_
 by_cases c1 : checkL i o L = 0
 rotate_left
 ·rw [if_pos c1]
  refine EvC.ct ?_ (by simp only [go_sem, decide_eq_false c1] <;> rfl)
  refine EvC.a ?_
  refine EvC.rz ?_
  simp only [go_sem]
 rw [if_neg (show ¬ checkL i o L ≠ 0 from fun h => h c1)]
 refine EvC.cs ?_ (by simp only [go_sem, decide_eq_true c1] <;> rfl)
 refine EvC.seq ?_
 refine EvC.a ?_ (by simp only [go_sem, Mach.cells] <;> rfl)
 by_cases c2 : m.ins = i
 rotate_left
 ·rw [if_pos c2]
  refine EvC.ct ?_ (by simp only [go_sem, decide_eq_false c2] <;> rfl)
  refine EvC.a ?_
  refine EvC.rz ?_
  simp only [go_sem]
 rw [if_neg (show ¬ m.ins ≠ i from fun h => h c2)]
 refine EvC.cs ?_ (by simp only [go_sem, decide_eq_true c2] <;> rfl)
 obtain ⟨hwi, _, _, hto⟩ := checkL_ok c1
 obtain ⟨w1, w2, w3, w4⟩ := withinB_ok hwi
 refine EvC.seq ?_
 refine EvC.a ?_ (by simp only [go_sem, List.length_map] <;> rfl)
 refine EvC.block ?_
 refine EvC.loopS (σ := Nat) (fun k => ⟨[(2, .ia m.cells), (4, .rf 0 0), (34, .sl L.isEmpty (L.map traceC) .unk), (35, .sc (.int .i64 L.length)), (36, .sc (.int .i64 k))], [], [(0, .cells [.sc (.int .i64 0), .sc (.int .i64 0)])], 1⟩) (fun k => L.length - k) (fun k => k ≤ L.length ∧ agst m L 0 = agst m (L.drop k) k) [2, 4, 34, 35, 36] 1 ?_ ?_
 ·exact ⟨[(2, 0)], 0, rfl, (by simp only [go_sem, Mach.cells, Int.natCast_zero] <;> rfl), Nat.zero_le _, rfl⟩
 rintro k ⟨h2, h3⟩
 refine EvC.a ?_
 refine EvC.seq ?_
 refine EvC.cond (by simp only [go_sem] <;> rfl) (fun hc => ?_) (fun hc => ?_)
 rotate_left
 ·refine EvC.exit ?_
  obtain rfl : k = L.length := by have : ¬ k < L.length := (by simpa using hc); omega
  rw [List.drop_length, agst] at h3
  rw [h3]
  refine EvC.a ?_
  refine EvC.rz ?_
  simp only [go_sem]
 have hkl : k < L.length := by simpa using hc
 clear hc
 have he : L[k]? = some L[k] := List.getElem?_eq_getElem hkl
 have hm := List.getElem_mem hkl
 generalize L[k] = t at he hm
 have hag := agst_drop (m := m) he
 have htk := trOk_ok (hto t hm)
 have hw4 := w4 t hm
 obtain ⟨w, r⟩ := t
 simp only at htk hw4 hag
 obtain ⟨kZ, hkZ⟩ : ∃ z : Int, z = (k : Int) := ⟨_, rfl⟩
 have hkt : kZ.toNat = k := by omega
 have hins := hv.ins
 have hrw := hv.rows
 have q3 := run52_is hv 0 ⟨by omega, by omega⟩ w.isEmpty w .unk (wordErr_of hins (by omega) fun a ha => by have := htk.2 a ha; omega) (by omega)
 have hxl := runR_len m 0 w
 generalize runR m 0 w = x at q3 hxl hag
 rw [← hkZ]
 refine EvC.skip ?_
 refine EvC.seq ?_
 refine EvC.block ?_
 refine EvC.a ?_ (by simp only [go_sem, he, hkt, traceC, List.length_map] <;> rfl) (by simp; try omega)
 refine EvC.z 5 ?_
 apply EvC.s1
 ·apply Tr.run
  ·simp only [go_sem, Mach.cells] <;> rfl
  ·simp
  apply Tr.cons
  ·exact .ca (q3)
  apply Tr.done
  ·simp only [go_sem] <;> rfl
  ·simp
 refine EvC.a ?_ (by simp only [go_sem, List.length_map] <;> rfl)
 refine EvC.block ?_
 refine EvC.loopS (σ := Nat) (fun j => ⟨[(2, .ia m.cells), (4, .rf 0 0), (9, .sc (.int .i64 kZ)), (10, .ia [.sl w.isEmpty (w.map intC) .unk, .sl r.isEmpty (r.map intC) .unk]), (34, .sl L.isEmpty (L.map traceC) .unk), (35, .sc (.int .i64 L.length)), (36, .sc (.int .i64 kZ)), (48, .sl false (x.map intC) .unk), (49, .sc (.int .i64 x.length)), (50, .sc (.int .i64 j))], [], [(0, .cells [.sc (.int .i64 0), .sc (.int .i64 0)])], 1⟩) (fun j => x.length - j) (fun j => j ≤ x.length ∧ diffK x r 0 = diffK (x.drop j) (r.drop j) j) [2, 4, 9, 10, 34, 35, 36, 48, 49, 50] 1 ?_ ?_
 ·exact ⟨[(0, 0)], 0, rfl, (by simp only [go_sem, Mach.cells, List.length_map, Int.natCast_zero] <;> rfl), Nat.zero_le _, rfl⟩
 rintro j ⟨j1, j2⟩
 refine EvC.a ?_
 refine EvC.seq ?_
 refine EvC.cond (by simp only [go_sem] <;> rfl) (fun hc => ?_) (fun hc => ?_)
 rotate_left
 ·refine EvC.exit ?_
  obtain rfl : j = x.length := by have : ¬ j < x.length := (by simpa using hc); omega
  rw [List.drop_length] at j2
  have j2 : diffK x r 0 = none := by rw [j2]; cases r.drop x.length <;> rfl
  rw [j2] at hag
  simp only at hag
  refine EvC.b ?_ (hok := by exact inI64_of (by omega) (by omega))
  exact ⟨[(0, 0)], k + 1, rfl, (by rw [hkZ]; simp only [go_sem, Mach.cells, Int.natCast_add, Int.natCast_one] <;> rfl), ⟨hkl, by rw [h3, hag]⟩, by omega⟩
 have hjl : j < x.length := by simpa using hc
 clear hc
 have hjx : x[j]? = some x[j] := List.getElem?_eq_getElem hjl
 have hjr : r[j]? = some (r[j]'(by omega)) := List.getElem?_eq_getElem (by omega)
 generalize x[j] = a at hjx
 generalize r[j]'(by omega) = b at hjr
 have hdk := diffK_drop hjx hjr
 obtain ⟨jZ, hjZ⟩ : ∃ z : Int, z = (j : Int) := ⟨_, rfl⟩
 have hjt : jZ.toNat = j := by omega
 rw [← hjZ]
 refine EvC.skip ?_
 refine EvC.seq ?_
 refine EvC.block ?_
 refine EvC.a ?_ (by simp only [go_sem, hjx, intC, hjt, List.length_map] <;> rfl) (by simp; try omega)
 refine EvC.a ?_ (by simp only [go_sem, hjr, intC, hjt, List.length_map] <;> rfl) (by simp; try omega)
 by_cases hab : a = b
 ·rw [if_neg (fun h => h hab)] at hdk
  refine EvC.cs ?_ (by simp only [go_sem, decide_eq_true hab] <;> rfl)
  refine EvC.b ?_ (hok := by exact inI64_of (by omega) (by omega))
  exact ⟨[(0, 0)], j + 1, rfl, (by rw [hjZ]; simp only [go_sem, Mach.cells, Int.natCast_add, Int.natCast_one] <;> rfl), ⟨hjl, by rw [j2, hdk]⟩, by omega⟩
 ·rw [if_pos hab] at hdk
  rw [j2, hdk] at hag
  simp only at hag
  refine EvC.ct ?_ (by simp only [go_sem, decide_eq_false hab] <;> rfl)
  refine EvC.a ?_
  refine EvC.rz ?_
  simp only [go_sem]
  rw [h3, hag, hkZ, hjZ]; rfl
end Go.Avl
namespace Go.Avl
open Go Go.Proofs.Tryd
set_option maxRecDepth 10000
set_option linter.unusedSimpArgs false
def fltT {α : Type} (p : α → Bool) (L : List α) (k : Nat) : List α := (L.take k).filter p
theorem fltT_yes {α : Type} {p : α → Bool} {L : List α} {k : Nat} {x : α} (h : L[k]? = some x) (hp : p x = true) : fltT p L k ++ [x] = fltT p L (k + 1) := by
 obtain ⟨hi, he⟩ := List.getElem?_eq_some_iff.1 h
 unfold fltT
 rw [List.take_succ_eq_append_getElem hi, he, List.filter_append]; simp [hp]
theorem fltT_no {α : Type} {p : α → Bool} {L : List α} {k : Nat} {x : α} (h : L[k]? = some x) (hp : p x = false) : fltT p L k = fltT p L (k + 1) := by
 obtain ⟨hi, he⟩ := List.getElem?_eq_some_iff.1 h
 unfold fltT
 rw [List.take_succ_eq_append_getElem hi, he, List.filter_append]; simp [hp]
theorem fltT_all {α : Type} (p : α → Bool) (L : List α) : fltT p L L.length = L.filter p := by rw [fltT, List.take_length]
theorem fltT_len {α : Type} (p : α → Bool) (L : List α) (k : Nat) : (fltT p L k).length ≤ L.length := by
 have h1 := List.length_filter_le p (L.take k)
 have h2 : (L.take k).length ≤ L.length := by simp; omega
 unfold fltT; omega
def agErr (m : Mach) (i o : Int) (L : List TR) : Int := if checkM m ≠ 0 then checkM m else if checkL i o L ≠ 0 then checkL i o L else if m.ins ≠ i then 5 else 0
theorem agA_ok {m : Mach} {i o : Int} {L : List TR} (h : agErr m i o L = 0) : checkM m = 0 ∧ checkL i o L = 0 ∧ m.ins = i := by
 unfold agErr at h
 split at h
 ·rename_i h1; exact absurd h h1
 ·rename_i h1
  split at h
  ·rename_i h2; exact absurd h h2
  ·rename_i h2
   split at h
   ·cases h
   ·rename_i h3; exact ⟨by simpa using h1, by simpa using h2, by simpa using h3⟩
theorem agA_err (m : Mach) (i o : Int) (L : List TR) : agA m i o L = .tu [.ag [.sc (.int .i64 (if agErr m i o L = 0 then (agst m L 0).1 else 0)), .sc (.int .i64 (if agErr m i o L = 0 then (agst m L 0).2.1 else 0))], .sc (.bool (decide (agErr m i o L = 0) && !(agst m L 0).2.2)), .sc (.int .i64 (agErr m i o L))] := by
 unfold agA agErr
 by_cases h1 : checkM m = 0
 ·by_cases h2 : checkL i o L = 0
  ·by_cases h3 : m.ins = i <;> simp [h1, h2, h3]
  ·simp [h1, h2]
 ·simp [h1]
def fitB2 (m : Mach) (L : List TR) (f : FA) : Bool := !(agst (mutF m f) L 0).2.2
def suspA (m : Mach) (ks : List Int) (i o : Int) (L : List TR) (most : Int) : AV :=
 if agErr m i o L ≠ 0 then .tu [.sl true [] .unk, .sc (.bool false), .sc (.int .i64 (agErr m i o L))]
 else if allR m ks most ≠ 0 then .tu [.sl true [] .unk, .sc (.bool false), .sc (.int .i64 (allR m ks most))]
 else .tu [.sl ((alF m ks).filter (fitB2 m L)).isEmpty (((alF m ks).filter (fitB2 m L)).map FA.cells) .full, .sc (.bool (!(agst m L 0).2.2)), .sc (.int .i64 0)]
theorem fas_norefs (l : List FA) : (l.map FA.cells).all AV.norefs = true := by simp [List.all_eq_true, FA.cells, AV.norefs, AV.noref]
theorem allR_ready {m : Mach} {ks : List Int} {most : Int} (h : allR m ks most = 0) : readyR m ks most = 0 := by
 unfold allR at h
 split at h
 ·rename_i h1; exact absurd h h1
 ·rename_i h1; simpa using h1
set_option maxHeartbeats 4000000 in
theorem suspects_is (m : Mach) (hm : ∀ r ∈ m.rows, r.2.length < 1000000) (hnn : NoNil m) (kn : Bool) (ks : List Int) (kc : Cp) (hks : ks.length < 1000) (i o : Int) (L : List TR) (hL : LogSm L) (most : Int) :
  PureIs prog 11 [.ag m.cells, .sl kn (ks.map intC) kc, .ag (logC i o L), .sc (.int .i64 most)] (suspA m ks i o L most) := by
 have q0 := against37_is m hm i o L hL
 rw [agA_err] at q0
 unfold logC at q0
 unfold suspA
 refine PureIs.of1 5 [6, 8, 9, 10, 12, 13, 14, 15, 17, 18, 19, 21, 31, 41, 43, 44, 45, 46, 56, 65] func11 ntmps11 results11 fun _ => ?_
 refine EvC.a ?_ (by simp only [go_sem, Mach.cells, logC] <;> rfl)
 refine EvC.z 0 ?_
 refine EvC.z 1 ?_
 apply EvC.s1
 ·apply Tr.run
  ·simp only [go_sem, Mach.cells] <;> rfl
  ·simp
  apply Tr.cons
  ·exact .ca (q0)
  apply Tr.done
  ·simp only [go_sem] <;> rfl
  ·simp
 refine EvC.seq ?_
 refine EvC.a ?_
 by_cases h0 : agErr m i o L = 0
 rotate_left
 ·rw [if_pos h0]
  refine EvC.ct ?_ (by simp only [go_sem, decide_eq_false h0] <;> rfl)
  refine EvC.a ?_
  refine EvC.rz ?_
  simp only [go_sem]
 rw [if_neg (show ¬ agErr m i o L ≠ 0 from fun h => h h0)]
 refine EvC.cs ?_ (by simp only [go_sem, decide_eq_true h0] <;> rfl)
 have q1 := allF_is m hm kn ks kc hks most
 unfold allA at q1
 by_cases h1 : allR m ks most = 0
 rotate_left
 ·rw [if_pos h1] at q1 ⊢
  apply EvC.s1
  ·apply Tr.run
   ·simp only [go_sem, Mach.cells] <;> rfl
   ·simp
   apply Tr.cons
   ·exact .ca (q1)
   apply Tr.done
   ·simp only [go_sem] <;> rfl
   ·simp
  refine EvC.seq ?_
  refine EvC.a ?_
  refine EvC.ct ?_ (by simp only [go_sem, decide_eq_false h1] <;> rfl)
  refine EvC.a ?_
  refine EvC.rz ?_
  simp only [go_sem]
 rw [if_neg (show ¬ allR m ks most ≠ 0 from fun h => h h1)] at q1 ⊢
 obtain ⟨c1, c2, c3⟩ := agA_ok h0
 have hv := Valid.of c1
 have hok := alF_ok (allR_ready h1)
 have hal := alF_len hv ks
 have hna := fas_norefs (alF m ks)
 have hla : ((alF m ks).map FA.cells).length = (alF m ks).length := List.length_map _
 have hal2 : (alF m ks).length < 300000000 := by
  have : ks.length * 262144 ≤ 1000 * 262144 := Nat.mul_le_mul_right _ (by omega)
  omega
 generalize alF m ks = A at q1 hok hal2 hna hla ⊢
 apply EvC.s1
 ·apply Tr.run
  ·simp only [go_sem, Mach.cells] <;> rfl
  ·simp
  apply Tr.cons
  ·exact .call rfl rfl (by simp only [go_sem] <;> rfl) (by simp only [go_sem] <;> rfl) (by simp only [go_sem] <;> rfl) (by simp only [go_sem, hna] <;> rfl) (by simp only [go_sem] <;> rfl) (q1)
  apply Tr.done
  ·simp only [go_sem, Mach.cells] <;> rfl
  ·simp
 refine EvC.seq ?_
 refine EvC.a ?_
 refine EvC.cs ?_
 refine EvC.a ?_
 refine EvC.seq ?_
 refine EvC.a ?_ (by simp only [go_sem, hla] <;> rfl)
 refine EvC.block ?_
 have hinn : (decide (agErr m i o L = 0) && !(agst m L 0).2.2) = !(agst m L 0).2.2 := by rw [decide_eq_true h0, Bool.true_and]
 rw [hinn]
 generalize (agst m L 0).2.2 = inn
 have hfl := fltT_len (fitB2 m L) A
 refine EvC.loopS (σ := Nat) (fun k => ⟨[(4, .ia m.cells), (6, .ia (logC i o L)), (12, .sc (.bool !inn)), (15, .tl 0 (fltT (fitB2 m L) A k).length (fltT (fitB2 m L) A k).isEmpty), (43, .sl A.isEmpty (A.map FA.cells) .full), (44, .sc (.int .i64 A.length)), (45, .sc (.int .i64 k))], [], [(0, .arr 6 ((fltT (fitB2 m L) A k).map FA.cells) true)], 1⟩) (fun k => A.length - k) (fun k => k ≤ A.length) [4, 6, 12, 15, 43, 44, 45] 1 ?_ ?_
 ·exact ⟨[(29, 0)], 0, rfl, (by simp only [go_sem, Mach.cells, logC, Int.natCast_zero, fltT, List.take_zero, List.filter_nil, List.map_nil, List.length_nil, List.isEmpty_nil] <;> rfl), Nat.zero_le _⟩
 intro k hk
 refine EvC.a ?_
 refine EvC.seq ?_
 refine EvC.cond (by simp only [go_sem] <;> rfl) (fun hc => ?_) (fun hc => ?_)
 rotate_left
 ·refine EvC.exit ?_
  obtain rfl : k = A.length := by have : ¬ k < A.length := (by simpa using hc); omega
  rw [fltT_all]
  have hn2 := fas_norefs (A.filter (fitB2 m L))
  have hl2 : ((A.filter (fitB2 m L)).map FA.cells).length = (A.filter (fitB2 m L)).length := List.length_map _
  have h6 := fa_six (A.filter (fitB2 m L))
  generalize A.filter (fitB2 m L) = S at hn2 hl2 h6 ⊢
  refine EvC.frz 0 (by simp only [go_sem, hn2, hl2] <;> rfl) ?_
  apply EvC.s1
  ·apply Tr.run
   ·simp only [go_sem, hl2] <;> rfl
   ·simp
   apply Tr.cons
   ·exact .ca (clipF_is _ _ _ h6)
   apply Tr.done
   ·simp only [go_sem] <;> rfl
   ·simp
  refine EvC.rz ?_
  simp only [go_sem]
 have hkl : k < A.length := by simpa using hc
 clear hc
 have he : A[k]? = some A[k] := List.getElem?_eq_getElem hkl
 have hf0 := hok _ (List.getElem_mem hkl)
 generalize A[k] = f at he hf0
 have q2 := apply71_is hv c1 hnn f
 rw [applyR, if_pos hf0] at q2
 have hmv := mutF_valid hv hf0
 obtain ⟨M, hM⟩ : ∃ M, M = mutF m f := ⟨_, rfl⟩
 have hMi : M.ins = m.ins := by rw [hM]; rfl
 rw [← hM] at q2 hmv
 have q3 := against37_is M hmv.small i o L hL
 unfold agA at q3
 rw [if_neg (show ¬ checkM M ≠ 0 from fun h => h (checkM_of hmv)), if_neg (show ¬ checkL i o L ≠ 0 from fun h => h c2), if_neg (show ¬ M.ins ≠ i from fun h => h (by rw [hMi, c3]))] at q3
 have hyes := fun h => fltT_yes (p := fitB2 m L) he h
 have hno := fun h => fltT_no (p := fitB2 m L) he h
 have hfb : fitB2 m L f = !(agst M L 0).2.2 := by rw [hM]; rfl
 have hfa := he
 obtain ⟨f1, f2, f3, f4, f5, f6⟩ := f
 have hfc : (A.map FA.cells)[k]? = some [.sc (.int .i64 f1), .sc (.int .i64 f2), .sc (.int .i64 f3), .sc (.int .i64 f4), .sc (.int .i64 f5), .sc (.int .i64 f6)] := by rw [List.getElem?_map, he]; rfl
 obtain ⟨kZ, hkZ⟩ : ∃ z : Int, z = (k : Int) := ⟨_, rfl⟩
 have hkt : kZ.toNat = k := by omega
 rw [← hkZ]
 refine EvC.skip ?_
 refine EvC.seq ?_
 refine EvC.block ?_
 refine EvC.a ?_ (by simp only [go_sem, hfc, hkt, hla] <;> rfl) (by simp; try omega)
 have hMn := norefs_mcells M
 apply EvC.s1
 ·apply Tr.run
  ·simp only [go_sem, Mach.cells, FA.cells] <;> rfl
  ·simp
  apply Tr.cons
  ·exact .ca (q2)
  apply Tr.done
  ·simp only [go_sem, Mach.cells] <;> rfl
  ·simp
 refine EvC.z 12 ?_
 refine EvC.seq ?_
 refine EvC.a ?_
 refine EvC.cs ?_
 unfold logC at q3
 apply EvC.s1
 ·apply Tr.run
  ·simp only [go_sem, Mach.cells, logC] <;> rfl
  ·simp
  apply Tr.cons
  ·exact .ca (q3)
  apply Tr.done
  ·simp only [go_sem] <;> rfl
  ·simp
 refine EvC.a ?_
 obtain ⟨T, hT⟩ : ∃ T, T = fltT (fitB2 m L) A (k + 1) := ⟨_, rfl⟩
 have hfl1 := hfl (k + 1)
 rw [← hT] at hyes hno hfl1
 obtain ⟨b, hb⟩ : ∃ b, (agst M L 0).2.2 = b := ⟨_, rfl⟩
 rw [hb] at hfb ⊢
 cases b
 ·have hy := hyes hfb
  generalize fltT (fitB2 m L) A k = T0 at hy ⊢
  have hl1 : (T0.map FA.cells).length = T0.length := List.length_map _
  have hsn : T0.map FA.cells ++ [[.sc (.int .i64 f1), .sc (.int .i64 f2), .sc (.int .i64 f3), .sc (.int .i64 f4), .sc (.int .i64 f5), .sc (.int .i64 f6)]] = T.map FA.cells := by rw [← hy]; simp [FA.cells]
  have hTl : T.length = T0.length + 1 := by rw [← hy]; simp
  have hTe : T.isEmpty = false := by rw [← hy]; simp
  have hTm : (T.map FA.cells).length = T.length := List.length_map _
  have hTn := fas_norefs T
  have hr : room (T0.length + 1) 48 = true := by simp only [room_eq, decide_eq_true_eq]; omega
  refine EvC.ct ?_
  refine EvC.b ?_ (by simp only [go_sem, hl1, hsn] <;> rfl) (by simp [hr])
  refine EvC.b ?_ (hok := by exact inI64_of (by omega) (by omega))
  exact ⟨[(0, 0)], k + 1, rfl, (by rw [hkZ, ← hT]; simp only [go_sem, hTm, hTe, hTn, Mach.cells, logC, Int.natCast_add, Int.natCast_one] <;> rfl), hkl, by omega⟩
 ·have hy := hno hfb
  rw [hy]
  refine EvC.cs ?_
  refine EvC.b ?_ (hok := by exact inI64_of (by omega) (by omega))
  exact ⟨[(0, 0)], k + 1, rfl, (by rw [hkZ, ← hT]; simp only [go_sem, Mach.cells, logC, Int.natCast_add, Int.natCast_one] <;> rfl), hkl, by omega⟩
end Go.Avl
namespace Go.Avl
open Go Go.Proofs.Tryd
set_option maxRecDepth 10000
set_option linter.unusedSimpArgs false
theorem allF_mem {m : Mach} {ks : List Int} {f : FA} (h : f ∈ allF m ks) : faultB m f = true := faK_mem h
set_option maxHeartbeats 4000000 in
theorem refsusp_is (m : Mach) (hv : Valid m) (kn : Bool) (ks : List Int) (kc : Cp) (hks : ks.length ≤ 1000) (hok : ∀ f ∈ allF m ks, checkF m f = 0) (i o : Int) (L : List TR) (hT : ∀ t ∈ L, TrOk t) (hw : ∀ t ∈ L, ∀ a ∈ t.w, 0 ≤ a ∧ a < m.ins) (hl : L.length < 1000000) :
  PureIs prog 12 [.ag m.cells, .sl kn (ks.map intC) kc, .ag (logC i o L)] (.tu [.sl ((allF m ks).filter (fitB2 m L)).isEmpty (((allF m ks).filter (fitB2 m L)).map FA.cells) .unk, .sc (.bool (!(agst m L 0).2.2))]) := by
 have q1 := all48_is hv kn ks kc hks
 have hna := fas_norefs (allF m ks)
 have hla : ((allF m ks).map FA.cells).length = (allF m ks).length := List.length_map _
 have hal2 : (allF m ks).length < 20000000000 := by
  have h1 := faK_len hv ks ks.length
  have : ks.length * 16777216 ≤ 1000 * 16777216 := Nat.mul_le_mul_right _ (by omega)
  unfold allF; omega
 have hfa : ∀ f ∈ allF m ks, faultB m f = true := fun f h => allF_mem h
 generalize allF m ks = A at q1 hok hal2 hna hla hfa ⊢
 have q0 := against29_is hv i o L.isEmpty L .unk hT hw hl
 refine PureIs.of1 4 [5, 6, 7, 8, 9, 10, 12, 14, 21, 36] func12 ntmps12 results12 fun _ => ?_
 refine EvC.a ?_ (by simp only [go_sem, Mach.cells, logC] <;> rfl)
 refine EvC.z 0 ?_
 refine EvC.z 1 ?_
 apply EvC.s1
 ·apply Tr.run
  ·simp only [go_sem, Mach.cells] <;> rfl
  ·simp
  apply Tr.cons
  ·exact .call rfl rfl (by simp only [go_sem] <;> rfl) (by simp only [go_sem] <;> rfl) (by simp only [go_sem] <;> rfl) (by simp only [go_sem, hna] <;> rfl) (by simp only [go_sem] <;> rfl) (q1)
  apply Tr.done
  ·simp only [go_sem, Mach.cells] <;> rfl
  ·simp
 refine EvC.a ?_
 refine EvC.seq ?_
 refine EvC.a ?_
 refine EvC.block ?_
 have hfl := fltT_len (fitB2 m L) A
 refine EvC.loopS (σ := Nat) (fun k => ⟨[(3, .ia m.cells), (5, .ia (logC i o L)), (8, .sl A.isEmpty (A.map FA.cells) .unk), (9, .tl 0 (fltT (fitB2 m L) A k).length (fltT (fitB2 m L) A k).isEmpty), (10, .sc (.int .i64 k))], [], [(0, .arr 6 ((fltT (fitB2 m L) A k).map FA.cells) true)], 1⟩) (fun k => A.length - k) (fun k => k ≤ A.length) [3, 5, 8, 9, 10] 1 ?_ ?_
 ·exact ⟨[(8, 0)], 0, rfl, (by simp only [go_sem, Mach.cells, logC, Int.natCast_zero, fltT, List.take_zero, List.filter_nil, List.map_nil, List.length_nil, List.isEmpty_nil] <;> rfl), Nat.zero_le _⟩
 intro k hk
 refine EvC.seq ?_
 refine EvC.a ?_ (by simp only [go_sem, hla] <;> rfl)
 refine EvC.cond (by simp only [go_sem] <;> rfl) (fun hc => ?_) (fun hc => ?_)
 rotate_left
 ·refine EvC.exit ?_
  obtain rfl : k = A.length := by have : ¬ k < A.length := (by simpa using hc); omega
  rw [fltT_all]
  have hn2 := fas_norefs (A.filter (fitB2 m L))
  have hl2 : ((A.filter (fitB2 m L)).map FA.cells).length = (A.filter (fitB2 m L)).length := List.length_map _
  generalize A.filter (fitB2 m L) = S at hn2 hl2 ⊢
  refine EvC.frz 0 (by simp only [go_sem, hn2, hl2] <;> rfl) ?_
  apply EvC.s1
  ·apply Tr.run
   ·simp only [go_sem, logC, Mach.cells] <;> rfl
   ·simp
   apply Tr.cons
   ·exact .ca (q0)
   apply Tr.done
   ·simp only [go_sem] <;> rfl
   ·simp
  refine EvC.a ?_
  refine EvC.rz ?_
  simp only [go_sem]
 have hkl : k < A.length := by simpa using hc
 clear hc
 have he : A[k]? = some A[k] := List.getElem?_eq_getElem hkl
 have hf0 := hok _ (List.getElem_mem hkl)
 have hfb0 := hfa _ (List.getElem_mem hkl)
 generalize A[k] = f at he hf0 hfb0
 have q2 := apply55_is hv f hfb0
 have hmv := mutF_valid hv hf0
 obtain ⟨M, hM⟩ : ∃ M, M = mutF m f := ⟨_, rfl⟩
 have hMi : M.ins = m.ins := by rw [hM]; rfl
 rw [← hM] at q2 hmv
 have q3 := against29_is hmv i o L.isEmpty L .unk hT (fun t ht a ha => by rw [hMi]; exact hw t ht a ha) hl
 have hyes := fun h => fltT_yes (p := fitB2 m L) he h
 have hno := fun h => fltT_no (p := fitB2 m L) he h
 have hfb : fitB2 m L f = !(agst M L 0).2.2 := by rw [hM]; rfl
 obtain ⟨f1, f2, f3, f4, f5, f6⟩ := f
 have hfc : (A.map FA.cells)[k]? = some [.sc (.int .i64 f1), .sc (.int .i64 f2), .sc (.int .i64 f3), .sc (.int .i64 f4), .sc (.int .i64 f5), .sc (.int .i64 f6)] := by rw [List.getElem?_map, he]; rfl
 obtain ⟨kZ, hkZ⟩ : ∃ z : Int, z = (k : Int) := ⟨_, rfl⟩
 have hkt : kZ.toNat = k := by omega
 rw [← hkZ]
 refine EvC.skip ?_
 refine EvC.seq ?_
 refine EvC.block ?_
 have hMn := norefs_mcells M
 apply EvC.seq
 apply EvC.drw mixed
 ·apply Tr.run
  ·simp only [go_sem, hfc, hkt, hla, Mach.cells, FA.cells, logC] <;> rfl
  ·simp; try omega
  apply Tr.cons
  ·exact .call rfl rfl (by simp only [go_sem] <;> rfl) (by simp only [go_sem] <;> rfl) (by simp only [go_sem] <;> rfl) (by simp only [go_sem, hMn] <;> rfl) (by simp only [go_sem] <;> rfl) (q2)
  apply Tr.run
  ·simp only [go_sem, hfc, hkt, hla, Mach.cells, FA.cells, logC] <;> rfl
  ·simp; try omega
  apply Tr.cons
  ·exact .call rfl rfl (by simp only [go_sem] <;> rfl) (by simp only [go_sem] <;> rfl) (by simp only [go_sem] <;> rfl) (by simp only [go_sem, hMn] <;> rfl) (by simp only [go_sem] <;> rfl) (q3)
  apply Tr.done
  ·simp only [go_sem, Mach.cells, logC] <;> rfl
  ·simp
 ·kernel_rfl
 refine EvC.a ?_
 obtain ⟨T, hT⟩ : ∃ T, T = fltT (fitB2 m L) A (k + 1) := ⟨_, rfl⟩
 have hfl1 := hfl (k + 1)
 rw [← hT] at hyes hno hfl1
 obtain ⟨b, hb⟩ : ∃ b, (agst M L 0).2.2 = b := ⟨_, rfl⟩
 rw [hb] at hfb ⊢
 cases b
 ·have hy := hyes hfb
  generalize fltT (fitB2 m L) A k = T0 at hy ⊢
  have hl1 : (T0.map FA.cells).length = T0.length := List.length_map _
  have hsn : T0.map FA.cells ++ [[.sc (.int .i64 f1), .sc (.int .i64 f2), .sc (.int .i64 f3), .sc (.int .i64 f4), .sc (.int .i64 f5), .sc (.int .i64 f6)]] = T.map FA.cells := by rw [← hy]; simp [FA.cells]
  have hTl : T.length = T0.length + 1 := by rw [← hy]; simp
  have hTe : T.isEmpty = false := by rw [← hy]; simp
  have hTm : (T.map FA.cells).length = T.length := List.length_map _
  have hTn := fas_norefs T
  have hr : room (T0.length + 1) 48 = true := by simp only [room_eq, decide_eq_true_eq]; omega
  refine EvC.ct ?_
  refine EvC.b ?_ (by simp only [go_sem, hfc, hkt, hla, hl1, hsn] <;> rfl) (by simp [hr]; try omega)
  refine EvC.b ?_ (hok := by exact inI64_of (by omega) (by omega))
  exact ⟨[(0, 0)], k + 1, rfl, (by rw [hkZ, ← hT]; simp only [go_sem, hTm, hTe, hTn, Mach.cells, logC, Int.natCast_add, Int.natCast_one] <;> rfl), hkl, by omega⟩
 ·have hy := hno hfb
  rw [hy]
  refine EvC.cs ?_
  refine EvC.b ?_ (hok := by exact inI64_of (by omega) (by omega))
  exact ⟨[(0, 0)], k + 1, rfl, (by rw [hkZ, ← hT]; simp only [go_sem, Mach.cells, logC, Int.natCast_add, Int.natCast_one] <;> rfl), hkl, by omega⟩
end Go.Avl
namespace Go.Avl
open Go Go.Proofs.Tryd
set_option maxRecDepth 10000
set_option linter.unusedSimpArgs false
end Go.Avl
namespace Go.Avl
open Go Go.Proofs.Tryd
set_option maxRecDepth 10000
set_option linter.unusedSimpArgs false
def kN {κ : Type} (_ : κ) : List AV := []
end Go.Avl
namespace Go.Avl
open Go Go.Proofs.Tryd
set_option maxRecDepth 10000
set_option linter.unusedSimpArgs false
section
variable {κ : Type} {e : Nat} {o1 : RObj} {ps : List (κ × List Int)} {M : Mem}
end
end Go.Avl
namespace Go.Avl
open Go Go.Proofs.Tryd
set_option maxRecDepth 10000
set_option linter.unusedSimpArgs false
end Go.Avl
namespace Go.Avl
open Go Go.Proofs.Tryd
set_option maxRecDepth 10000
set_option linter.unusedSimpArgs false
end Go.Avl
namespace Go.Avl
open Go Go.Proofs.Tryd
set_option maxRecDepth 10000
set_option linter.unusedSimpArgs false
end Go.Avl
namespace Go.Avl
open Go Go.Proofs.Tryd
set_option maxRecDepth 10000
set_option linter.unusedSimpArgs false
end Go.Avl
namespace Go.Avl
open Go Go.Proofs.Tryd
set_option maxRecDepth 100000
set_option linter.unusedSimpArgs false
theorem tog_noNil : NoNil togM := fun r hr h => by
 simp only [togM, List.mem_cons, List.not_mem_nil, or_false] at hr
 rcases hr with rfl | rfl <;> cases h
def exL : List FA := [⟨0, 0, 0, 0, 0, 1⟩, ⟨0, 0, 1, 0, 0, 1⟩, ⟨0, 1, 0, 0, 0, 0⟩, ⟨0, 1, 1, 0, 0, 1⟩]
theorem ex_susp1 : suspA togM [0] 2 2 [⟨[0, 0], [0, 0]⟩] 4 = .tu [.sl false ([⟨0, 1, 0, 0, 0, 0⟩].map FA.cells) .full, .sc (.bool false), .sc (.int .i64 0)] := by kernel_rfl
theorem ex_susp2 : suspA togM [0] 2 2 [⟨[0], [0]⟩] 4 = .tu [.sl false ((exL.drop 1).map FA.cells) .full, .sc (.bool true), .sc (.int .i64 0)] := by kernel_rfl
theorem ex_next : nextA togM exL 2 = .tu [.sl false ([0, 0].map intC) .full, .sc (.int .i64 2), .sc (.int .i64 0)] := by kernel_rfl
def liT : List Nd := [⟨[0, 1, 2, 3], [0], [([1], 1), ([0], 2)]⟩, ⟨[0], [], []⟩, ⟨[1, 2, 3], [1], [([1], 3), ([0], 4)]⟩, ⟨[1], [], []⟩, ⟨[2, 3], [0, 0], [([0, 0], 5), ([0, 1], 6)]⟩, ⟨[2], [], []⟩, ⟨[3], [], []⟩]
theorem ex_diag : diagL (exL.map (mutF togM)) 4 = liT := by kernel_rfl
theorem ex_diagA : diagA togM exL = .tu [.sl false (liT.map ndC) .full, .sc (.int .i64 0)] := by
 have h1 : mutErr togM exL = 0 := by kernel_rfl
 rw [diagA, if_neg (by simp [h1]), if_neg (by simp [exL]), show exL.length = 4 from rfl, ex_diag]
theorem ex_cls : clsA togM [⟨1, 1, 1, 1, 0, 0⟩] = .tu [.sl true [] .unk, .sc (.int .i64 1)] := by kernel_rfl
end Go.Avl
namespace Go.Avl
open Go Go.Proofs.Tryd
set_option maxRecDepth 10000
set_option linter.unusedSimpArgs false
abbrev fA (a b c d e f : Int) : List AV := [.sc (.int .i64 a), .sc (.int .i64 b), .sc (.int .i64 c), .sc (.int .i64 d), .sc (.int .i64 e), .sc (.int .i64 f)]
def togRs : List (List AV) := togM.rows.map rowC
abbrev togC : List AV := [.sc (.int .i64 2), .sc (.int .i64 2), .sl false togRs .unk]
@[go_sem] theorem togRs_norefs : togRs.all AV.norefs = true := by decide
theorem ex_tog_is : PureIs prog 32 [] (.ag togC) := toggle_is
abbrev iA (a : Int) : List AV := [.sc (.int .i64 a)]
abbrev exA : AV := .sl false [fA 0 0 0 0 0 1, fA 0 0 1 0 0 1, fA 0 1 0 0 0 0, fA 0 1 1 0 0 1] .full
theorem ex_one1_is : PureIs prog 41 [.sl false [iA 0, iA 0] .full, .sl false [iA 0, iA 0] .full] (.ag [.sc (.int .i64 2), .sc (.int .i64 2), .sl false [[.sl false [iA 0, iA 0] .unk, .sl false [iA 0, iA 0] .unk]] .unk]) :=
 (one_is false [0, 0] .full false [0, 0] .full).weakR
theorem ex_one2_is : PureIs prog 41 [.sl false [iA 0] .full, .sl false [iA 0] .full] (.ag [.sc (.int .i64 2), .sc (.int .i64 2), .sl false [[.sl false [iA 0] .unk, .sl false [iA 0] .unk]] .unk]) :=
 (one_is false [0] .full false [0] .full).weakR
theorem tog_rows : ∀ r ∈ togM.rows, r.2.length < 1000000 := by decide
theorem ex_susp1_is : PureIs prog 11 [.ag togC, .sl false [iA 0] .full, .ag [.sc (.int .i64 2), .sc (.int .i64 2), .sl false [[.sl false [iA 0, iA 0] .unk, .sl false [iA 0, iA 0] .unk]] .unk], .sc (.int .i64 4)] (.tu [.sl false [fA 0 1 0 0 0 0] .full, .sc (.bool false), .sc (.int .i64 0)]) := by
 have q := suspects_is togM tog_rows tog_noNil false [0] .unk (by decide) 2 2 [⟨[0, 0], [0, 0]⟩] ⟨by decide, by decide, by decide⟩ 4
 rw [ex_susp1] at q
 exact .weak q
theorem ex_susp2_is : PureIs prog 11 [.ag togC, .sl false [iA 0] .full, .ag [.sc (.int .i64 2), .sc (.int .i64 2), .sl false [[.sl false [iA 0] .unk, .sl false [iA 0] .unk]] .unk], .sc (.int .i64 4)] (.tu [.sl false [fA 0 0 1 0 0 1, fA 0 1 0 0 0 0, fA 0 1 1 0 0 1] .full, .sc (.bool true), .sc (.int .i64 0)]) := by
 have q := suspects_is togM tog_rows tog_noNil false [0] .unk (by decide) 2 2 [⟨[0], [0]⟩] ⟨by decide, by decide, by decide⟩ 4
 rw [ex_susp2] at q
 exact .weak q
theorem ex_next_is : PureIs prog 19 [.ag togC, exA, .sc (.int .i64 2)] (.tu [.sl false [iA 0, iA 0] .full, .sc (.int .i64 2), .sc (.int .i64 0)]) := by
 have q := next_is togM tog_rows tog_noNil false exL .unk (by decide) 2
 rw [ex_next] at q
 exact .weak q
theorem ex_diag_is : PureIs prog 22 [.ag togC, exA] (.tu [.sl false (liT.map ndC) .full, .sc (.int .i64 0)]) := by
 have q := diagnose_is togM tog_rows tog_noNil false exL .unk (by decide)
 rw [ex_diagA] at q
 exact .weak q
theorem ex_cls_is : PureIs prog 16 [.ag togC, .sl false [fA 1 1 1 1 0 0] .full] (.tu [.sl true [] .unk, .sc (.int .i64 1)]) := by
 have q := classes_is togM tog_rows tog_noNil false [⟨1, 1, 1, 1, 0, 0⟩] .unk (by decide)
 rw [ex_cls] at q
 exact .weak q
theorem ex_walk : walkA (liT.map ndG) togM = .tu [.sl false ([3].map intC) .full, .sl false ([[0], [1], [0, 0]].map askC) .full, .sc (.int .i64 0)] := by kernel_rfl
theorem ex_walk_is : PureIs prog 24 [.sl false (liT.map ndC) .full, .ag togC] (.tu [.sl false [iA 3] .full, .sl false [[.sl false [iA 0] .full], [.sl false [iA 1] .full], [.sl false [iA 0, iA 0] .full]] .full, .sc (.int .i64 0)]) := by
 have q := walk_is false (liT.map ndG) .full togM tog_rows (by
  intro d hd
  obtain ⟨x, hx, rfl⟩ := List.mem_map.1 hd
  have h1 : ∀ x ∈ liT, x.sus.length < 1000000 ∧ x.word.length < 1000000 ∧ x.br.length < 1000000 ∧ ∀ b ∈ x.br, b.1.length < 1000000 := by decide
  obtain ⟨g1, g2, g3, g4⟩ := h1 x hx
  refine ⟨⟨g1, g2, by show (x.br.map _).length < 1000000; rw [List.length_map]; exact g3, fun b hb => ?_⟩, ⟨(fun h => by cases h), fun h => ?_⟩⟩
  ·obtain ⟨y, hy, rfl⟩ := List.mem_map.1 hb
   exact g4 y hy
  ·exact List.isEmpty_iff.1 h) (by decide)
 rw [ex_walk, List.map_map, show ngC ∘ ndG = ndC from funext ndG_cells] at q
 exact q
theorem ex_same_is (na nb : Bool) (ca cb : Cp) (a : List Int) (hl : a.length < 1000000) : PureIs prog 21 [.sl na (a.map intC) ca, .sl nb (a.map intC) cb] (.sc (.bool true)) := by
 have q := same_is na a ca nb a cb hl
 rwa [decide_eq_true rfl] at q
theorem ex_sameF1_is : PureIs prog 13 [.sl false [fA 0 1 0 0 0 0] .full, .sl false [fA 0 1 0 0 0 0] .unk] (.sc (.bool true)) := by
 have q := sameF_is false [⟨0, 1, 0, 0, 0, 0⟩] .full false [⟨0, 1, 0, 0, 0, 0⟩] .unk (by decide)
 rwa [decide_eq_true rfl] at q
theorem ex_sameF2_is : PureIs prog 13 [.sl false [fA 0 0 1 0 0 1, fA 0 1 0 0 0 0, fA 0 1 1 0 0 1] .full, .sl false [fA 0 0 1 0 0 1, fA 0 1 0 0 0 0, fA 0 1 1 0 0 1] .full] (.sc (.bool true)) := by
 have q := sameF_is false [⟨0, 0, 1, 0, 0, 1⟩, ⟨0, 1, 0, 0, 0, 0⟩, ⟨0, 1, 1, 0, 0, 1⟩] .full false [⟨0, 0, 1, 0, 0, 1⟩, ⟨0, 1, 0, 0, 0, 0⟩, ⟨0, 1, 1, 0, 0, 1⟩] .full (by decide)
 rwa [decide_eq_true rfl] at q
set_option maxHeartbeats 4000000 in
theorem lives_is : PureIs prog 14 [] (.sc (.bool true)) := by
 refine PureIs.of1 16 [104, 165] func14 ntmps14 results14 fun _ => ?_
 refine EvC.a ?_
 apply EvC.s1
 ·apply Tr.run
  ·simp only [go_sem] <;> rfl
  ·simp
  apply Tr.cons
  ·exact .ca (ex_tog_is)
  apply Tr.done
  ·simp only [go_sem] <;> rfl
  ·simp
 refine EvC.z 2 ?_
 refine EvC.a ?_
 apply EvC.seq
 apply EvC.drw mixed
 ·apply Tr.run
  ·simp only [go_sem] <;> rfl
  ·simp
  apply Tr.cons
  ·exact .ca (ex_one1_is)
  apply Tr.run
  ·simp only [go_sem] <;> rfl
  ·simp
  apply Tr.cons
  ·exact .ca (ex_susp1_is)
  apply Tr.done
  ·simp only [go_sem] <;> rfl
  ·simp
 ·kernel_rfl
 apply EvC.seq
 apply EvC.drw mixed
 ·apply Tr.run
  ·simp only [go_sem] <;> rfl
  ·simp
  apply Tr.cons
  ·exact .ca (ex_one2_is)
  apply Tr.run
  ·simp only [go_sem] <;> rfl
  ·simp
  apply Tr.cons
  ·exact .ca (ex_susp2_is)
  apply Tr.done
  ·simp only [go_sem] <;> rfl
  ·simp
 ·kernel_rfl
 apply EvC.s1
 ·apply Tr.run
  ·simp only [go_sem] <;> rfl
  ·simp
  apply Tr.cons
  ·exact .ca (ex_next_is)
  apply Tr.done
  ·simp only [go_sem] <;> rfl
  ·simp
 have qd := ex_diag_is
 have qw := ex_walk_is
 have hTl : (liT.map ndC).length = 7 := rfl
 have hTn : (liT.map ndC).all AV.norefs = true := by decide
 have t0 : (liT.map ndC)[0]? = some [.sl false [iA 0, iA 1, iA 2, iA 3] .full, .sl false [iA 0] .full, bAV [([1], 1), ([0], 2)]] := rfl
 have t1 : (liT.map ndC)[1]? = some [.sl false [iA 0] .full, .sl true [] .zer, bAV []] := rfl
 have t2 : (liT.map ndC)[2]? = some [.sl false [iA 1, iA 2, iA 3] .full, .sl false [iA 1] .full, bAV [([1], 3), ([0], 4)]] := rfl
 have t3 : (liT.map ndC)[3]? = some [.sl false [iA 1] .full, .sl true [] .zer, bAV []] := rfl
 have t4 : (liT.map ndC)[4]? = some [.sl false [iA 2, iA 3] .full, .sl false [iA 0, iA 0] .full, bAV [([0, 0], 5), ([0, 1], 6)]] := rfl
 have t5 : (liT.map ndC)[5]? = some [.sl false [iA 2] .full, .sl true [] .zer, bAV []] := rfl
 have t6 : (liT.map ndC)[6]? = some [.sl false [iA 3] .full, .sl true [] .zer, bAV []] := rfl
 generalize liT.map ndC = T at qd qw hTl hTn t0 t1 t2 t3 t4 t5 t6
 apply EvC.s1
 ·apply Tr.run
  ·simp only [go_sem] <;> rfl
  ·simp
  apply Tr.cons
  ·exact .ca (qd)
  apply Tr.done
  ·simp only [go_sem] <;> rfl
  ·simp
 refine EvC.seq ?_
 apply EvC.s1
 ·apply Tr.run
  ·simp only [go_sem, hTl] <;> rfl
  ·simp
  apply Tr.cons
  ·exact .cg (ex_sameF1_is)
  apply Tr.run
  ·simp only [go_sem, hTl] <;> rfl
  ·simp
  apply Tr.cons
  ·exact .cg (ex_sameF2_is)
  apply Tr.run
  ·simp only [go_sem, hTl] <;> rfl
  ·simp
  apply Tr.cons
  ·exact .cg (ex_same_is false false .full .full [0, 0] (by decide))
  apply Tr.done
  ·simp only [go_sem] <;> rfl
  ·simp
 refine EvC.cs ?_ (by simp only [go_sem, hTl] <;> rfl)
 refine EvC.seq ?_
 apply EvC.s1
 ·apply Tr.run
  ·simp only [go_sem, hTl, t0, t1, t2, t3, t4, t5, t6] <;> rfl
  ·simp [hTl]
  apply Tr.cons
  ·exact .ca (ex_same_is false false .full .full [0] (by decide))
  apply Tr.run
  ·simp only [go_sem, hTl, t0, t1, t2, t3, t4, t5, t6] <;> rfl
  ·simp [hTl]
  apply Tr.cons
  ·exact .cg (ex_same_is false false .full .full [1] (by decide))
  apply Tr.run
  ·simp only [go_sem, hTl, t0, t1, t2, t3, t4, t5, t6] <;> rfl
  ·simp [hTl]
  apply Tr.cons
  ·exact .cg (ex_same_is false false .full .full [0, 0] (by decide))
  apply Tr.run
  ·simp only [go_sem, hTl, t0, t1, t2, t3, t4, t5, t6] <;> rfl
  ·simp [hTl]
  apply Tr.cons
  ·exact .cg (ex_same_is false false .full .full [0] (by decide))
  apply Tr.run
  ·simp only [go_sem, hTl, t0, t1, t2, t3, t4, t5, t6] <;> rfl
  ·simp [hTl]
  apply Tr.cons
  ·exact .cg (ex_same_is false false .full .full [1] (by decide))
  apply Tr.run
  ·simp only [go_sem, hTl, t0, t1, t2, t3, t4, t5, t6] <;> rfl
  ·simp [hTl]
  apply Tr.cons
  ·exact .cg (ex_same_is false false .full .full [2] (by decide))
  apply Tr.run
  ·simp only [go_sem, hTl, t0, t1, t2, t3, t4, t5, t6] <;> rfl
  ·simp [hTl]
  apply Tr.cons
  ·exact .cg (ex_same_is false false .full .full [3] (by decide))
  apply Tr.done
  ·simp only [go_sem] <;> rfl
  ·simp
 refine EvC.cs ?_
 apply EvC.s1
 ·apply Tr.run
  ·simp only [go_sem] <;> rfl
  ·simp
  apply Tr.cons
  ·exact .ca (qw)
  apply Tr.done
  ·simp only [go_sem] <;> rfl
  ·simp
 apply EvC.s1
 ·apply Tr.run
  ·simp only [go_sem] <;> rfl
  ·simp
  apply Tr.cons
  ·exact .ca (ex_cls_is)
  apply Tr.done
  ·simp only [go_sem] <;> rfl
  ·simp
 have qs : PureIs prog 17 [.sl false [[.sl false [iA 0] .full], [.sl false [iA 1] .full], [.sl false [iA 0, iA 0] .full]] .full, .sl false [[.sl false [iA 0] .full], [.sl false [iA 1] .full], [.sl false [iA 0, iA 0] .full]] .full] (.sc (.bool true)) := by
  have q := same37_is false false [(false, [0], .full), (false, [1], .full), (false, [0, 0], .full)] [(false, [0], .full), (false, [1], .full), (false, [0, 0], .full)] .full .full (by decide) (by decide)
  rw [sameW_refl] at q
  exact q
 apply EvC.s1
 ·apply Tr.run
  ·simp only [go_sem] <;> rfl
  ·simp
  apply Tr.cons
  ·exact .cg (ex_same_is false false .full .full [3] (by decide))
  apply Tr.run
  ·simp only [go_sem] <;> rfl
  ·simp
  apply Tr.cons
  ·exact .cg (qs)
  apply Tr.done
  ·simp only [go_sem] <;> rfl
  ·simp
 refine EvC.rz ?_
 simp only [go_sem]
end Go.Avl
namespace Go.Avl
open Go Go.Proofs.Tryd
set_option maxRecDepth 10000
set_option linter.unusedSimpArgs false
theorem Valid.check {m : Mach} (h : Valid m) : checkM m = 0 := by
 have h1 := h.ins
 have h2 := h.outs
 have h3 := h.rows
 unfold checkM
 rw [if_neg (by omega), if_neg (by omega), if_pos]
 rw [List.all_eq_true]
 intro r hr
 obtain ⟨k1, k2⟩ := h.row r hr
 simp only [rowOk, Bool.and_eq_true, decide_eq_true_eq, Bool.not_eq_true', List.any_eq_false]
 exact ⟨k1, fun e he => by simpa using k2 e he⟩
theorem egS_len2 {m : Mach} {K : Nat} (h : m.ins.toNat ≤ K) : ∀ n, (egS m n).length ≤ n * K
 | 0 => by rw [Nat.zero_mul]; exact Nat.le_refl _
 | n + 1 => by
   have h1 := egS_len2 h n
   have h2 := egI_len m n m.ins.toNat
   rw [egS, List.length_append, Nat.add_one_mul]; omega
theorem alF_len2 {m : Mach} (hv : Valid m) (h : m.ins.toNat ≤ 3) (hr : m.rows.length ≤ 6) : ∀ ks : List Int, (alF m ks).length ≤ ks.length * 4608
 | [] => Nat.le_refl _
 | k :: ks => by
   have h1 := alF_len2 hv h hr ks
   have h2 := alE_len hv k (egL m)
   have h4 := egS_len2 h m.rows.length
   have h3 : alF m (k :: ks) = alE m k (egL m) ++ alF m ks := by simp [alF]
   have h5 : (egL m).length = (egS m m.rows.length).length := rfl
   rw [h3, List.length_append, List.length_cons]; omega
theorem kindR5 (x : Int) : kindR x 5 = (if bit8 x 0 then [0] else []) ++ (if bit8 x 1 then [1] else []) ++ (if bit8 x 2 then [2] else []) ++ (if bit8 x 3 then [3] else []) ++ (if bit8 x 4 then [4] else []) := by
 unfold kindR
 rw [show List.range 5 = [0, 1, 2, 3, 4] from rfl]
 cases h0 : bit8 x 0 <;> cases h1 : bit8 x 1 <;> cases h2 : bit8 x 2 <;> cases h3 : bit8 x 3 <;> cases h4 : bit8 x 4 <;> simp [List.filter, h0, h1, h2, h3, h4]
theorem kindR_last (x : Int) : ∃ l, kLast (kindR x 5) (-1) = some l := by
 rw [kindR5]
 cases bit8 x 0 <;> cases bit8 x 1 <;> cases bit8 x 2 <;> cases bit8 x 3 <;> cases bit8 x 4 <;> exact ⟨_, rfl⟩
theorem LM.small {x : LM} (h : x.Ok) : x.mach.rows.length ≤ 6 ∧ x.mach.ins ≤ 3 := by
 obtain ⟨b1, b2, b3, b4, b5, b6, -, -⟩ := LM.bounds h
 rw [show x.mach.rows.length = x.n by simp [LM.mach]]
 exact ⟨b2, by show (x.i : Int) ≤ 3; omega⟩
theorem LM.noNil (x : LM) : NoNil x.mach := fun r hr h => by
 simp only [LM.mach, List.mem_map] at hr
 obtain ⟨s, _, rfl⟩ := hr
 cases h
theorem stepR_neg {m : Mach} {s a : Int} (hs : s < 0) : stepR m s a = (-1, -1) := by rw [stepR, if_pos hs]
theorem fits_edge {n : Nat} {o : Int} {e : Int × Int} (h : fitsR n o e.1 e.2 = true) : (e.1 = -1 ∧ e.2 = -1) ∨ (0 ≤ e.1 ∧ e.1 < n ∧ 0 ≤ e.2 ∧ e.2 < o) := by
 simp only [fitsR, Bool.or_eq_true, Bool.and_eq_true, decide_eq_true_eq] at h
 rcases h with h | h
 ·exact .inl h
 ·exact .inr ⟨h.1.1.1, h.1.1.2, h.1.2, h.2⟩
theorem respOk_run {m : Mach} (hv : Valid m) : ∀ (w : List Int) (s : Int) (e : Bool), s < m.rows.length → (e = true → s < 0) → (∀ a ∈ w, 0 ≤ a ∧ a < m.ins) → respOk m.outs e (runR m s w) = true
 | [], _, e, _, _, _ => by cases e <;> rfl
 | a :: w, s, e, hs, he, hw => by
   have hx := hw a List.mem_cons_self
   have ho := hv.outs
   have key : (stepR m s a).2 ≥ -1 ∧ (stepR m s a).2 < m.outs ∧ ((stepR m s a).2 = -1 → (stepR m s a).1 < 0) ∧ (s < 0 → (stepR m s a).2 = -1) := by
    by_cases hn : s < 0
    ·rw [stepR_neg hn]
     exact ⟨by simp, by show (-1 : Int) < m.outs; omega, fun _ => by simp, fun _ => rfl⟩
    ·obtain ⟨r, x, k1, k2, k3, k4⟩ := stepR_get hv (by omega) hs hx
     have := fits_edge k4
     rw [k3]
     exact ⟨by omega, by omega, fun _ => by omega, fun h => absurd h hn⟩
   rw [runR, respOk, if_neg]
   ·exact respOk_run hv w _ _ (stepR_lt hv hs hx) (fun h => key.2.2.1 (by simpa using h)) fun z hz => hw z (List.mem_cons_of_mem _ hz)
   ·rintro (h | h | ⟨h1, h2⟩)
    ·omega
    ·omega
    ·exact h2 (key.2.2.2 (he h1))
theorem faultyM_outs (m : Mach) (A : List FA) (n : Int) (b : Bool) : (faultyM m A n b).outs = m.outs := by
 unfold faultyM
 split
 ·rfl
 ·split <;> rfl
theorem checkL_log {i o : Int} {L : List TR} (hi : 1 ≤ i ∧ i ≤ 16) (ho : 1 ≤ o ∧ o ≤ 16) (hl : L.length ≤ 8) (hw : ∀ t ∈ L, t.w.length ≤ 8) (ht : ∀ t ∈ L, trOk i o t = true) : checkL i o L = 0 := by
 have hs : ∀ L' : List TR, (∀ t ∈ L', t.w.length ≤ 8) → sumT L' ≤ 8 * L'.length := by
  intro L'
  induction L' with
  | nil => intro _; exact Nat.zero_le _
  | cons t L' ih =>
    intro h
    have h1 := h t List.mem_cons_self
    have h2 := ih fun u hu => h u (List.mem_cons_of_mem _ hu)
    simp only [sumT, List.map_cons, List.sum_cons, List.length_cons] at h2 ⊢
    omega
 have h1 := hs L hw
 unfold checkL
 have hwb : withinB i o L = true := by
  unfold withinB
  rw [decide_eq_true hi.2, decide_eq_true ho.2, decide_eq_true (show L.length ≤ 1024 by omega), decide_eq_true (show sumT L ≤ 65536 by omega), List.all_eq_true.2 fun t h => decide_eq_true (by have := hw t h; omega)]
  rfl
 rw [if_neg (by rw [hwb]; simp), if_neg (by omega), if_pos (List.all_eq_true.2 ht)]
structure LogGood (m : Mach) (L : List TR) : Prop where
 len : L.length ≤ 8
 w : ∀ t ∈ L, t.w.length ≤ 8
 a : ∀ t ∈ L, ∀ a ∈ t.w, 0 ≤ a ∧ a < m.ins
 r : ∀ t ∈ L, t.r.length = t.w.length
 c : checkL m.ins m.outs L = 0
theorem LX.good {g : LX} (hg : g.Ok) : LogGood g.x.mach g.log ∧ ((∃ f ∈ allF g.x.mach g.kl, ∀ t ∈ g.log, runR (mutF g.x.mach f) 0 t.w = t.r) ∨ ∀ t ∈ g.log, runR g.x.mach 0 t.w = t.r) := by
 have hv := LM.valid hg.x
 obtain ⟨h6, h3⟩ := LM.small hg.x
 have hA : ∀ f ∈ g.all, faultB g.x.mach f = true := fun f hf => faK_mem hf
 obtain ⟨fv, fi⟩ := faultyM_ok hv (by omega) hA g.fN g.none
 have fo := faultyM_outs g.x.mach g.all g.fN g.none
 have hF : g.fm = faultyM g.x.mach g.all g.fN g.none := rfl
 rw [← hF] at fv fi fo
 have hmem : ∀ t ∈ g.log, ∃ y ∈ g.ws, t = runY g.fm g.x.mach.ins y := fun t ht => by
  obtain ⟨y, hy, rfl⟩ := List.mem_map.1 ht
  exact ⟨y, List.mem_of_mem_take hy, rfl⟩
 have hw : ∀ t ∈ g.log, t.w.length ≤ 8 := fun t ht => by
  obtain ⟨y, hy, rfl⟩ := hmem t ht; exact wordOf_len _ _ _
 have ha : ∀ t ∈ g.log, ∀ a ∈ t.w, 0 ≤ a ∧ a < g.x.mach.ins := fun t ht => by
  obtain ⟨y, hy, rfl⟩ := hmem t ht; exact wordOf_in hv.ins.1
 have hr : ∀ t ∈ g.log, t.r = runR g.fm 0 t.w := fun t ht => by
  obtain ⟨y, hy, rfl⟩ := hmem t ht; rfl
 have hlen : g.log.length ≤ 8 := runsY_len _ _ _ _
 refine ⟨⟨hlen, hw, ha, fun t ht => by rw [hr t ht, runR_len], checkL_log hv.ins hv.outs hlen hw fun t ht => ?_⟩, ?_⟩
 ·have hb : badW g.x.mach.ins t.w = false := by
    unfold badW
    rw [List.any_eq_false]
    intro a h
    have := ha t ht a h
    rw [decide_eq_false (by omega), decide_eq_false (by omega)]; simp
  unfold trOk
  have := fv.rows
  rw [hb, decide_eq_true (by rw [hr t ht, runR_len]), hr t ht, ← fo, respOk_run fv t.w 0 false (by omega) (fun h => by cases h) (by rw [fi]; exact ha t ht)]; rfl
 ·unfold faultyM at hF
  split at hF
  ·exact .inr fun t ht => by rw [hr t ht, hF]
  ·rename_i f hf
   split at hF
   ·exact .inr fun t ht => by rw [hr t ht, hF]
   ·exact .inl ⟨f, List.mem_of_getElem? hf, fun t ht => by rw [hr t ht, hF]⟩
end Go.Avl
namespace Go.Avl
open Go Go.Proofs.Tryd
set_option maxRecDepth 10000
set_option linter.unusedSimpArgs false
theorem LX.kl_in (g : LX) : ∀ k ∈ g.kl, 0 ≤ k ∧ k ≤ 4 := by
 obtain ⟨l, hl⟩ := kindR_last g.kinds
 have := (kLast_in hl).2
 exact fun k hk => ⟨by have := (this k hk).1; omega, (this k hk).2.1⟩
theorem LX.susp {g : LX} (hg : g.Ok) : suspA g.x.mach g.kl g.x.mach.ins g.x.mach.outs g.log 65536 = .tu [.sl ((allF g.x.mach g.kl).filter (fitB2 g.x.mach g.log)).isEmpty (((allF g.x.mach g.kl).filter (fitB2 g.x.mach g.log)).map FA.cells) .full, .sc (.bool (!(agst g.x.mach g.log 0).2.2)), .sc (.int .i64 0)] := by
 have hv := LM.valid hg.x
 obtain ⟨h6, h3⟩ := LM.small hg.x
 obtain ⟨G, _⟩ := LX.good hg
 have e1 : agErr g.x.mach g.x.mach.ins g.x.mach.outs g.log = 0 := by
  unfold agErr; rw [if_neg (by rw [hv.check]; simp), if_neg (by rw [G.c]; simp), if_neg (by simp)]
 obtain ⟨l, hl⟩ := kindR_last g.kinds
 have hkl := kindR_len g.kinds 5
 have e2 : readyR g.x.mach g.kl 65536 = 0 := by
  unfold readyR LX.kl
  rw [if_neg (by rw [hv.check]; simp), hl]
  simp only
  rw [if_neg (by decide), if_neg (by omega)]
 have e3 : allR g.x.mach g.kl 65536 = 0 := by
  unfold allR
  have := alF_len2 hv (by omega) h6 g.kl
  have h5 : g.kl.length ≤ 5 := hkl
  rw [if_neg (by rw [e2]; simp), if_neg (by omega)]
 unfold suspA
 rw [if_neg (by rw [e1]; simp), if_neg (by rw [e3]; simp), ← allF_alF hv g.kl_in]
set_option maxHeartbeats 4000000 in
theorem culpritsSuspects_is {g : LX} (hg : g.Ok) : PureIs prog 3 [.ag g.cells] (.sc (.bool true)) := by
 have hv := LM.valid hg.x
 obtain ⟨h6, h3⟩ := LM.small hg.x
 obtain ⟨G, hgd⟩ := LX.good hg
 have hkl : g.kl.length ≤ 5 := kindR_len g.kinds 5
 have q0 := of10_is hg
 have q1 := suspects_is g.x.mach hv.small (LM.noNil g.x) g.kl.isEmpty g.kl .unk (by omega) g.x.mach.ins g.x.mach.outs g.log ⟨by have := G.len; omega, fun t h => by have := G.w t h; omega, fun t h => by have := G.w t h; have := G.r t h; omega⟩ 65536
 rw [LX.susp hg] at q1
 have q2 := refsusp_is g.x.mach hv g.kl.isEmpty g.kl .unk (by omega) (fun f hf => checkF_small (allF_mem hf) (by omega)) g.x.mach.ins g.x.mach.outs g.log (fun t h => ⟨G.r t h, by have := G.w t h; omega⟩) G.a (by have := G.len; omega)
 unfold logC at q1 q2
 have hfin : ((allF g.x.mach g.kl).filter (fitB2 g.x.mach g.log)).length = 0 → (!(agst g.x.mach g.log 0).2.2) = true := fun h0 => by
  rcases hgd with ⟨f, hf, h⟩ | h
  ·have : f ∈ (allF g.x.mach g.kl).filter (fitB2 g.x.mach g.log) := by
     rw [List.mem_filter]
     refine ⟨hf, ?_⟩
     unfold fitB2
     rw [(agst_iff G.r).2 h]; rfl
   rw [List.eq_nil_of_length_eq_zero h0] at this; cases this
  ·rw [(agst_iff G.r).2 h]; rfl
 have hlS : ((allF g.x.mach g.kl).filter (fitB2 g.x.mach g.log)).length < 1000000 := by
  have h1 := alF_len2 hv (by omega) h6 g.kl
  rw [← allF_alF hv g.kl_in] at h1
  have h2 := List.length_filter_le (fitB2 g.x.mach g.log) (allF g.x.mach g.kl)
  omega
 generalize (allF g.x.mach g.kl).filter (fitB2 g.x.mach g.log) = S at q1 q2 hfin hlS
 have q3 := sameF_is S.isEmpty S .full S.isEmpty S .unk hlS
 rw [decide_eq_true rfl] at q3
 generalize (!(agst g.x.mach g.log 0).2.2) = inn at q1 q2 hfin
 have q4 := lives_is
 have hcl : g.cells = [.sc (.int .u8 g.x.st), .sc (.int .u8 g.x.ins), .sc (.int .u8 g.x.outs), .sc (.bool g.x.part), .sl g.x.nl (g.x.es.map u16C) g.x.cap, .sc (.int .u8 g.kinds), .sc (.int .u16 g.fN), .sc (.bool g.none), .sl g.wn (g.ws.map wbR) g.wc] := rfl
 rw [hcl] at q0 ⊢
 generalize g.log = L at q0 q1 q2
 generalize g.kl = K at q0 q1 q2
 generalize g.x.mach = m at q0 q1 q2
 refine PureIs.of1 11 [] func3 ntmps3 results3 fun _ => ?_
 refine EvC.a ?_
 refine EvC.z 0 ?_
 apply EvC.s1
 ·apply Tr.run
  ·simp only [go_sem, Mach.cells] <;> rfl
  ·simp
  apply Tr.cons
  ·exact .ca (q0)
  apply Tr.done
  ·simp only [go_sem, Mach.cells] <;> rfl
  ·simp [Mach.cells]
 refine EvC.z 8 ?_
 refine EvC.z 9 ?_
 have hn := fas_norefs S
 have hl : (S.map FA.cells).length = S.length := List.length_map _
 rw [Mach.cells] at q1 q2
 generalize S.map FA.cells = T at q1 q2 q3 hn hl
 apply EvC.s1
 ·apply Tr.run
  ·simp only [go_sem] <;> rfl
  ·simp
  apply Tr.cons
  ·exact .ca (q1)
  apply Tr.done
  ·simp only [go_sem] <;> rfl
  ·simp [hn]
 apply EvC.s1
 ·apply Tr.run
  ·simp only [go_sem] <;> rfl
  ·simp
  apply Tr.cons
  ·exact .ca (q2)
  apply Tr.done
  ·simp only [go_sem] <;> rfl
  ·simp [hn]
 by_cases h0 : S.length = 0
 ·have hin := hfin h0
  subst hin
  apply EvC.s1
  ·apply Tr.run
   ·simp only [go_sem, hl, h0, Int.natCast_zero] <;> rfl
   ·simp
   apply Tr.cons
   ·exact .cg (q3)
   apply Tr.run
   ·simp only [go_sem, hl, h0, Int.natCast_zero] <;> rfl
   ·simp
   apply Tr.cons
   ·exact .cg (q4)
   apply Tr.done
   ·simp only [go_sem] <;> rfl
   ·simp
  refine EvC.rz ?_
  simp only [go_sem]
  rfl
 ·have hbb : (inn == inn) = true := by cases inn <;> rfl
  apply EvC.s1
  ·apply Tr.run
   ·simp only [go_sem, hl, hbb, decide_eq_true (show (0 : Int) < S.length by omega)] <;> rfl
   ·simp
   apply Tr.cons
   ·exact .callG rfl rfl (by simp only [go_sem] <;> rfl) rfl (by simp only [go_sem] <;> rfl) (by simp only [go_sem] <;> rfl) (by simp only [go_sem, hbb] <;> rfl) (by simp only [go_sem, hbb] <;> rfl) (by simp only [go_sem] <;> rfl) (q3)
   apply Tr.run
   ·simp only [go_sem, hl, hbb, decide_eq_true (show (0 : Int) < S.length by omega)] <;> rfl
   ·simp
   apply Tr.cons
   ·exact .callG rfl rfl (by simp only [go_sem] <;> rfl) rfl (by simp only [go_sem] <;> rfl) (by simp only [go_sem] <;> rfl) (by simp only [go_sem, hbb] <;> rfl) (by simp only [go_sem, hbb] <;> rfl) (by simp only [go_sem] <;> rfl) (q4)
   apply Tr.done
   ·simp only [go_sem] <;> rfl
   ·simp
  refine EvC.rz ?_
  simp only [go_sem]
end Go.Avl
namespace Go.Avl
open Go Go.ChangeShapes Go.RowKit
def Live (w : World) : Nat → Nat → Prop := fun b _ => b < w.heap.size
section
variable {H : Type} {enc : TypeId × Value → H} {P : Program} {w : World} {α β : Type}
def Fits (P : Program) (t : TypeId) (d : DataW H) : Prop := ∀ n ∈ d.weights P t, n ≤ reachBytes
theorem fits_all {P : Program} {e : TypeId} : ∀ {l : List (DataW H)}, (∀ n ∈ DataW.weightsAll P e l, n ≤ reachBytes) → ∀ d ∈ l, Fits P e d
 | [], _, d, hd => by cases hd
 | a :: l, h, d, hd => by
   simp only [DataW.weightsAll, List.mem_append] at h
   rcases List.mem_cons.1 hd with rfl | hd
   ·exact fun n hn => h n (.inl hn)
   ·exact fits_all (fun n hn => h n (.inr hn)) d hd
theorem fits_each {P : Program} : ∀ {ts : List TypeId} {l : List (DataW H)}, (∀ n ∈ DataW.weightsEach P ts l, n ≤ reachBytes) → ∀ (i : Nat) t d, ts[i]? = some t → l[i]? = some d → Fits P t d
 | [], _, _, i, t, d, h1, _ => by simp at h1
 | _ :: _, [], _, i, t, d, _, h2 => by simp at h2
 | a :: ts, b :: l, h, i, t, d, h1, h2 => by
   simp only [DataW.weightsEach, List.mem_append] at h
   cases i with
   | zero =>
     simp only [List.getElem?_cons_zero, Option.some.injEq] at h1 h2
     subst h1; subst h2
     exact fun n hn => h n (.inl hn)
   | succ i => exact fits_each (fun n hn => h n (.inr hn)) i t d (by simpa using h1) (by simpa using h2)
def Reads (enc : TypeId × Value → H) (P : Program) (w : World) (t : TypeId) (f : α → List AV) (Ok : α → Prop) : Prop :=
 ∀ fuel cs x, Fits P t x.1 → DataW.trod enc P w 0 (fun _ => true) true fuel t cs = some x →
   ∃ a, Ok a ∧ Imms (Live w) w cs (f a) ∧ ∀ v ∈ cs, v.oneCell' = true
theorem Imms.one {F : Nat → Nat → Prop} {v : Value} {x : AV} (h : Imm F w v x) : Imms F w [v] [x] :=
 ⟨rfl, fun i h1 _ => by have : i = 0 := by simpa using h1
                        subst this; exact h⟩
theorem Imms.append {F : Nat → Nat → Prop} {vs vs' : List Value} {xs xs' : List AV} (h : Imms F w vs xs) (h' : Imms F w vs' xs') : Imms F w (vs ++ vs') (xs ++ xs') := by
 have e := h.1
 have e' := h'.1
 refine ⟨by simp [e, e'], fun i h1 h2 => ?_⟩
 by_cases hi : i < vs.length
 ·rw [List.getElem_append_left hi, List.getElem_append_left (by omega)]; exact h.2 i _ _
 ·rw [List.getElem_append_right (by omega), List.getElem_append_right (by omega)]
  have := h'.2 (i - vs.length) (by simp at h1; omega) (by simp at h2; omega)
  simpa only [e] using this
theorem Reads.mono {t : TypeId} {f : α → List AV} {Ok : α → Prop} {g : β → List AV} {Ok' : β → Prop} (h : Reads enc P w t f Ok) (hq : ∀ a, Ok a → ∃ b, Ok' b ∧ g b = f a) : Reads enc P w t g Ok' :=
 fun fuel cs x hs ht => let ⟨a, h1, h2, h3⟩ := h fuel cs x hs ht; let ⟨b, k1, k2⟩ := hq a h1; ⟨b, k1, by rw [k2]; exact h2, h3⟩
theorem Reads.int {t : TypeId} {k : IntKind} (ht : P.underlying t = some (.int k)) : Reads enc P w t (fun n : Int => [.sc (.int k n)]) (fun n => (Lit.int k n).wf = true) := fun fuel cs x _ h => by
 obtain ⟨n, rfl, rfl, hw⟩ := DataW.trod_int ht h
 exact ⟨n, hw, .one (.sc _), by simp [Value.oneCell']⟩
theorem Reads.bool {t : TypeId} (ht : P.underlying t = some .bool) : Reads enc P w t (fun b : Bool => [.sc (.bool b)]) (fun _ => True) := fun fuel cs x _ h => by
 obtain ⟨b, rfl, rfl⟩ := DataW.trod_bool ht h
 exact ⟨b, trivial, .one (.sc _), by simp [Value.oneCell']⟩
theorem pick {α : Type} {p : Nat → α → Prop} (n : Nat) (h : ∀ i, i < n → ∃ a, p i a) : ∃ l : List α, l.length = n ∧ ∀ i (hi : i < l.length), p i l[i] := by
 induction n with
 | zero => exact ⟨[], rfl, fun i hi => by simp at hi⟩
 | succ n ih =>
   obtain ⟨l, h1, h2⟩ := ih fun i hi => h i (by omega)
   obtain ⟨a, ha⟩ := h n (by omega)
   refine ⟨l ++ [a], by simp [h1], fun i hi => ?_⟩
   by_cases h3 : i < l.length
   ·rw [List.getElem_append_left h3]; exact h2 i h3
   ·have : i = l.length := by simp at hi; omega
    subst this
    rw [List.getElem_append_right (Nat.le_refl _)]
    simpa [h1] using ha
theorem Reads.slice {t e : TypeId} {f : α → List AV} {Ok : α → Prop} (ht : P.underlying t = some (.slice e)) (he : Reads enc P w e f Ok) (hz : ∀ a, (f a).length = P.cellsOf e) (hz0 : 0 < P.cellsOf e) :
  Reads enc P w t (fun x : Bool × List α => [.sl x.1 (x.2.map f) .unk]) (fun x => (∀ y ∈ x.2, Ok y) ∧ (x.1 = true → x.2 = []) ∧ x.2.length * P.bytesOf e ≤ reachBytes) := fun fuel cs x hs h => by
 rcases DataW.trod_slice ht h with ⟨rfl, rfl⟩ | ⟨a, len, cap, elems, rest, n, rfl, rfl, rfl, _, hlc, hcm, hlen, hel, hrest, _⟩
 ·exact ⟨(true, []), ⟨by simp, fun _ => rfl, by simp⟩, .one (.nil _ (.inl rfl)), by simp [Value.oneCell']⟩
 unfold Fits at hs
 simp only [DataW.weights, ht, List.mem_cons, List.mem_append, List.length_map] at hs
 have hbytes : len * P.bytesOf e ≤ reachBytes := by
  have := hs _ (.inl rfl)
  rw [hlen, Nat.add_mul] at this; omega
 have hfit : ∀ i (hi : i < elems.length), Fits P e elems[i].1 := fun i hi =>
  fits_all (l := elems.map (·.1)) (fun n hn => hs n (.inr (.inl hn))) _ (List.mem_map.2 ⟨_, List.getElem_mem hi, rfl⟩)
 by_cases hc0 : cap = 0
 ·have hl0 : len = 0 := by omega
  subst hc0; subst hl0
  exact ⟨(false, []), ⟨by simp, by simp, by simp⟩, .one (.sz a _ (.inl rfl)), by simp [Value.oneCell']⟩
 have hfirst : ∃ v, w.cell? a = some v := by
  have hcells : ∃ cs', w.cells? 0 a (P.cellsOf e) = some cs' := by
   by_cases hl0 : len = 0
   ·subst hl0
    have h1 := (hrest rfl).2 0 (by omega)
    rw [List.getElem?_eq_getElem (by rw [(hrest rfl).1]; omega)] at h1
    obtain ⟨cs', h2, _⟩ := Option.bind_eq_some_iff.1 h1
    refine ⟨cs', ?_⟩
    simpa [Addr.add] using h2
   ·have h1 := hel 0 (by omega)
    rw [List.getElem?_eq_getElem (by omega)] at h1
    obtain ⟨cs', h2, _⟩ := Option.bind_eq_some_iff.1 h1
    refine ⟨cs', ?_⟩
    simpa [Addr.add] using h2
  obtain ⟨cs', h2⟩ := hcells
  obtain ⟨_, q1, q2⟩ := World.cells?_some h2
  have := q2 0 hz0
  rw [List.getElem?_eq_getElem (by omega)] at this
  exact ⟨_, by simpa [Addr.add] using this⟩
 have hsp : a.spot = none := by
  obtain ⟨v, hv⟩ := hfirst
  unfold World.cell? at hv
  cases hsp : a.spot with
  | none => rfl
  | some k =>
    rw [hsp] at hv
    split at hv <;> simp at hv
 obtain ⟨b, off, spt⟩ := a
 cases hsp
 have key : ∀ i, i < len → ∃ y : α, Ok y ∧ ∃ cs', cs'.length = P.cellsOf e ∧ (∀ j (hj : j < cs'.length), w.cell? ⟨b, off + i * P.cellsOf e + j, none⟩ = some cs'[j]) ∧ Imms (Live w) w cs' (f y) ∧ ∀ v ∈ cs', v.oneCell' = true := fun i hi => by
  have h1 := hel i hi
  rw [List.getElem?_eq_getElem (by omega)] at h1
  obtain ⟨cs', h2, h3⟩ := Option.bind_eq_some_iff.1 h1
  obtain ⟨y, k1, k2, k3⟩ := he _ _ _ (hfit i (by omega)) h3
  obtain ⟨_, q1, q2⟩ := World.cells?_some h2
  refine ⟨y, k1, cs', q1, fun j hj => ?_, k2, k3⟩
  have := q2 j (by omega)
  rw [List.getElem?_eq_getElem hj] at this
  rw [← this]
  congr 1
  unfold Addr.add
  by_cases e1 : i * P.cellsOf e = 0
  ·rw [if_pos e1]
   by_cases e2 : j = 0
   ·subst e2; simp [e1]
   ·rw [if_neg e2]; simp [e1]
  ·rw [if_neg e1]
   by_cases e2 : j = 0
   ·subst e2; simp
   ·rw [if_neg e2]
 obtain ⟨l, hl, hp⟩ := pick len key
 refine ⟨(false, l), ⟨fun y hy => ?_, by simp, by rw [hl]; exact hbytes⟩, .one ?_, by simp [Value.oneCell']⟩
 ·obtain ⟨i, hi, rfl⟩ := List.getElem_of_mem hy
  exact (hp i hi).1
 ·
  have hcell : ∀ i j, i < len → j < P.cellsOf e → ∃ v, w.cell? ⟨b, off + i * P.cellsOf e + j, none⟩ = some v ∧ v.oneCell' = true ∧ ∀ (h : i < l.length) (h' : j < (f l[i]).length), Imm (Live w) w v (f l[i])[j] := fun i j hi hj => by
   obtain ⟨_, cs', q1, q2, q3, q4⟩ := hp i (by omega)
   exact ⟨cs'[j], q2 j (by omega), q4 _ (List.getElem_mem _), fun h h' => q3.2 j (by omega) h'⟩
  have hv := fun i j => show ∃ v, i < len → j < P.cellsOf e → w.cell? ⟨b, off + i * P.cellsOf e + j, none⟩ = some v ∧ v.oneCell' = true ∧ ∀ (h : i < l.length) (h' : j < (f l[i]).length), Imm (Live w) w v (f l[i])[j] from by
   by_cases h : i < len ∧ j < P.cellsOf e
   ·obtain ⟨v, hv⟩ := hcell i j h.1 h.2; exact ⟨v, fun _ _ => hv⟩
   ·exact ⟨undef, fun h1 h2 => absurd ⟨h1, h2⟩ h⟩
  have hvs : ∀ i j, ∃ v, v = Classical.choose (hv i j) := fun i j => ⟨_, rfl⟩
  have e0 : (l.map f).length = len := by simp [hl]
  have := Imm.sl (F := Live w) (w := w) b off cap (P.cellsOf e) (l.map f) .unk (fun i j => Classical.choose (hv i j)) (by rw [e0]; exact hlc) (.inl rfl) (fun i hi => by rw [List.getElem_map]; exact hz _)
   (fun i j hi hj => by
    obtain ⟨k1, k2, _⟩ := Classical.choose_spec (hv i j) (by rw [← e0]; exact hi) hj
    refine ⟨?_, k1, k2⟩
    unfold World.cell? at k1
    show b < w.heap.size
    cases hb : w.heap[b]? with
    | none => simp [hb] at k1
    | some o => exact (Array.getElem?_eq_some_iff.1 hb).1)
   (fun i j h h' => by
    have h'2 := h'
    rw [List.getElem_map, hz] at h'2
    have := (Classical.choose_spec (hv i j) (by rw [← e0]; exact h) h'2).2.2 (by simpa using h) (by rw [hz]; exact h'2)
    simpa only [List.getElem_map] using this)
  rw [e0] at this
  exact this
def RdF (enc : TypeId × Value → H) (P : Program) (w : World) (L : List Field) (k tot : Nat) (f : α → List AV) (Ok : α → Prop) : Prop :=
 ∀ (n : Nat) (cs : List Value), cs.length = tot → (∀ fd ∈ L, ∃ y, DataW.trod enc P w 0 (fun _ => true) true n fd.type ((cs.drop fd.offset).take (P.cellsOf fd.type)) = some y ∧ Fits P fd.type y.1) →
   ∃ a, Ok a ∧ Imms (Live w) w (cs.drop k) (f a) ∧ ∀ v ∈ cs.drop k, v.oneCell' = true
theorem RdF.nil {tot : Nat} : RdF enc P w [] tot tot (fun _ : Unit => []) (fun _ => True) := fun n cs hl _ => by
 have : cs.drop tot = [] := by rw [List.drop_eq_nil_iff]; omega
 rw [this]
 exact ⟨(), trivial, ⟨rfl, fun i h => by simp at h⟩, by simp⟩
theorem RdF.cons {fd : Field} {fs : List Field} {k k' sz tot : Nat} {f : α → List AV} {Ok : α → Prop} {g : β → List AV} {Ok' : β → Prop} (ho : fd.offset = k) (hz : P.cellsOf fd.type = sz) (hk : k + sz = k')
  (h : Reads enc P w fd.type f Ok) (hs : RdF enc P w fs k' tot g Ok') : RdF enc P w (fd :: fs) k tot (fun x : α × β => f x.1 ++ g x.2) (fun x => Ok x.1 ∧ Ok' x.2) := fun n cs hl hf => by
 obtain ⟨y, hy, hyf⟩ := hf fd List.mem_cons_self
 obtain ⟨a, h1, h2, h3⟩ := h _ _ _ hyf hy
 obtain ⟨b, k1, k2, k3⟩ := hs n cs hl fun fd' h' => hf fd' (List.mem_cons_of_mem _ h')
 have e : cs.drop k = (cs.drop k).take sz ++ cs.drop k' := by
  rw [← hk, ← List.drop_drop, List.take_append_drop]
 rw [ho, hz] at h2 h3
 refine ⟨(a, b), ⟨h1, k1⟩, by rw [e]; exact h2.append k2, fun v hv => ?_⟩
 rw [e, List.mem_append] at hv
 rcases hv with hv | hv
 ·exact h3 v hv
 ·exact k3 v hv
theorem Reads.struct {t : TypeId} {fs : Array Field} {tot : Nat} {f : α → List AV} {Ok : α → Prop} (ht : P.underlying t = some (.struct fs)) (hz : P.cellsOf t = tot) (h : RdF enc P w fs.toList 0 tot f Ok) : Reads enc P w t f Ok := fun fuel cs x hs hx => by
 obtain ⟨xs, n, _, rfl, hl, hlen, hf⟩ := DataW.trod_struct ht hx
 unfold Fits at hs
 simp only [DataW.weights, ht] at hs
 obtain ⟨a, h1, h2, h3⟩ := h n cs (hl.trans hz) fun fd hfd => by
  obtain ⟨i, hi, rfl⟩ := List.getElem_of_mem hfd
  have := hf i fs.toList[i] (by simp)
  have hix : i < xs.length := by simp at hi; omega
  rw [List.getElem?_eq_getElem hix] at this
  exact ⟨_, this, fits_each hs i _ _ (by rw [List.getElem?_map, List.getElem?_eq_getElem hi]; rfl) (by rw [List.getElem?_map, List.getElem?_eq_getElem hix]; rfl)⟩
 exact ⟨a, h1, by simpa using h2, by simpa using h3⟩
theorem arr_go {sz : Nat} {f : α → List AV} {Ok : α → Prop} : ∀ (n : Nat) (cs : List Value), cs.length = n * sz →
  (∀ i, i < n → ∃ a, Ok a ∧ Imms (Live w) w ((cs.drop (i * sz)).take sz) (f a) ∧ ∀ v ∈ (cs.drop (i * sz)).take sz, v.oneCell' = true) →
  ∃ l : List α, l.length = n ∧ (∀ a ∈ l, Ok a) ∧ Imms (Live w) w cs (l.map f).flatten ∧ ∀ v ∈ cs, v.oneCell' = true
 | 0, cs, hl, _ => by
   have : cs = [] := by cases cs with
    | nil => rfl
    | cons a l => simp at hl
   subst this
   exact ⟨[], rfl, by simp, ⟨rfl, fun i h => by simp at h⟩, by simp⟩
 | n + 1, cs, hl, h => by
   obtain ⟨a, h1, h2, h3⟩ := h 0 (by omega)
   obtain ⟨l, k1, k2, k3, k4⟩ := arr_go (sz := sz) n (cs.drop sz) (by rw [List.length_drop, hl, Nat.add_mul]; omega) fun i hi => by
    have := h (i + 1) (by omega)
    rwa [List.drop_drop, show sz + i * sz = (i + 1) * sz by rw [Nat.add_mul]; omega]
   simp only [Nat.zero_mul, List.drop_zero] at h2 h3
   have e := List.take_append_drop sz cs
   refine ⟨a :: l, by simp [k1], fun b hb => ?_, ?_, fun v hv => ?_⟩
   ·rcases List.mem_cons.1 hb with rfl | hb
    ·exact h1
    ·exact k2 b hb
   ·rw [← e]; simpa using h2.append k3
   ·rw [← e, List.mem_append] at hv
    rcases hv with hv | hv
    ·exact h3 v hv
    ·exact k4 v hv
theorem Reads.array {t e : TypeId} {n sz : Nat} {f : α → List AV} {Ok : α → Prop} (ht : P.underlying t = some (.array n e)) (hz : P.cellsOf e = sz) (ha : P.cellsOf t = n * sz) (h : Reads enc P w e f Ok) :
  Reads enc P w t (fun l : List α => (l.map f).flatten) (fun l => l.length = n ∧ ∀ a ∈ l, Ok a) := fun fuel cs x hs hx => by
 obtain ⟨xs, m, _, rfl, hl, hlen, hf⟩ := DataW.trod_array ht hx
 rw [ha] at hl
 rw [hz] at hf
 unfold Fits at hs
 simp only [DataW.weights, ht] at hs
 obtain ⟨l, h1, h2, h3, h4⟩ := arr_go n cs hl fun i hi => by
  have := hf i hi
  rw [List.getElem?_eq_getElem (by omega)] at this
  exact h _ _ _ (fits_all hs _ (List.mem_map.2 ⟨_, List.getElem_mem _, rfl⟩)) this
 exact ⟨l, ⟨h1, h2⟩, h3, h4⟩
theorem Reads.imm_struct {t : TypeId} {fs : Array Field} {f : α → List AV} {Ok : α → Prop} {r : Reach} {b0 : Nat} {v : Value} {d : DataW H} {ps : List MemPlace} (ht : P.underlying t = some (.struct fs)) (h : Reads enc P w t f Ok)
  (hv : Value.okWide P w r b0 t v) (hw : Fits P t d) (hd : DataW.Trod enc P w 0 (fun _ => true) true t v d ps) : ∃ a, Ok a ∧ Imm (Live w) w v (.ag (f a)) := by
 obtain ⟨cs, rfl, _⟩ := WideShapes.okWide_struct ht hv
 obtain ⟨fuel, hd⟩ := hd
 obtain ⟨a, h1, h2, _⟩ := h _ _ _ hw hd
 refine ⟨a, h1, ?_⟩
 have : (Value.agg cs) = .agg cs.toList.toArray := by simp
 rw [this]
 exact .ag _ _ h2.1 h2.2
theorem Grown.below {F F' : Nat → Nat → Prop} {w' : World} (g : Avl.Grown F w F' w') : Below w.heap.size w w' := ⟨g.kept.os, g.kept.tape, g.kept.output, g.size, g.old⟩
theorem trodAll_stays (hl : laidOutB P = true) {w' : World} (hb : Below w.heap.size w w') {spf : Nat → Bool} : ∀ {ts : List TypeId} {vs : List Value} {ds : List (DataW H)} {ps : List MemPlace}, (∀ t ∈ ts, P.readableRec t = true ∧ t < P.types.size) →
  DataW.TrodAll enc P w 0 (fun _ => true) true ts vs ds ps → (∀ p ∈ ps, p.block < w.heap.size) → (∀ p ∈ ps, spf p.block = true) → DataW.TrodAll enc P w' 0 spf true ts vs ds ps
 | [], [], [], _, _, h, _, _ => h
 | t :: ts, v :: vs, d :: ds, _, hr, ⟨p, q, h1, h2, e⟩, hlt, hsp => by
   subst e
   refine ⟨p, q, ?_, trodAll_stays hl hb (fun t ht => hr t (List.mem_cons_of_mem _ ht)) h2 (fun x hx => hlt x (List.mem_append_right _ hx)) fun x hx => hsp x (List.mem_append_right _ hx), rfl⟩
   have := hr t List.mem_cons_self
   exact WideElems.Trod_stays hl this.1 this.2 h1 (fun x hx => hb.same (hlt x (List.mem_append_left _ hx))) fun x hx => hsp x (List.mem_append_left _ hx)
 | [], _ :: _, _, _, _, h, _, _ => h.elim
 | [], [], _ :: _, _, _, h, _, _ => h.elim
 | _ :: _, [], _, _, _, h, _, _ => h.elim
 | _ :: _, _ :: _, [], _, _, h, _, _ => h.elim
theorem law_calls {f : FuncId} {fn : Func} {s : ChangeSpec} {apart fresh handsOn again : Bool} {args : Array Value} {avs : List AV} {ds : List (DataW H)} {before : List MemPlace} {tb : TypeId}
  (hl : laidOutB P = true) (hrd : (fn.params.toList.all fun t => P.readableRec t && decide (t < P.types.size)) = true) (hrt : fn.resultTypes = #[tb]) (htb : P.underlying tb = some .bool) (hvars : s.vars = [])
  (hs : s.fn H (ds ++ []) = { results := [.lit (.bool true)], args := ds })
  (h : PureIs P f avs (.sc (.bool true))) (hi : Imms (Live w) w args.toList avs) (hW : DataW.Whole enc P fn.params.toList s.vars apart w args.toList ds [] before) (hgl : Globs (Live w) w := by exact fun g vs hg => by cases hg) :
  Calls P f args w fun e W' => ∃ v, e = .returned v ∧ s.post enc P fn apart fresh handsOn again w args v W' := by
 have hW' := hW
 obtain ⟨p, q, hA, hV, rfl, hfz, hnd⟩ := hW
 rw [hvars] at hV
 obtain ⟨_, rfl⟩ := trodVars_none hV
 have hc := callsIn_wide.1 (h.2 (Live w) w args.toList ⟨fun _ _ h => h, hgl⟩ hi)
 rw [Array.toArray_toList] at hc
 refine hc.mono fun e W' ⟨v, F', he, hr, g⟩ => ?_
 have hv : v = .bool true := by cases hr; rfl
 subst hv
 have hb := Grown.below g
 refine ⟨_, he, post_of_same (pa := p) (pv := []) (by simpa using hW') (fun _ _ _ => ?_) (fun sp hsp => ?_) (fun _ _ => ?_) (by simp) (hb.frame _) g.kept.froz ?_⟩
 ·rw [hs, hrt]; exact trodAll_mk1 (shut_bool htb true)
 ·rw [hs]
  refine trodAll_stays hl hb (fun t ht => ?_) hA (fun x hx => hW'.lt x (by simpa using hx)) fun x hx => hsp x (by simpa using hx)
  have := List.all_eq_true.1 hrd t ht
  simpa using this
 ·rw [hvars, hs]; exact rfl
 ·exact ok_one hrt rfl (okWide_bool_mk htb true)
end
end Go.Avl
namespace Go.Avl
open Go Go.Proofs
end Go.Avl
namespace Go.Proofs.YtgdcjkcohmjbeaaDoor
open Go Go.Avl Go.Proofs Go.ChangeShapes Go.RowKit
theorem Tryd.own : ownKnob Tryd.prog.godebug = none := by kernel_rfl
theorem Tryd.laidOut : laidOutB Tryd.prog = true := by kernel_rfl
abbrev laidT : List (String × DataW Unit) := [("gauntlet/faults.table", Rows.laid_gauntlet_faults_table)]
section
variable {H : Type} {enc : TypeId × Value → H} {w : World}
theorem u8wf {n : Int} (h : (Lit.int .u8 n).wf = true) : 0 ≤ n ∧ n < 256 := by
 simp [Lit.wf, IntKind.min, IntKind.max, IntKind.signed, IntKind.bits] at h
 omega
theorem len_of {n b : Nat} (hb : 1 ≤ b) (h : n * b ≤ reachBytes) : (n : Int) ≤ 140737488355328 := by
 have h1 : n * 1 ≤ n * b := Nat.mul_le_mul_left n hb
 have h2 : reachBytes ≤ 140737488355328 := by decide
 omega
theorem rd_u8 : Reads enc Tryd.prog w 5 u8C (fun n => 0 ≤ n ∧ n < 256) := (Reads.int (by kernel_rfl)).mono fun a h => ⟨a, u8wf h, rfl⟩
theorem rd_u8' : Reads enc Tryd.prog w 5 (fun n : Int => [.sc (.int .u8 n)]) (fun n => 0 ≤ n ∧ n < 256) := rd_u8
theorem rd_bytes : Reads enc Tryd.prog w 99 (fun x : Bool × List Int => [.sl x.1 (x.2.map u8C) .unk]) (fun x => (∀ e ∈ x.2, 0 ≤ e ∧ e < 256) ∧ (x.2.length : Int) ≤ 140737488355328) :=
 (Reads.slice Tryd.underlying99 rd_u8 (fun a => by rw [show Program.cellsOf Tryd.prog 5 = 1 by kernel_rfl]; rfl) (by rw [show Program.cellsOf Tryd.prog 5 = 1 by kernel_rfl]; exact Nat.succ_pos _)).mono fun a h => ⟨a, ⟨h.1, len_of (b := Program.bytesOf Tryd.prog 5) (by decide +kernel) h.2.2⟩, rfl⟩
theorem u16wf {n : Int} (h : (Lit.int .u16 n).wf = true) : 0 ≤ n ∧ n < 65536 := by
 simp [Lit.wf, IntKind.min, IntKind.max, IntKind.signed, IntKind.bits] at h
 omega
theorem rd_u16 : Reads enc Tryd.prog w 25 u16C (fun n => 0 ≤ n ∧ n < 65536) := (Reads.int (by kernel_rfl)).mono fun a h => ⟨a, u16wf h, rfl⟩
theorem rd_u16' : Reads enc Tryd.prog w 25 (fun n : Int => [.sc (.int .u16 n)]) (fun n => 0 ≤ n ∧ n < 65536) := rd_u16
theorem rd_u16s : Reads enc Tryd.prog w 22 (fun x : Bool × List Int => [.sl x.1 (x.2.map u16C) .unk]) (fun x => (∀ e ∈ x.2, 0 ≤ e ∧ e < 65536) ∧ (x.2.length : Int) ≤ 140737488355328) :=
 (Reads.slice (by kernel_rfl) rd_u16 (fun a => by rw [show Program.cellsOf Tryd.prog 25 = 1 by kernel_rfl]; rfl) (by rw [show Program.cellsOf Tryd.prog 25 = 1 by kernel_rfl]; exact Nat.succ_pos _)).mono fun a h => ⟨a, ⟨h.1, len_of (b := Program.bytesOf Tryd.prog 25) (by decide +kernel) h.2.2⟩, rfl⟩
theorem rd_LM : Reads enc Tryd.prog w 24 LM.cells LM.Ok := by
 have := (Reads.struct (enc := enc) (w := w) (tot := 5) Tryd.underlying24 (by kernel_rfl) (.cons (sz := 1) rfl (by kernel_rfl) rfl rd_u8 (.cons (sz := 1) rfl (by kernel_rfl) rfl rd_u8 (.cons (sz := 1) rfl (by kernel_rfl) rfl rd_u8 (.cons (sz := 1) rfl (by kernel_rfl) rfl (Reads.bool Tryd.underlying4)
  (.cons (sz := 1) rfl (by kernel_rfl) rfl rd_u16s .nil))))))
 exact this.mono fun a h => ⟨⟨a.1, a.2.1, a.2.2.1, a.2.2.2.1, a.2.2.2.2.1.1, a.2.2.2.2.1.2, .unk⟩, ⟨h.1.1, h.2.1.1, h.2.2.1.1, h.2.2.2.2.1.1⟩, rfl⟩
theorem rd_wbs : Reads enc Tryd.prog w 28 (fun x : Bool × List (Bool × List Int) => [.sl x.1 (x.2.map wbR) .unk]) (fun x => ∀ y ∈ x.2, ∀ e ∈ y.2, 0 ≤ e ∧ e < 256) :=
 (Reads.slice Tryd.underlying28 (rd_bytes.mono (g := wbR) (Ok' := fun y => ∀ e ∈ y.2, 0 ≤ e ∧ e < 256) fun a h => ⟨a, h.1, rfl⟩) (fun a => by rw [show Program.cellsOf Tryd.prog 99 = 1 by kernel_rfl]; rfl) (by rw [show Program.cellsOf Tryd.prog 99 = 1 by kernel_rfl]; exact Nat.succ_pos _)).mono fun a h => ⟨a, h.1, rfl⟩
theorem rd_F : Reads enc Tryd.prog w 27 (fun n : Int => [.sc (.int .u16 n)]) (fun n => 0 ≤ n ∧ n < 65536) := by
 have := (Reads.struct (enc := enc) (w := w) (tot := 1) Tryd.underlying27 (by kernel_rfl) (.cons (sz := 1) rfl (by kernel_rfl) rfl rd_u16' .nil))
 exact this.mono fun a h => ⟨a.1, h.1, by simp⟩
theorem rd_X : Reads enc Tryd.prog w 30 LX.cells LX.Ok := by
 have := (Reads.struct (enc := enc) (w := w) (tot := 9) Tryd.underlying30 (by kernel_rfl) (.cons (sz := 5) rfl (by kernel_rfl) rfl rd_LM (.cons (sz := 1) rfl (by kernel_rfl) rfl rd_u8' (.cons (sz := 1) rfl (by kernel_rfl) rfl rd_F (.cons (sz := 1) rfl (by kernel_rfl) rfl (Reads.bool Tryd.underlying4)
  (.cons (sz := 1) rfl (by kernel_rfl) rfl rd_wbs .nil))))))
 exact this.mono fun a h => ⟨⟨a.1, a.2.1, a.2.2.1, a.2.2.2.1, a.2.2.2.2.1.1, a.2.2.2.2.1.2, .unk⟩, ⟨h.1, h.2.1, h.2.2.1, h.2.2.2.2.1⟩, rfl⟩
end
theorem gTable : Tryd.prog.globalNamed "gauntlet/faults.table" = some 0 := by kernel_rfl
theorem tTable : (Tryd.prog.globals[0]?).map (·.type) = some 179 := by kernel_rfl
theorem string_eq {s t : ByteArray} (h : s.data.toList = t.data.toList) : s = t := by
 obtain ⟨⟨l⟩⟩ := s; obtain ⟨⟨k⟩⟩ := t
 simp only at h
 rw [h]
set_option maxRecDepth 100000 in
theorem kind_cells {W : World} {m : Nat} {cs : List Value} {n : List UInt8} {a b c : Bool} {ps : List MemPlace} (h : DataW.trod (fun _ => ()) Tryd.prog W 0 (fun _ => true) false m 178 cs = some (.agg [.lit (.string n), .lit (.bool a), .lit (.bool b), .lit (.bool c)], ps)) :
  cs = [kindN n, .bool a, .bool b, .bool c] := by
 obtain ⟨xs, k, _, he, hl, hlen, hf⟩ := DataW.trod_struct Tryd.underlying178 h
 have hl4 : cs.length = 4 := hl.trans (by kernel_rfl)
 match cs, hl4 with
 | [c0, c1, c2, c3], _ =>
   have h0 : DataW.trod (fun _ => ()) Tryd.prog W 0 (fun _ => true) false k 9 (([c0, c1, c2, c3].drop 0).take (Program.cellsOf Tryd.prog 9)) = xs[0]? := hf 0 _ rfl
   have h1 : DataW.trod (fun _ => ()) Tryd.prog W 0 (fun _ => true) false k 4 (([c0, c1, c2, c3].drop 1).take (Program.cellsOf Tryd.prog 4)) = xs[1]? := hf 1 _ rfl
   have h2 : DataW.trod (fun _ => ()) Tryd.prog W 0 (fun _ => true) false k 4 (([c0, c1, c2, c3].drop 2).take (Program.cellsOf Tryd.prog 4)) = xs[2]? := hf 2 _ rfl
   have h3 : DataW.trod (fun _ => ()) Tryd.prog W 0 (fun _ => true) false k 4 (([c0, c1, c2, c3].drop 3).take (Program.cellsOf Tryd.prog 4)) = xs[3]? := hf 3 _ rfl
   have e9 : Program.cellsOf Tryd.prog 9 = 1 := by kernel_rfl
   have e4 : Program.cellsOf Tryd.prog 4 = 1 := by kernel_rfl
   simp only [e9, e4, List.drop_zero, List.drop_succ_cons, List.take_succ_cons, List.take_zero] at h0 h1 h2 h3
   match xs, hlen with
   | [x0, x1, x2, x3], _ =>
     simp only [Prod.mk.injEq, DataW.agg.injEq, List.map_cons, List.map_nil, List.cons.injEq, and_true] at he
     obtain ⟨⟨e0, e1, e2, e3⟩, _⟩ := he
     obtain ⟨s, q0, r0, _⟩ := DataW.trod_string Tryd.underlying9 h0
     obtain ⟨b1, q1, r1⟩ := DataW.trod_bool Tryd.underlying4 h1
     obtain ⟨b2, q2, r2⟩ := DataW.trod_bool Tryd.underlying4 h2
     obtain ⟨b3, q3, r3⟩ := DataW.trod_bool Tryd.underlying4 h3
     rw [r0] at e0; rw [r1] at e1; rw [r2] at e2; rw [r3] at e3
     simp only [DataW.lit.injEq, Lit.string.injEq, Lit.bool.injEq] at e0 e1 e2 e3
     simp only [List.cons.injEq, and_true] at q0 q1 q2 q3
     subst q0 q1 q2 q3 e1 e2 e3
     have : s = ⟨n.toArray⟩ := string_eq (by simpa using e0.symm)
     rw [this]; rfl
set_option maxRecDepth 100000 in
theorem globs_of {W : World} (h : laidMetH Tryd.prog laidT W) : Globs (Live W) W := by
 rw [MakeChecks.laidMetH_plain _ _ _ (by kernel_rfl)] at h
 obtain ⟨ps, ⟨g, t, cs, fuel, p, q, hg, ht, hvar, hd, _, _⟩, _, _⟩ := h
 obtain rfl := Option.some.inj (gTable.symm.trans hg)
 obtain rfl := Option.some.inj (tTable.symm.trans ht)
 obtain ⟨xs, m, _, he, hl, hlen, hf⟩ := DataW.trod_array Tryd.underlying179 hd
 have e178 : Program.cellsOf Tryd.prog 178 = 4 := by kernel_rfl
 have hl20 : cs.toList.length = 20 := hl.trans (by kernel_rfl)
 have hcs : cs.toList = kindTab := by
  rw [e178] at hf
  match xs, hlen with
  | [x0, x1, x2, x3, x4], _ =>
    have h0 := hf 0 (by decide)
    have h1 := hf 1 (by decide)
    have h2 := hf 2 (by decide)
    have h3 := hf 3 (by decide)
    have h4 := hf 4 (by decide)
    simp only [Rows.laid_gauntlet_faults_table, Prod.mk.injEq, DataW.agg.injEq, List.map_cons, List.map_nil, List.cons.injEq, and_true] at he
    obtain ⟨⟨e0, e1, e2, e3, e4⟩, _⟩ := he
    obtain ⟨d0, p0⟩ := x0
    obtain ⟨d1, p1⟩ := x1
    obtain ⟨d2, p2⟩ := x2
    obtain ⟨d3, p3⟩ := x3
    obtain ⟨d4, p4⟩ := x4
    simp only at e0 e1 e2 e3 e4
    subst e0 e1 e2 e3 e4
    have k0 := kind_cells h0
    have k1 := kind_cells h1
    have k2 := kind_cells h2
    have k3 := kind_cells h3
    have k4 := kind_cells h4
    have key : cs.toList = (cs.toList.drop (0 * 4)).take 4 ++ ((cs.toList.drop (1 * 4)).take 4 ++ ((cs.toList.drop (2 * 4)).take 4 ++ ((cs.toList.drop (3 * 4)).take 4 ++ (cs.toList.drop (4 * 4)).take 4))) := by
     have e : (cs.toList.drop (4 * 4)).take 4 = cs.toList.drop (4 * 4) := List.take_of_length_le (by rw [List.length_drop, hl20]; decide)
     rw [e]
     have s : ∀ k, cs.toList.drop (k * 4) = (cs.toList.drop (k * 4)).take 4 ++ cs.toList.drop ((k + 1) * 4) := fun k => by
      rw [show (k + 1) * 4 = k * 4 + 4 by omega, ← List.drop_drop, List.take_append_drop]
     have z : cs.toList = cs.toList.drop (0 * 4) := by simp
     exact z.trans ((s 0).trans (congrArg _ ((s 1).trans (congrArg _ ((s 2).trans (congrArg _ ((s 3).trans (congrArg _ rfl))))))))
    rw [k0, k1, k2, k3, k4] at key
    rw [key]; rfl
 intro g vs hgv j hj
 match g, hgv with
 | 0, hgv =>
   have hgv : kindTab = vs := by simpa [laidAt] using hgv
   subst hgv
   have hc := World.var?_cell gTable hvar j
   have : cs[j]? = some kindTab[j] := by rw [← Array.getElem?_toList, hcs, List.getElem?_eq_getElem hj]
   rw [this] at hc
   refine ⟨?_, hc⟩
   unfold World.cell? at hc
   show 0 < W.heap.size
   cases hb : W.heap[0]? with
   | none => simp [hb] at hc
   | some o => exact (Array.getElem?_eq_some_iff.1 hb).1
theorem door_met (os : Os) (args : Array Value) : laidMetH Tryd.prog laidT ((World.doorLaid Tryd.prog 400 os).forCall (fun _ _ => 0) ⟨#[], args, []⟩).memory :=
 laidMetH_of_parts3 (fuel := 8) (laidMet_of_run' 8 (by kernel_rfl) (by kernel_rfl)) (by kernel_rfl) (by kernel_rfl)
end Go.Proofs.YtgdcjkcohmjbeaaDoor
