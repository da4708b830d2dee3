/-
  Lemmas.
  From a law's row to its contract: arguments opened, and read again behind the call.
  How the arguments of the culprits' laws read, and the table of the kinds of faults.
-/
import Derived.ProofKit
import Derived.OpenShut
import Derived.Test.YtgdcjkcohmjbeaaDoorCards
import Derived.Test.YtgdcjkcohmjbeaaDoorTie
import Derived.LaidMore
import Derived.Stop.Joined
import Derived.Test.YtgdcjkcohmjbeaaDoorPart9
set_option linter.unusedSimpArgs false
set_option linter.unusedVariables false
set_option linter.unnecessarySimpa false
set_option linter.deprecated false
namespace Go.Avl
open Go Go.Proofs.Tryd
set_option maxRecDepth 10000
theorem clipW_is (nl : Bool) (es : List (List AV)) (c : Cp) (h : (es.all fun y => decide (y.length = 1)) = true) : PureIs prog 67 [.sl nl es c] (.sl nl es .full) := by
 refine PureIs.of1 1 [2] func67 ntmps67 results67 fun _ => ?_
 refine EvC.a ?_
 refine EvC.a ?_ (hok := by simpa using h)
 refine EvC.rz ?_
 simp only [go_sem]
def toOf (bs : List (List Int × Int)) (r : List Int) : Option Int := (bs.find? fun b => decide (b.1 = r)).map (·.2)
def walkF (t : List Nd) (m : Mach) : Nat → Nat → List (List Int) → Option (Nat × List (List Int))
 | 0, _, _ => none
 | f + 1, n, asked => match t[n]? with
   | none => none
   | some d => if d.word.length = 0 then some (n, asked) else match toOf d.br (runR m 0 d.word) with
     | none => none
     | some to => walkF t m f to.toNat (asked ++ [d.word])
theorem walkF_leaf {t : List Nd} {m : Mach} {f n : Nat} {asked : List (List Int)} {d : Nd} (hd : t[n]? = some d) (h : d.word = []) : walkF t m (f + 1) n asked = some (n, asked) := by
 rw [walkF, hd]; simp [h]
theorem walkF_go {t : List Nd} {m : Mach} {f n : Nat} {asked : List (List Int)} {d : Nd} (hd : t[n]? = some d) (h : d.word ≠ []) : walkF t m (f + 1) n asked = match toOf d.br (runR m 0 d.word) with
  | none => none
  | some to => walkF t m f to.toNat (asked ++ [d.word]) := by
 rw [walkF, hd]; simp [h]
def askC (w : List Int) : List AV := [.sl false (w.map intC) .full]
@[go_sem] theorem norefs_ask (l : List (List Int)) : (l.map askC).all AV.norefs = true := by simp [List.all_eq_true, askC, AV.norefs, AV.noref]
structure NGnil (d : NG) : Prop where
 s : d.s.1 = true → d.s.2.1 = []
 w : d.w.1 = true → d.w.2.1 = []
def walkA (t : List NG) (m : Mach) : AV :=
 if checkM m ≠ 0 then .tu [.sl true [] .unk, .sl true [] .unk, .sc (.int .i64 (checkM m))]
 else if validT m.ins (t.map NG.nd) = false then .tu [.sl true [] .unk, .sl true [] .unk, .sc (.int .i64 1)]
 else match walkF (t.map NG.nd) m t.length 0 [] with
  | none => .tu [.sl true [] .unk, .sl true [] .unk, .sc (.int .i64 7)]
  | some (n, asked) => match t[n]? with
    | none => .junk
    | some d => .tu [.sl d.s.1 (d.s.2.1.map intC) .full, .sl asked.isEmpty (asked.map askC) .full, .sc (.int .i64 0)]
theorem findIdxB_spec {p : BG → Bool} : ∀ (es : List BG) (i : Int), (findIdxB p es i = -1 ∧ es.find? p = none) ∨ ∃ (k : Nat) (b : BG), findIdxB p es i = i + k ∧ es[k]? = some b ∧ es.find? p = some b
 | [], _ => .inl ⟨rfl, rfl⟩
 | e :: es, i => by
   unfold findIdxB
   rw [List.find?_cons]
   by_cases h : p e = true
   ·rw [if_pos h, h]; exact .inr ⟨0, e, by simp, rfl, rfl⟩
   ·rw [if_neg h, Bool.eq_false_iff.2 h]
    rcases findIdxB_spec es (i + 1) with h1 | ⟨k, b, h1, h2, h3⟩
    ·exact .inl h1
    ·exact .inr ⟨k + 1, b, by rw [h1]; simp only [Int.natCast_add, Int.natCast_one]; omega, by rw [List.getElem?_cons_succ]; exact h2, h3⟩
theorem toOf_bg (bs : List BG) (r : List Int) : toOf (bs.map bgB) r = (bs.find? fun e => decide (e.1.2.1 = r)).map (·.2) := by
 unfold toOf
 rw [List.find?_map, Option.map_map]
 rfl
theorem validT_nd {ins : Int} {t : List Nd} (h : validT ins t = true) : 0 < t.length ∧ ∀ n d, t[n]? = some d → wordErr ins d.word = 0 ∧ (d.word.length = 0 ↔ d.br.length = 0) ∧ ∀ k, k < d.br.length → brOk t.length n d.word.length d.br k = true := by
 unfold validT at h
 simp only [Bool.and_eq_true, decide_eq_true_eq, List.all_eq_true, List.mem_range] at h
 refine ⟨h.2, fun n d hd => ?_⟩
 have := h.1 n (List.getElem?_eq_some_iff.1 hd).1
 rw [hd] at this
 simp only [ndOk, Bool.and_eq_true, decide_eq_true_eq, List.all_eq_true, List.mem_range] at this
 refine ⟨this.1.1, ?_, this.2⟩
 have h2 := this.1.2
 by_cases a : d.word.length = 0 <;> by_cases b : d.br.length = 0 <;> simp_all
theorem brOk_get {N n wl : Nat} {bs : List (List Int × Int)} {k : Nat} {b : List Int × Int} (h : brOk N n wl bs k = true) (hb : bs[k]? = some b) : (n : Int) < b.2 ∧ b.2 < N ∧ b.1.length = wl ∧ ∀ c ∈ bs.take k, c.1 ≠ b.1 := by
 unfold brOk at h
 rw [hb] at h
 simp only [Bool.and_eq_true, decide_eq_true_eq, Bool.not_eq_true', List.any_eq_false] at h
 exact ⟨h.1, h.2.1, h.2.2.1, h.2.2.2⟩
set_option maxHeartbeats 4000000 in
theorem walk_is (nl : Bool) (t : List NG) (c : Cp) (m : Mach) (hm : ∀ r ∈ m.rows, r.2.length < 1000000) (ht : ∀ d ∈ t, NGok d ∧ NGnil d) (hl : t.length < 1000000) :
  PureIs prog 24 [.sl nl (t.map ngC) c, .ag m.cells] (walkA t m) := by
 have q0 := check_is m hm
 have q1 := valid62_is nl t c m.ins (fun d hd => (ht d hd).1) hl
 unfold walkA
 refine PureIs.of1 2 [3, 4, 5, 6, 7, 8, 9, 10, 12, 16, 22, 29, 49] func24 ntmps24 results24 fun _ => ?_
 refine EvC.a ?_ (by simp only [go_sem, Mach.cells] <;> rfl)
 refine EvC.z 0 ?_
 refine EvC.seq ?_
 apply EvC.s1
 ·apply Tr.run
  ·simp only [go_sem, Mach.cells] <;> rfl
  ·simp
  apply Tr.cons
  ·exact .ca (q0)
  apply Tr.done
  ·simp only [go_sem] <;> rfl
  ·simp
 refine EvC.a ?_
 by_cases h0 : checkM m = 0
 rotate_left
 ·rw [if_pos h0]
  refine EvC.ct ?_ (by simp only [go_sem, decide_eq_false h0] <;> rfl)
  refine EvC.a ?_
  refine EvC.rz ?_
  simp only [go_sem]
 rw [if_neg (show ¬ checkM m ≠ 0 from fun h => h h0)]
 refine EvC.cs ?_ (by simp only [go_sem, decide_eq_true h0] <;> rfl)
 have hv := Valid.of h0
 refine EvC.seq ?_
 apply EvC.s1
 ·apply Tr.run
  ·simp only [go_sem, Mach.cells] <;> rfl
  ·simp
  apply Tr.cons
  ·exact .ca (q1)
  apply Tr.done
  ·simp only [go_sem] <;> rfl
  ·simp
 obtain hvt | hvt : validT m.ins (t.map NG.nd) = false ∨ validT m.ins (t.map NG.nd) = true := by cases validT m.ins (t.map NG.nd) <;> simp
 ·rw [if_pos hvt]
  refine EvC.ct ?_ (by simp only [go_sem, hvt] <;> rfl)
  refine EvC.a ?_
  refine EvC.rz ?_
  simp only [go_sem]
 rw [if_neg (show ¬ validT m.ins (t.map NG.nd) = false by rw [hvt]; simp)]
 refine EvC.cs ?_ (by simp only [go_sem, hvt] <;> rfl)
 obtain ⟨hpos, hnd⟩ := validT_nd hvt
 rw [List.length_map] at hpos hnd
 obtain ⟨d0, hd0⟩ : ∃ d, t[0]? = some d := ⟨_, List.getElem?_eq_getElem hpos⟩
 have hg0 : (t.map ngC)[0]? = some (ngC d0) := by rw [List.getElem?_map, hd0]; rfl
 simp only [ngC, rwA] at hg0
 refine EvC.a ?_
 refine EvC.a ?_ (by simp only [go_sem, hg0, List.length_map] <;> rfl) (by simp; try omega)
 refine EvC.seq ?_
 refine EvC.block ?_
 obtain ⟨T, hT⟩ : ∃ T, T = t.map NG.nd := ⟨_, rfl⟩
 have hTl : T.length = t.length := by rw [hT, List.length_map]
 rw [← hT] at hnd ⊢
 refine EvC.loopS (σ := Nat × NG × List (List Int)) (fun g => ⟨[(0, .sl nl (t.map ngC) c), (3, .ia m.cells), (8, .tl 1 g.2.2.length g.2.2.isEmpty), (9, .rf 0 0)], [], [(0, .cells [.sl g.2.1.s.1 (g.2.1.s.2.1.map intC) g.2.1.s.2.2, .sl g.2.1.w.1 (g.2.1.w.2.1.map intC) g.2.1.w.2.2, .sl g.2.1.bn (g.2.1.bs.map bgC) g.2.1.bc]), (1, .arr 1 (g.2.2.map askC) true)], 2⟩) (fun g => t.length - g.1) (fun g => t[g.1]? = some g.2.1 ∧ (∃ f, t.length ≤ f + g.1 ∧ walkF T m f g.1 g.2.2 = walkF T m t.length 0 []) ∧ g.2.2.length ≤ g.1) [0, 3, 8, 9] 2 ?_ ?_
 ·exact ⟨[(18, 0), (14, 1)], (0, d0, []), rfl, (by simp only [go_sem, Mach.cells, List.map_nil, List.length_nil, List.isEmpty_nil] <;> rfl), hd0, ⟨t.length, Nat.le_refl _, rfl⟩, Nat.le_refl _⟩
 rintro ⟨n, d, asked⟩ ⟨hd, ⟨f, hfu, hF⟩, hal⟩
 simp only at hd hF hfu hal ⊢
 have hnl := (List.getElem?_eq_some_iff.1 hd).1
 obtain ⟨hok, hnil⟩ := ht d (List.mem_of_getElem? hd)
 have hTd : T[n]? = some d.nd := by rw [hT, List.getElem?_map, hd]; rfl
 obtain ⟨v1, v2, v3⟩ := hnd n _ hTd
 obtain ⟨f, rfl⟩ : ∃ g, f = g + 1 := ⟨f - 1, by omega⟩
 obtain ⟨⟨s1, s2, s3⟩, ⟨w1, w2, w3⟩, bn, bs, bc⟩ := d
 obtain ⟨k1, k2, k3, k4⟩ := hok
 obtain ⟨k5, k6⟩ := hnil
 simp only [NG.nd] at k1 k2 k3 k4 k5 k6 v1 v2 v3 hF ⊢
 refine EvC.seq ?_
 refine EvC.a ?_ (by simp only [go_sem, List.length_map] <;> rfl)
 by_cases hw : w2 = []
 ·rw [walkF_leaf hTd hw] at hF
  rw [← hF]
  simp only [hd]
  subst hw
  refine EvC.cf ?_
  refine EvC.exit ?_
  have q5 := cloneI_is s1 s2 s3 k1 k5
  have q6 := clipI_is s1 (s2.map intC) .unk (by simp [List.all_eq_true, intC])
  have q7 := clipW_is asked.isEmpty (asked.map askC) .unk (by simp [List.all_eq_true, askC])
  have hl2 : (asked.map askC).length = asked.length := List.length_map _
  have hn2 := norefs_ask asked
  generalize asked.map askC = A at q7 hl2 hn2 ⊢
  refine EvC.frz 1 (by simp only [go_sem, hl2, hn2] <;> rfl) ?_
  apply EvC.s1
  ·apply Tr.run
   ·simp only [go_sem, hl2] <;> rfl
   ·simp
   apply Tr.cons
   ·exact .ca (q5)
   apply Tr.run
   ·simp only [go_sem, hl2] <;> rfl
   ·simp
   apply Tr.cons
   ·exact .ca (q6)
   apply Tr.run
   ·simp only [go_sem, hl2] <;> rfl
   ·simp
   apply Tr.cons
   ·exact .ca (q7)
   apply Tr.done
   ·simp only [go_sem] <;> rfl
   ·simp
  refine EvC.rz ?_
  simp only [go_sem]
 have hwp := List.length_pos_iff.2 hw
 rw [walkF_go hTd hw] at hF
 have hw1 : w1 = false := by
  cases w1 with
  | false => rfl
  | true => exact absurd (k6 rfl) hw
 subst hw1
 refine EvC.cr ?_ (by simp only [go_sem, decide_eq_true (show (0 : Int) < w2.length by omega)] <;> rfl)
 refine EvC.block ?_
 have q5 := cloneI_is false w2 w3 k2 k6
 have q6 := clipI_is false (w2.map intC) .unk (by simp [List.all_eq_true, intC])
 have hr : room (asked.length + 1) 24 = true := by simp only [room_eq, decide_eq_true_eq]; omega
 apply EvC.s1
 ·apply Tr.run
  ·simp only [go_sem] <;> rfl
  ·simp
  apply Tr.cons
  ·exact .ca (q5)
  apply Tr.run
  ·simp only [go_sem] <;> rfl
  ·simp
  apply Tr.cons
  ·exact .ca (q6)
  apply Tr.done
  ·simp only [go_sem, List.length_map] <;> rfl
  ·simp [hr]
 have hrw := hv.rows
 have q8 := run52_is hv 0 ⟨by omega, by omega⟩ false w2 w3 v1 k2
 apply EvC.s1
 ·apply Tr.run
  ·simp only [go_sem, Mach.cells] <;> rfl
  ·simp
  apply Tr.cons
  ·exact .ca (q8)
  apply Tr.done
  ·simp only [go_sem] <;> rfl
  ·simp
 refine EvC.z 21 ?_
 have q9 := indexB_is bn bs bc 65 [.ia [.sl false ((runR m 0 w2).map intC) .unk]] rfl (fun e => decide (e.1.2.1 = runR m 0 w2)) (fun e he => walk1_is e false _ .unk (k4 e he)) k3
 apply EvC.s1
 ·apply Tr.run
  ·simp only [go_sem] <;> rfl
  ·simp
  apply Tr.cons
  ·exact .ca (q9)
  apply Tr.done
  ·simp only [go_sem] <;> rfl
  ·simp
 simp only [NG.nd] at hF
 rw [toOf_bg] at hF
 refine EvC.seq ?_
 refine EvC.a ?_
 rcases findIdxB_spec (p := fun e => decide (e.1.2.1 = runR m 0 w2)) bs 0 with ⟨f1, f2⟩ | ⟨k, b, f1, f2, f3⟩
 ·rw [f2] at hF
  rw [← hF]
  refine EvC.ct ?_ (by simp only [go_sem, f1] <;> rfl)
  refine EvC.a ?_
  refine EvC.rz ?_
  simp only [go_sem]
 have hkl := (List.getElem?_eq_some_iff.1 f2).1
 have hbo := v3 k (by rw [List.length_map]; exact hkl)
 obtain ⟨b1, b2, _, _⟩ := brOk_get hbo (show (bs.map bgB)[k]? = some (bgB b) by rw [List.getElem?_map, f2]; rfl)
 rw [f3] at hF
 simp only [Option.map_some] at hF
 obtain ⟨⟨r1, r2, r3⟩, to⟩ := b
 simp only [bgB] at b1 b2 hF
 obtain ⟨d2, hd2⟩ : ∃ d, t[to.toNat]? = some d := ⟨_, List.getElem?_eq_getElem (by omega)⟩
 have hg2 : (t.map ngC)[to.toNat]? = some (ngC d2) := by rw [List.getElem?_map, hd2]; rfl
 simp only [ngC, rwA] at hg2
 have hbg : (bs.map bgC)[k]? = some [.sl r1 (r2.map intC) r3, .sc (.int .i64 to)] := by rw [List.getElem?_map, f2]; rfl
 obtain ⟨kZ, hkZ⟩ : ∃ z : Int, z = (0 : Int) + k := ⟨_, rfl⟩
 have hkt : kZ.toNat = k := by omega
 rw [← hkZ] at f1
 refine EvC.cs ?_ (by simp only [go_sem, f1, decide_eq_false (show ¬ kZ < 0 by omega)] <;> rfl)
 refine EvC.b ?_ (by simp only [go_sem, f1, hkt, hbg, hg2, List.length_map] <;> rfl) (by simp; try omega)
 have hne : (asked ++ [w2]).isEmpty = false := by cases asked <;> rfl
 exact ⟨[(0, 0), (1, 1)], (to.toNat, d2, asked ++ [w2]), rfl, (by simp only [go_sem, hne, List.map_append, List.map_cons, List.map_nil, askC, List.length_append, List.length_cons, List.length_nil, List.length_map] <;> rfl), ⟨hd2, ⟨f, by simp only; omega, hF⟩, by simp only [List.length_append, List.length_cons, List.length_nil]; omega⟩, by simp only; omega⟩
theorem faO_nil {m : Mach} {k s i t a : Int} : ∀ {n : Nat}, (∀ o : Nat, o < n → faultB m ⟨k, s, i, t, a, o⟩ = false) → faO m k s i t a n = []
 | 0, _ => rfl
 | n + 1, h => by rw [faO, faO_nil fun o ho => h o (by omega), h n (by omega)]; rfl
theorem faA_nil {m : Mach} {k s i t : Int} : ∀ {n : Nat}, (∀ a : Nat, a < n → faO m k s i t a m.outs.toNat = []) → faA m k s i t n = []
 | 0, _ => rfl
 | n + 1, h => by rw [faA, faA_nil fun o ho => h o (by omega), h n (by omega)]; rfl
theorem faT_nil {m : Mach} {k s i : Int} : ∀ {n : Nat}, (∀ t : Nat, t < n → faA m k s i t m.ins.toNat = []) → faT m k s i n = []
 | 0, _ => rfl
 | n + 1, h => by rw [faT, faT_nil fun o ho => h o (by omega), h n (by omega)]; rfl
theorem faO_zero {m : Mach} {k s i t a : Int} : ∀ {n : Nat}, 1 ≤ n → (∀ o : Nat, 1 ≤ o → o < n → faultB m ⟨k, s, i, t, a, o⟩ = false) → faO m k s i t a n = if faultB m ⟨k, s, i, t, a, 0⟩ = true then [⟨k, s, i, t, a, 0⟩] else []
 | n + 1, _, h => by
   by_cases hn : n = 0
   ·subst hn; simp only [faO, List.nil_append]; rfl
   ·rw [faO, faO_zero (by omega) fun o h1 h2 => h o h1 (by omega), h n (by omega) (by omega)]; simp
theorem faA_zero {m : Mach} {k s i t : Int} : ∀ {n : Nat}, 1 ≤ n → (∀ a : Nat, 1 ≤ a → a < n → faO m k s i t a m.outs.toNat = []) → faA m k s i t n = faO m k s i t 0 m.outs.toNat
 | n + 1, _, h => by
   by_cases hn : n = 0
   ·subst hn; simp only [faA, List.nil_append]; rfl
   ·rw [faA, faA_zero (by omega) fun o h1 h2 => h o h1 (by omega), h n (by omega) (by omega), List.append_nil]
theorem faT_zero {m : Mach} {k s i : Int} : ∀ {n : Nat}, 1 ≤ n → (∀ t : Nat, 1 ≤ t → t < n → faA m k s i t m.ins.toNat = []) → faT m k s i n = faA m k s i 0 m.ins.toNat
 | n + 1, _, h => by
   by_cases hn : n = 0
   ·subst hn; simp only [faT, List.nil_append]; rfl
   ·rw [faT, faT_zero (by omega) fun o h1 h2 => h o h1 (by omega), h n (by omega) (by omega), List.append_nil]
theorem faT_of {m : Mach} (hv : Valid m) {k s i : Int} (hk : 0 ≤ k ∧ k ≤ 4) : faT m k s i m.rows.length = if definedB m s i = true then ofF m k s i else [] := by
 have h1 := hv.rows
 have h2 := hv.ins
 have h3 := hv.outs
 by_cases hd : definedB m s i = true
 rotate_left
 ·rw [if_neg hd]
  refine faT_nil fun t ht => faA_nil fun a ha => faO_nil fun o ho => ?_
  unfold faultB
  rw [Bool.eq_false_iff.2 hd]; simp
 rw [if_pos hd]
 obtain ⟨r, _, _, hto⟩ := step_in hv hd
 have hfb : ∀ t a o : Int, faultB m ⟨k, s, i, t, a, o⟩ = (plainB ⟨k, s, i, t, a, o⟩ && kindB m ⟨k, s, i, t, a, o⟩) := fun t a o => by
  unfold faultB
  rw [show definedB m (FA.state ⟨k, s, i, t, a, o⟩) (FA.input ⟨k, s, i, t, a, o⟩) = true from hd, Bool.true_and]
 obtain rfl | rfl | rfl | rfl | rfl : k = 0 ∨ k = 1 ∨ k = 2 ∨ k = 3 ∨ k = 4 := by omega
 ·
  rw [faT_zero h1.1 fun t ht _ => faA_nil fun a _ => faO_nil fun o _ => by rw [hfb]; simp [plainB]; omega]
  rw [faA_zero (by omega) fun a ha _ => faO_nil fun o _ => by rw [hfb]; simp [plainB]; omega]
  have : ∀ n : Nat, (n : Int) ≤ m.outs → faO m 0 s i 0 0 n = ofO 0 s i (stepM m s i).2 n := fun n => by
   induction n with
   | zero => intro _; rfl
   | succ n ih =>
     intro hn
     rw [faO, ofO, ih (by omega), hfb]
     by_cases e : (n : Int) = (stepM m s i).2
     ·simp [plainB, kindB, inN, e]
     ·have : (n : Int) < m.outs := by omega
      simp [plainB, kindB, inN, e, this]
  rw [this _ (by omega)]; rfl
 ·
  have : ∀ n : Nat, n ≤ m.rows.length → faT m 1 s i n = ofT 1 s i (stepM m s i).1 n := fun n => by
   induction n with
   | zero => intro _; rfl
   | succ n ih =>
     intro hn
     rw [faT, ofT, ih (by omega), faA_zero (by omega) fun a ha _ => faO_nil fun o _ => by rw [hfb]; simp [plainB]; omega]
     rw [faO_zero (by omega) fun o h1 _ => by rw [hfb]; simp [plainB]; omega, hfb]
     by_cases e : (n : Int) = (stepM m s i).1
     ·simp [plainB, kindB, inN, e]
     ·have : (n : Int) < m.rows.length := by omega
      simp [plainB, kindB, inN, e, this]
  rw [this _ (Nat.le_refl _)]; rfl
 ·
  rw [faT_zero h1.1 fun t ht _ => faA_nil fun a _ => faO_nil fun o _ => by rw [hfb]; simp [plainB]; omega]
  rw [faA_zero (by omega) fun a ha _ => faO_nil fun o _ => by rw [hfb]; simp [plainB]; omega]
  rw [faO_zero (by omega) fun o h1 _ => by rw [hfb]; simp [plainB]; omega, hfb]
  simp [plainB, kindB, ofF]
 ·
  have : ∀ n : Nat, n ≤ m.rows.length → faT m 3 s i n = ofT 3 s i (stepM m s i).1 n := fun n => by
   induction n with
   | zero => intro _; rfl
   | succ n ih =>
     intro hn
     rw [faT, ofT, ih (by omega), faA_zero (by omega) fun a ha _ => faO_nil fun o _ => by rw [hfb]; simp [plainB]; omega]
     rw [faO_zero (by omega) fun o h1 _ => by rw [hfb]; simp [plainB]; omega, hfb]
     have : (n : Int) < m.rows.length := by omega
     simp [plainB, kindB, inN, this]
  rw [this _ (Nat.le_refl _)]; rfl
 ·
  rw [faT_zero h1.1 fun t ht _ => faA_nil fun a _ => faO_nil fun o _ => by rw [hfb]; simp [plainB]; omega]
  have hO : ∀ (a n : Nat), (a : Int) < m.ins → (n : Int) ≤ m.outs → faO m 4 s i 0 a n = ofDo s i a (stepM m (stepM m s i).1 a) n := fun a n => by
   induction n with
   | zero => intro _ _; rfl
   | succ n ih =>
     intro ha hn
     have hda : definedB m (stepM m s i).1 a = !decide ((stepM m (stepM m s i).1 a).1 = -1) := by
      unfold definedB
      rw [decide_eq_true hto.1, decide_eq_true hto.2, decide_eq_true (Int.natCast_nonneg a), decide_eq_true ha]; simp
     rw [faO, ofDo, ih ha (by omega), hfb]
     have hnl : (n : Int) < m.outs := by omega
     by_cases e1 : (stepM m (stepM m s i).1 a).1 = -1
     ·simp [plainB, kindB, inN, hda, e1]
     ·by_cases e : (n : Int) = (stepM m (stepM m s i).1 a).2
      ·simp [plainB, kindB, inN, hda, e1, e]
      ·simp [plainB, kindB, inN, hda, e1, e, hnl]
  have hA : ∀ n : Nat, (n : Int) ≤ m.ins → faA m 4 s i 0 n = ofD m s i (stepM m s i).1 n := fun n => by
   induction n with
   | zero => intro _; rfl
   | succ n ih => intro hn; rw [faA, ofD, ih (by omega), hO n _ (by omega) (by omega)]
  rw [hA _ (by omega)]; rfl
theorem alE_app (m : Mach) (k : Int) (a b : List (Int × Int)) : alE m k (a ++ b) = alE m k a ++ alE m k b := List.flatMap_append
theorem faI_of {m : Mach} (hv : Valid m) {k s : Int} (hk : 0 ≤ k ∧ k ≤ 4) : ∀ n : Nat, faI m k s n = alE m k (egI m s n)
 | 0 => rfl
 | n + 1 => by
   rw [faI, egI, faI_of hv hk n, alE_app, faT_of hv hk]
   split
   ·simp [alE]
   ·simp [alE]
theorem faS_of {m : Mach} (hv : Valid m) {k : Int} (hk : 0 ≤ k ∧ k ≤ 4) : ∀ n : Nat, faS m k n = alE m k (egS m n)
 | 0 => rfl
 | n + 1 => by rw [faS, egS, faS_of hv hk n, alE_app, faI_of hv hk]
theorem allF_alF {m : Mach} (hv : Valid m) {ks : List Int} (hk : ∀ k ∈ ks, 0 ≤ k ∧ k ≤ 4) : allF m ks = alF m ks := by
 have : ∀ n, n ≤ ks.length → faK m ks n = alF m (ks.take n) := fun n => by
  induction n with
  | zero => intro _; rfl
  | succ n ih =>
    intro hn
    have he : ks[n]? = some ks[n] := List.getElem?_eq_getElem hn
    rw [faK, ih (by omega), he, List.take_succ_eq_append_getElem hn]
    simp only [Option.getD_some]
    rw [faS_of hv (hk _ (List.getElem_mem hn))]
    simp only [alF, List.flatMap_append, List.flatMap_cons, List.flatMap_nil, List.append_nil]; rfl
 rw [allF, this _ (Nat.le_refl _), List.take_length]
theorem kLast_in : ∀ {ks : List Int} {l b : Int}, kLast ks b = some l → b ≤ l ∧ ∀ k ∈ ks, b < k ∧ k ≤ 4 ∧ k ≤ l
 | [], l, b, h => by cases h; exact ⟨Int.le_refl _, fun k h => by cases h⟩
 | k :: ks, l, b, h => by
   rw [kLast] at h
   split at h
   ·cases h
   ·rename_i h1
    obtain ⟨h2, h3⟩ := kLast_in h
    refine ⟨by omega, fun j hj => ?_⟩
    rcases List.mem_cons.1 hj with rfl | hj
    ·omega
    ·have := h3 j hj; omega
theorem faK_kind {m : Mach} {ks : List Int} {f : FA} (hv : Valid m) (hk : ∀ k ∈ ks, 0 ≤ k ∧ k ≤ 4) (h : f ∈ alF m ks) : faultB m f = true ∧ f.kind ∈ ks := by
 refine ⟨by rw [← allF_alF hv hk] at h; exact faK_mem h, ?_⟩
 have hof : ∀ k s i, ∀ f ∈ ofF m k s i, f.kind = k := by
  intro k s i f hf
  have hO : ∀ n e1, ∀ f ∈ ofO k s i e1 n, f.kind = k := fun n e1 => by
   induction n with
   | zero => intro f h; cases h
   | succ n ih =>
     intro f h
     rw [ofO] at h
     rcases List.mem_append.1 h with h | h
     ·exact ih f h
     ·split at h
      ·rw [List.mem_singleton] at h; subst h; rfl
      ·cases h
  have hT : ∀ n e1, ∀ f ∈ ofT k s i e1 n, f.kind = k := fun n e1 => by
   induction n with
   | zero => intro f h; cases h
   | succ n ih =>
     intro f h
     rw [ofT] at h
     rcases List.mem_append.1 h with h | h
     ·exact ih f h
     ·split at h
      ·rw [List.mem_singleton] at h; subst h; rfl
      ·cases h
  unfold ofF at hf
  split at hf
  ·exact hO _ _ f hf
  split at hf
  ·exact hT _ _ f hf
  split at hf
  ·rw [List.mem_singleton] at hf; subst hf; rfl
  split at hf
  ·rename_i h4
   subst h4
   have hDo : ∀ a e n, ∀ f ∈ ofDo s i a e n, f.kind = 4 := fun a e n => by
    induction n with
    | zero => intro f h; cases h
    | succ n ih =>
      intro f h
      rw [ofDo] at h
      rcases List.mem_append.1 h with h | h
      ·exact ih f h
      ·split at h
       ·rw [List.mem_singleton] at h; subst h; rfl
       ·cases h
   have hD : ∀ t n, ∀ f ∈ ofD m s i t n, f.kind = 4 := fun t n => by
    induction n with
    | zero => intro f h; cases h
    | succ n ih =>
      intro f h
      rw [ofD] at h
      rcases List.mem_append.1 h with h | h
      ·exact ih f h
      ·exact hDo _ _ _ f h
   exact hD _ _ f hf
  ·cases hf
 unfold alF at h
 rw [List.mem_flatMap] at h
 obtain ⟨k, hk1, hk2⟩ := h
 unfold alE at hk2
 rw [List.mem_flatMap] at hk2
 obtain ⟨p, _, hp⟩ := hk2
 rw [hof k _ _ f hp]; exact hk1
theorem alF_ok {m : Mach} {ks : List Int} {most : Int} (h : readyR m ks most = 0) : ∀ f ∈ alF m ks, checkF m f = 0 := by
 obtain ⟨hc, _, _, l, hl⟩ := readyR_ok h
 have hv := Valid.of hc
 have hkl := kLast_in hl
 intro f hf
 obtain ⟨h1, h2⟩ := faK_kind hv (fun k hk => by have := hkl.2 k hk; omega) hf
 have := hkl.2 _ h2
 unfold checkF
 rw [if_pos h1]
 unfold readyR at h
 rw [if_neg (fun h => h hc), hl] at h
 simp only at h
 split at h
 ·cases h
 ·split at h
  ·cases h
  ·rename_i h3
   rw [if_neg (by omega)]
theorem inp119_is (x n : Int) : PureIs prog 119 [.sc (.int .i64 x), .ia [.sc (.int .i64 n)]] (.sc (.bool (decide (x < 0) || decide (n ≤ x)))) := by
 refine PureIs.of1 2 [3] func119 ntmps119 results119 fun _ => ?_
 refine EvC.a ?_
 apply EvC.seq
 apply EvC.trd
 ·simp only [go_sem] <;> rfl
 ·simp
 refine EvC.rz ?_
 simp only [go_sem]
 by_cases h : x < 0 <;> simp [h]
def badW (n : Int) (w : List Int) : Bool := w.any fun x => decide (x < 0) || decide (n ≤ x)
theorem inputs112_is (nl : Bool) (w : List Int) (c : Cp) (n : Int) (hl : w.length < 1000000) : PureIs prog 112 [.sl nl (w.map intC) c, .sc (.int .i64 n)] (.sc (.bool (!badW n w))) := by
 have q := containsInt_is nl w c 119 [.ia [.sc (.int .i64 n)]] rfl (fun x => decide (x < 0) || decide (n ≤ x)) (fun x _ => inp119_is x n) hl
 refine PureIs.of1 2 [3, 4] func112 ntmps112 results112 fun _ => ?_
 refine EvC.a ?_
 refine EvC.z 0 ?_
 apply EvC.s1
 ·apply Tr.run
  ·simp only [go_sem] <;> rfl
  ·simp
  apply Tr.cons
  ·exact .ca (q)
  apply Tr.done
  ·simp only [go_sem] <;> rfl
  ·simp
 refine EvC.rz ?_
 simp only [go_sem]
 rfl
def respOk (o : Int) : Bool → List Int → Bool
 | _, [] => true
 | e, x :: r => if x < -1 ∨ o ≤ x ∨ (e = true ∧ x ≠ -1) then false else respOk o (decide (x = -1)) r
def trOk (i o : Int) (t : TR) : Bool := decide (t.r.length = t.w.length) && (!badW i t.w && respOk o false t.r)
set_option maxHeartbeats 1000000 in
theorem trvalid_is (t : TR) (i o : Int) (hw : t.w.length < 1000000) (hr : t.r.length < 1000000) : PureIs prog 99 [.ag (traceC t), .sc (.int .i64 i), .sc (.int .i64 o)] (.sc (.bool (trOk i o t))) := by
 obtain ⟨w, r, wn, rn⟩ := t
 simp only at hw hr
 have q := inputs112_is wn w .unk i hw
 refine PureIs.of1 4 [6, 7, 9, 23, 25, 26, 27, 28, 44] func99 ntmps99 results99 fun _ => ?_
 refine EvC.a ?_ (by simp only [go_sem, traceC] <;> rfl)
 refine EvC.z 0 ?_
 refine EvC.seq ?_
 by_cases c1 : (r.length : Int) = w.length
 rotate_left
 ·apply EvC.s1
  ·apply Tr.run
   ·simp only [go_sem, List.length_map, decide_eq_false c1] <;> rfl
   ·simp
   apply Tr.cons
   ·exact .skipv (.sc (.bool true)) rfl rfl (by simp only [go_sem] <;> rfl) (by simp only [go_sem] <;> rfl)
   apply Tr.done
   ·simp only [go_sem] <;> rfl
   ·simp
  refine EvC.ct ?_
  refine EvC.a ?_
  refine EvC.rz ?_
  simp only [go_sem]
  unfold trOk
  rw [decide_eq_false (show ¬ r.length = w.length by omega)]; rfl
 have c1' : r.length = w.length := by omega
 apply EvC.s1
 ·apply Tr.run
  ·simp only [go_sem, List.length_map, decide_eq_true c1] <;> rfl
  ·simp
  apply Tr.cons
  ·exact .cg (q)
  apply Tr.done
  ·simp only [go_sem] <;> rfl
  ·simp
 obtain hb | hb : badW i w = true ∨ badW i w = false := by cases badW i w <;> simp
 ·refine EvC.ct ?_ (by simp only [go_sem, hb] <;> rfl)
  refine EvC.a ?_
  refine EvC.rz ?_
  simp only [go_sem]
  unfold trOk
  rw [hb, Bool.not_true, Bool.false_and, Bool.and_false]
 refine EvC.cs ?_ (by simp only [go_sem, hb] <;> rfl)
 have hT : trOk i o ⟨w, r, wn, rn⟩ = respOk o false r := by
  unfold trOk
  rw [hb, decide_eq_true c1']; rfl
 rw [hT]
 refine EvC.a ?_
 refine EvC.seq ?_
 refine EvC.a ?_ (by simp only [go_sem, List.length_map] <;> rfl)
 refine EvC.block ?_
 refine EvC.loopS (σ := Nat × Bool) (fun p => ⟨[(2, .sc (.int .i64 o)), (7, .sc (.bool p.2)), (25, .sl rn (r.map intC) .unk), (26, .sc (.int .i64 r.length)), (27, .sc (.int .i64 p.1))], [], [], 0⟩) (fun p => r.length - p.1) (fun p => p.1 ≤ r.length ∧ respOk o false r = respOk o p.2 (r.drop p.1)) [2, 7, 25, 26, 27] 0 ?_ ?_
 ·exact ⟨[], (0, false), rfl, (by simp only [go_sem, Int.natCast_zero] <;> rfl), Nat.zero_le _, rfl⟩
 rintro ⟨k, e⟩ ⟨h1, h2⟩
 simp only at h1 h2 ⊢
 refine EvC.a ?_
 refine EvC.seq ?_
 refine EvC.cond (by simp only [go_sem] <;> rfl) (fun hc => ?_) (fun hc => ?_)
 rotate_left
 ·refine EvC.exit ?_
  obtain rfl : k = r.length := by have : ¬ k < r.length := (by simpa using hc); omega
  rw [List.drop_length] at h2
  refine EvC.a ?_
  refine EvC.rz ?_
  simp only [go_sem]
  rw [h2]; cases e <;> rfl
 have hkl : k < r.length := by simpa using hc
 clear hc
 have he : r[k]? = some r[k] := List.getElem?_eq_getElem hkl
 have hd : r.drop k = r[k] :: r.drop (k + 1) := List.drop_eq_getElem_cons hkl
 generalize r[k] = x at he hd
 rw [hd, respOk] at h2
 have hkt : ((k : Int)).toNat = k := Int.toNat_natCast k
 refine EvC.skip ?_
 refine EvC.seq ?_
 refine EvC.block ?_
 refine EvC.a ?_ (by simp only [go_sem, he, intC, hkt, List.length_map] <;> rfl) (by simp; try omega)
 refine EvC.seq ?_
 by_cases d1 : x < -1
 ·rw [if_pos (.inl d1)] at h2
  apply EvC.seq
  apply EvC.trd
  ·simp only [go_sem, decide_eq_true d1] <;> rfl
  ·simp
  refine EvC.ct ?_
  refine EvC.a ?_
  refine EvC.rz ?_
  simp only [go_sem]
  rw [h2]
 by_cases d2 : o ≤ x
 ·rw [if_pos (.inr (.inl d2))] at h2
  apply EvC.seq
  apply EvC.trd
  ·simp only [go_sem, decide_eq_false d1, decide_eq_true d2] <;> rfl
  ·simp
  refine EvC.ct ?_
  refine EvC.a ?_
  refine EvC.rz ?_
  simp only [go_sem]
  rw [h2]
 cases e with
 | false =>
   rw [if_neg (by simp; omega)] at h2
   apply EvC.seq
   apply EvC.trd
   ·simp only [go_sem, decide_eq_false d1, decide_eq_false d2] <;> rfl
   ·simp
   refine EvC.cs ?_
   refine EvC.b ?_
   refine EvC.b ?_ (hok := by exact inI64_of (by omega) (by omega))
   exact ⟨[], (k + 1, decide (x = -1)), rfl, (by simp only [go_sem, Int.natCast_add, Int.natCast_one] <;> rfl), ⟨hkl, h2⟩, by simp only; omega⟩
 | true =>
   by_cases d3 : x = -1
   ·rw [if_neg (by simp [d3]; omega)] at h2
    apply EvC.seq
    apply EvC.trd
    ·simp only [go_sem, decide_eq_false d1, decide_eq_false d2, decide_eq_true d3] <;> rfl
    ·simp
    refine EvC.cs ?_
    refine EvC.b ?_
    refine EvC.b ?_ (hok := by exact inI64_of (by omega) (by omega))
    exact ⟨[], (k + 1, decide (x = -1)), rfl, (by simp only [go_sem, Int.natCast_add, Int.natCast_one] <;> rfl), ⟨hkl, h2⟩, by simp only; omega⟩
   ·rw [if_pos (.inr (.inr ⟨rfl, d3⟩))] at h2
    apply EvC.seq
    apply EvC.trd
    ·simp only [go_sem, decide_eq_false d1, decide_eq_false d2, decide_eq_false d3] <;> rfl
    ·simp
    refine EvC.ct ?_
    refine EvC.a ?_
    refine EvC.rz ?_
    simp only [go_sem]
    rw [h2]
def sumT (L : List TR) : Nat := (L.map fun t => t.w.length).sum
def withinB (i o : Int) (L : List TR) : Bool := decide (i ≤ 16) && (decide (o ≤ 16) && (decide (L.length ≤ 1024) && (L.all (fun t => decide (t.w.length ≤ 256)) && decide (sumT L ≤ 65536))))
theorem sumT_next {L : List TR} {i : Nat} {t : TR} (h : L[i]? = some t) : sumT (L.take (i + 1)) = sumT (L.take i) + t.w.length := by
 obtain ⟨hi, he⟩ := List.getElem?_eq_some_iff.1 h
 rw [List.take_succ_eq_append_getElem hi, he]; simp [sumT]
theorem sumT_take (L : List TR) (i : Nat) : sumT (L.take i) ≤ sumT L := by
 have h : L.take i ++ L.drop i = L := List.take_append_drop i L
 have : sumT L = sumT (L.take i) + sumT (L.drop i) := by
  conv => lhs; rw [← h]
  simp only [sumT, List.map_append, List.sum_append]
 omega
structure LogSm (L : List TR) : Prop where
 len : L.length < 1000000
 w : ∀ t ∈ L, t.w.length < 1000000
 r : ∀ t ∈ L, t.r.length < 1000000
def logC (i o : Int) (ln : Bool) (L : List TR) : List AV := [.sc (.int .i64 i), .sc (.int .i64 o), .sl ln (L.map traceC) .unk]
theorem within98_is (i o : Int) (ln : Bool) (L : List TR) (hL : LogSm L) : PureIs prog 98 [.ag (logC i o ln L)] (.sc (.bool (withinB i o L))) := by
 have h1 := hL.len
 refine PureIs.of1 6 [7, 8, 9, 10, 30] func98 ntmps98 results98 fun _ => ?_
 refine EvC.a ?_ (by simp only [go_sem, logC] <;> rfl)
 refine EvC.z 0 ?_
 refine EvC.a ?_
 refine EvC.seq ?_
 refine EvC.a ?_ (by simp only [go_sem, List.length_map] <;> rfl)
 refine EvC.block ?_
 refine EvC.loopS (σ := Nat) (fun k => ⟨[(1, .ia [.sc (.int .i64 i), .sc (.int .i64 o), .sl ln (L.map traceC) .unk]), (3, .sc (.int .i64 (sumT (L.take k) : Nat))), (7, .sl ln (L.map traceC) .unk), (8, .sc (.int .i64 L.length)), (9, .sc (.int .i64 k))], [], [], 0⟩) (fun k => L.length - k) (fun k => k ≤ L.length ∧ k ≤ 1024 ∧ sumT (L.take k) ≤ 65536 ∧ ∀ t ∈ L.take k, t.w.length ≤ 256) [1, 3, 7, 8, 9] 0 ?_ ?_
 ·exact ⟨[], 0, rfl, (by simp only [go_sem, Int.natCast_zero, List.take_zero, sumT, List.map_nil, List.sum_nil] <;> rfl), Nat.zero_le _, Nat.zero_le _, Nat.zero_le _, fun t h => by cases h⟩
 rintro k ⟨h2, h3, h4, h5⟩
 refine EvC.a ?_
 refine EvC.seq ?_
 refine EvC.cond (by simp only [go_sem] <;> rfl) (fun hc => ?_) (fun hc => ?_)
 rotate_left
 ·refine EvC.exit ?_
  obtain rfl : k = L.length := by have : ¬ k < L.length := (by simpa using hc); omega
  rw [List.take_length] at h4 h5
  have hw : withinB i o L = (decide (i ≤ 16) && decide (o ≤ 16)) := by
   unfold withinB
   rw [decide_eq_true h3, decide_eq_true h4, List.all_eq_true.2 fun t ht => decide_eq_true (h5 t ht)]; simp
  by_cases c1 : i ≤ 16
  ·apply EvC.seq
   apply EvC.trd
   ·simp only [go_sem, decide_eq_true c1] <;> rfl
   ·simp
   refine EvC.rz ?_
   simp only [go_sem]
   rw [hw, decide_eq_true c1]; rfl
  ·apply EvC.seq
   apply EvC.trd
   ·simp only [go_sem, decide_eq_false c1] <;> rfl
   ·simp
   refine EvC.rz ?_
   simp only [go_sem]
   rw [hw, decide_eq_false c1]; rfl
 have hkl : k < L.length := by simpa using hc
 clear hc
 have he : L[k]? = some L[k] := List.getElem?_eq_getElem hkl
 have hm := List.getElem_mem hkl
 have htm : L.take (k + 1) = L.take k ++ [L[k]] := List.take_succ_eq_append_getElem hkl
 generalize L[k] = t at he hm htm
 have hwl := hL.w t hm
 have hs := sumT_next he
 have hle := sumT_take L (k + 1)
 obtain ⟨kZ, hkZ⟩ : ∃ z : Int, z = (k : Int) := ⟨_, rfl⟩
 have hkt : kZ.toNat = k := by omega
 have hsi : ((sumT (L.take k) : Nat) : Int) + (t.w.length : Int) = ((sumT (L.take (k + 1)) : Nat) : Int) := by omega
 have hI : inI64 ((sumT (L.take (k + 1)) : Nat) : Int) = true := inI64_of (by omega) (by omega)
 rw [← hkZ]
 refine EvC.skip ?_
 refine EvC.seq ?_
 refine EvC.block ?_
 refine EvC.a ?_ (by simp only [go_sem, he, hkt, traceC, List.length_map] <;> rfl) (by simp; try omega)
 refine EvC.z 4 ?_
 refine EvC.a ?_ (by simp only [go_sem, List.length_map, hsi] <;> rfl) (by simp [hI])
 have hno : ¬ withinB i o L = true → withinB i o L = false := fun h => Bool.eq_false_iff.2 h
 by_cases c1 : (1024 : Int) ≤ kZ
 ·apply EvC.seq
  apply EvC.trd
  ·simp only [go_sem, decide_eq_true c1, List.length_map] <;> rfl
  ·simp
  refine EvC.ct ?_
  refine EvC.a ?_
  refine EvC.rz ?_
  simp only [go_sem]
  rw [hno fun h => by simp only [withinB, Bool.and_eq_true, decide_eq_true_eq] at h; omega]
 by_cases c2 : (256 : Int) < t.w.length
 ·apply EvC.seq
  apply EvC.trd
  ·simp only [go_sem, decide_eq_false c1, decide_eq_true c2, List.length_map] <;> rfl
  ·simp
  refine EvC.ct ?_
  refine EvC.a ?_
  refine EvC.rz ?_
  simp only [go_sem]
  rw [hno fun h => by
   simp only [withinB, Bool.and_eq_true, decide_eq_true_eq, List.all_eq_true] at h
   have := h.2.2.2.1 t hm; omega]
 by_cases c3 : (65536 : Int) < ((sumT (L.take (k + 1)) : Nat) : Int)
 ·apply EvC.seq
  apply EvC.trd
  ·simp only [go_sem, decide_eq_false c1, decide_eq_false c2, decide_eq_true c3, List.length_map] <;> rfl
  ·simp
  refine EvC.ct ?_
  refine EvC.a ?_
  refine EvC.rz ?_
  simp only [go_sem]
  rw [hno fun h => by simp only [withinB, Bool.and_eq_true, decide_eq_true_eq] at h; omega]
 apply EvC.seq
 apply EvC.trd
 ·simp only [go_sem, decide_eq_false c1, decide_eq_false c2, decide_eq_false c3, List.length_map] <;> rfl
 ·simp
 refine EvC.cs ?_
 refine EvC.b ?_ (hok := by exact inI64_of (by omega) (by omega))
 refine ⟨[], k + 1, rfl, (by rw [hkZ]; simp only [go_sem, Int.natCast_add, Int.natCast_one] <;> rfl), ⟨hkl, by omega, by omega, fun u hu => ?_⟩, by omega⟩
 rw [htm] at hu
 rcases List.mem_append.1 hu with hu | hu
 ·exact h5 u hu
 ·rw [List.mem_singleton] at hu; subst hu; omega
def checkL (i o : Int) (L : List TR) : Int := if withinB i o L = false then 3 else if i < 1 ∨ o < 1 then 1 else if L.all (trOk i o) = true then 0 else 1
theorem check74_is (i o : Int) (ln : Bool) (L : List TR) (hL : LogSm L) : PureIs prog 74 [.ag (logC i o ln L)] (.sc (.int .i64 (checkL i o L))) := by
 have h1 := hL.len
 have hW := within98_is i o ln L hL
 unfold logC at hW
 unfold checkL
 refine PureIs.of1 3 [4, 7, 15, 17, 18, 19, 20, 29] func74 ntmps74 results74 fun _ => ?_
 refine EvC.a ?_ (by simp only [go_sem, logC] <;> rfl)
 refine EvC.z 0 ?_
 refine EvC.seq ?_
 apply EvC.s1
 ·apply Tr.run
  ·simp only [go_sem] <;> rfl
  ·simp
  apply Tr.cons
  ·exact .ca (hW)
  apply Tr.done
  ·simp only [go_sem] <;> rfl
  ·simp
 obtain hb | hb : withinB i o L = false ∨ withinB i o L = true := by cases withinB i o L <;> simp
 ·rw [if_pos hb]
  refine EvC.ct ?_ (by simp only [go_sem, hb] <;> rfl)
  refine EvC.a ?_
  refine EvC.rz ?_
  simp only [go_sem]
 rw [if_neg (show ¬ withinB i o L = false by rw [hb]; simp)]
 refine EvC.cs ?_ (by simp only [go_sem, hb] <;> rfl)
 refine EvC.seq ?_
 by_cases c1 : i < 1
 ·rw [if_pos (show i < 1 ∨ o < 1 from .inl c1)]
  apply EvC.seq
  apply EvC.trd
  ·simp only [go_sem, decide_eq_true c1] <;> rfl
  ·simp
  refine EvC.ct ?_
  refine EvC.a ?_
  refine EvC.rz ?_
  simp only [go_sem]
 by_cases c2 : o < 1
 ·rw [if_pos (show i < 1 ∨ o < 1 from .inr c2)]
  apply EvC.seq
  apply EvC.trd
  ·simp only [go_sem, decide_eq_false c1, decide_eq_true c2] <;> rfl
  ·simp
  refine EvC.ct ?_
  refine EvC.a ?_
  refine EvC.rz ?_
  simp only [go_sem]
 rw [if_neg (show ¬ (i < 1 ∨ o < 1) by omega)]
 apply EvC.seq
 apply EvC.trd
 ·simp only [go_sem, decide_eq_false c1, decide_eq_false c2] <;> rfl
 ·simp
 refine EvC.cs ?_
 refine EvC.seq ?_
 refine EvC.a ?_ (by simp only [go_sem, List.length_map] <;> rfl)
 refine EvC.block ?_
 refine EvC.loopS (σ := Nat) (fun k => ⟨[(1, .ia [.sc (.int .i64 i), .sc (.int .i64 o), .sl ln (L.map traceC) .unk]), (17, .sl ln (L.map traceC) .unk), (18, .sc (.int .i64 L.length)), (19, .sc (.int .i64 k))], [], [], 0⟩) (fun k => L.length - k) (fun k => k ≤ L.length ∧ L.all (trOk i o) = (L.drop k).all (trOk i o)) [1, 17, 18, 19] 0 ?_ ?_
 ·exact ⟨[], 0, rfl, (by simp only [go_sem, List.length_map, Int.natCast_zero] <;> rfl), Nat.zero_le _, rfl⟩
 rintro k ⟨h2, h3⟩
 refine EvC.a ?_
 refine EvC.seq ?_
 refine EvC.cond (by simp only [go_sem] <;> rfl) (fun hc => ?_) (fun hc => ?_)
 rotate_left
 ·refine EvC.exit ?_
  obtain rfl : k = L.length := by have : ¬ k < L.length := (by simpa using hc); omega
  rw [List.drop_length] at h3
  refine EvC.a ?_
  refine EvC.rz ?_
  simp only [go_sem]
  rw [h3]; rfl
 have hkl : k < L.length := by simpa using hc
 clear hc
 have he : L[k]? = some L[k] := List.getElem?_eq_getElem hkl
 have hd : L.drop k = L[k] :: L.drop (k + 1) := List.drop_eq_getElem_cons hkl
 have hm := List.getElem_mem hkl
 generalize L[k] = t at he hd hm
 rw [hd, List.all_cons] at h3
 have hV := trvalid_is t i o (hL.w t hm) (hL.r t hm)
 unfold traceC at hV
 have hkt : ((k : Int)).toNat = k := Int.toNat_natCast k
 refine EvC.skip ?_
 refine EvC.seq ?_
 refine EvC.block ?_
 refine EvC.a ?_ (by simp only [go_sem, he, hkt, traceC, List.length_map] <;> rfl) (by simp; try omega)
 refine EvC.z 3 ?_
 apply EvC.s1
 ·apply Tr.run
  ·simp only [go_sem] <;> rfl
  ·simp
  apply Tr.cons
  ·exact .ca (hV)
  apply Tr.done
  ·simp only [go_sem] <;> rfl
  ·simp
 obtain hx | hx : trOk i o t = false ∨ trOk i o t = true := by cases trOk i o t <;> simp
 ·refine EvC.ct ?_ (by simp only [go_sem, hx] <;> rfl)
  refine EvC.a ?_
  refine EvC.rz ?_
  simp only [go_sem]
  rw [h3, hx]; rfl
 refine EvC.cs ?_ (by simp only [go_sem, hx] <;> rfl)
 refine EvC.b ?_ (hok := by exact inI64_of (by omega) (by omega))
 exact ⟨[], k + 1, rfl, (by simp only [go_sem, Int.natCast_add, Int.natCast_one] <;> rfl), ⟨hkl, by rw [h3, hx]; rfl⟩, by omega⟩
theorem one_is (wn : Bool) (w : List Int) (wc : Cp) (rn : Bool) (r : List Int) (rc : Cp) : PureIs prog 41 [.sl wn (w.map intC) wc, .sl rn (r.map intC) rc] (.ag [.sc (.int .i64 2), .sc (.int .i64 2), .sl false [[.sl wn (w.map intC) wc, .sl rn (r.map intC) rc]] .full]) := by
 refine PureIs.of1 2 [4] func41 ntmps41 results41 fun _ => ?_
 refine EvC.a ?_
 refine EvC.a ?_
 refine EvC.rz ?_
 simp only [go_sem]
instance : DecidableEq FA := fun a b => decidable_of_iff (a.kind = b.kind ∧ a.state = b.state ∧ a.input = b.input ∧ a.to = b.to ∧ a.at' = b.at' ∧ a.out = b.out) ⟨fun h => by obtain ⟨a1, a2, a3, a4, a5, a6⟩ := a; obtain ⟨b1, b2, b3, b4, b5, b6⟩ := b; simp only at h; obtain ⟨rfl, rfl, rfl, rfl, rfl, rfl⟩ := h; rfl, fun h => by subst h; exact ⟨rfl, rfl, rfl, rfl, rfl, rfl⟩⟩
theorem eq_FA (x y : FA) : (decide (x.kind = y.kind) && (decide (x.state = y.state) && (decide (x.input = y.input) && (decide (x.to = y.to) && (decide (x.at' = y.at') && decide (x.out = y.out)))))) = decide (x = y) := by
 obtain ⟨a1, a2, a3, a4, a5, a6⟩ := x
 obtain ⟨b1, b2, b3, b4, b5, b6⟩ := y
 simp
theorem sameF_is (an : Bool) (a : List FA) (ac : Cp) (bn : Bool) (b : List FA) (bc : Cp) (hl : a.length < 1000000) : PureIs prog 13 [.sl an (a.map FA.cells) ac, .sl bn (b.map FA.cells) bc] (.sc (.bool (decide (a = b)))) := by
 refine PureIs.of1 2 [4, 5, 10, 14, 25] func13 ntmps13 results13 fun _ => ?_
 refine EvC.a ?_
 refine EvC.seq ?_
 refine EvC.a ?_ (by simp only [go_sem, List.length_map] <;> rfl)
 by_cases c1 : a.length = b.length
 rotate_left
 ·refine EvC.ct ?_ (by simp only [go_sem, decide_eq_false (show ¬ (a.length : Int) = b.length by omega)] <;> rfl)
  refine EvC.a ?_
  refine EvC.rz ?_
  simp only [go_sem]
  rw [decide_eq_false (fun e => c1 (by rw [e]))]
 refine EvC.cs ?_ (by simp only [go_sem, decide_eq_true (show (a.length : Int) = b.length by omega)] <;> rfl)
 refine EvC.seq ?_
 refine EvC.a ?_
 refine EvC.block ?_
 refine EvC.loopS (σ := Nat) (fun k => ⟨[(0, .sl an (a.map FA.cells) ac), (1, .sl bn (b.map FA.cells) bc), (5, .sc (.int .i64 k))], [], [], 0⟩) (fun k => a.length - k) (fun k => k ≤ a.length ∧ a.take k = b.take k) [0, 1, 5] 0 ?_ ?_
 ·exact ⟨[], 0, rfl, (by simp only [go_sem, Int.natCast_zero] <;> rfl), Nat.zero_le _, rfl⟩
 rintro k ⟨h1, h2⟩
 refine EvC.seq ?_
 refine EvC.a ?_ (by simp only [go_sem, List.length_map] <;> rfl)
 refine EvC.cond (by simp only [go_sem] <;> rfl) (fun hc => ?_) (fun hc => ?_)
 rotate_left
 ·refine EvC.exit ?_
  obtain rfl : k = a.length := by have : ¬ k < a.length := (by simpa using hc); omega
  rw [List.take_length, c1, List.take_length] at h2
  refine EvC.a ?_
  refine EvC.rz ?_
  simp only [go_sem]
  rw [decide_eq_true h2]
 have hkl : k < a.length := by simpa using hc
 clear hc
 have he : a[k]? = some a[k] := List.getElem?_eq_getElem hkl
 have hf : b[k]? = some b[k] := List.getElem?_eq_getElem (by omega)
 have hd : a.take (k + 1) = a.take k ++ [a[k]] := List.take_succ_eq_append_getElem hkl
 have hd2 : b.take (k + 1) = b.take k ++ [b[k]] := List.take_succ_eq_append_getElem (by omega)
 generalize a[k] = x at he hd
 generalize b[k] = y at hf hd2
 have hkt : ((k : Int)).toNat = k := Int.toNat_natCast k
 refine EvC.skip ?_
 refine EvC.seq ?_
 refine EvC.block ?_
 have heq := eq_FA x y
 apply EvC.seq
 apply EvC.drd mixed
 ·simp only [go_sem, he, hf, FA.cells, hkt, heq, List.length_map] <;> rfl
 ·simp; try omega
 ·kernel_rfl
 by_cases hxy : x = y
 rotate_left
 ·refine EvC.ct ?_ (by simp only [go_sem, heq, decide_eq_false hxy] <;> rfl)
  refine EvC.a ?_
  refine EvC.rz ?_
  simp only [go_sem]
  rw [decide_eq_false (fun e => hxy (by subst e; rw [he] at hf; exact Option.some.inj hf))]
 refine EvC.cs ?_ (by simp only [go_sem, heq, decide_eq_true hxy] <;> rfl)
 refine EvC.b ?_ (hok := by exact inI64_of (by omega) (by omega))
 exact ⟨[], k + 1, rfl, (by simp only [go_sem, Int.natCast_add, Int.natCast_one] <;> rfl), ⟨hkl, by rw [hd, hd2, h2, hxy]⟩, by omega⟩
def bit8 (x : Int) (k : Nat) : Bool := decide (shiftOf .shr .u8 x k % 2 = 1)
def kindR (x : Int) (k : Nat) : List Int := ((List.range k).filter (bit8 x)).map fun i : Nat => (i : Int)
structure LX where
 x : LM
 kinds : Int
 fN : Int
 none : Bool
 wn : Bool
 ws : List (Bool × List Int)
 wc : Cp
def LX.cells (g : LX) : List AV := [.sc (.int .u8 g.x.st), .sc (.int .u8 g.x.ins), .sc (.int .u8 g.x.outs), .sc (.bool g.x.part), .sl g.x.nl (g.x.es.map u16C) g.x.cap, .sc (.int .u8 g.kinds), .sc (.int .u16 g.fN), .sc (.bool g.none), .sl g.wn (g.ws.map wbR) g.wc]
structure LX.Ok (g : LX) : Prop where
 x : g.x.Ok
 kinds : 0 ≤ g.kinds ∧ g.kinds < 256
 fN : 0 ≤ g.fN ∧ g.fN < 65536
 ws : ∀ w ∈ g.ws, ∀ y ∈ w.2, 0 ≤ y ∧ y < 256
def LX.kl (g : LX) : List Int := kindR g.kinds 5
def LX.all (g : LX) : List FA := allF g.x.mach g.kl
theorem checkF_small {m : Mach} {f : FA} (h : faultB m f = true) (hm : m.rows.length < 64) : checkF m f = 0 := by
 unfold checkF; rw [if_pos h, if_neg (by omega)]
def agA (m : Mach) (i o : Int) (L : List TR) : AV :=
 if checkM m ≠ 0 then .tu [.ag [.sc (.int .i64 0), .sc (.int .i64 0)], .sc (.bool false), .sc (.int .i64 (checkM m))]
 else if checkL i o L ≠ 0 then .tu [.ag [.sc (.int .i64 0), .sc (.int .i64 0)], .sc (.bool false), .sc (.int .i64 (checkL i o L))]
 else if m.ins ≠ i then .tu [.ag [.sc (.int .i64 0), .sc (.int .i64 0)], .sc (.bool false), .sc (.int .i64 5)]
 else .tu [.ag [.sc (.int .i64 (agst m L 0).1), .sc (.int .i64 (agst m L 0).2.1)], .sc (.bool (!(agst m L 0).2.2)), .sc (.int .i64 0)]
theorem checkL_ok {i o : Int} {L : List TR} (h : checkL i o L = 0) : withinB i o L = true ∧ 1 ≤ i ∧ 1 ≤ o ∧ ∀ t ∈ L, trOk i o t = true := by
 unfold checkL at h
 split at h
 ·cases h
 ·rename_i h1
  split at h
  ·cases h
  ·rename_i h2
   split at h
   ·rename_i h3
    exact ⟨by simpa using h1, by omega, by omega, List.all_eq_true.1 h3⟩
   ·cases h
theorem trOk_ok {i o : Int} {t : TR} (h : trOk i o t = true) : t.r.length = t.w.length ∧ ∀ a ∈ t.w, 0 ≤ a ∧ a < i := by
 unfold trOk at h
 simp only [Bool.and_eq_true, decide_eq_true_eq, Bool.not_eq_true'] at h
 refine ⟨h.1, fun a ha => ?_⟩
 have h2 := h.2.1
 unfold badW at h2
 rw [List.any_eq_false] at h2
 have := h2 a ha
 simp at this; omega
theorem withinB_ok {i o : Int} {L : List TR} (h : withinB i o L = true) : i ≤ 16 ∧ o ≤ 16 ∧ L.length ≤ 1024 ∧ ∀ t ∈ L, t.w.length ≤ 256 := by
 simp only [withinB, Bool.and_eq_true, decide_eq_true_eq, List.all_eq_true] at h
 exact ⟨h.1, h.2.1, h.2.2.1, h.2.2.2.1⟩
set_option maxHeartbeats 4000000 in
theorem against37_is (m : Mach) (hm : ∀ r ∈ m.rows, r.2.length < 1000000) (i o : Int) (ln : Bool) (L : List TR) (hL : LogSm L) : PureIs prog 37 [.ag m.cells, .ag (logC i o ln L)] (agA m i o L) := by
 have h1 := hL.len
 have q0 := check_is m hm
 have q1 := check74_is i o ln L hL
 unfold logC at q1
 unfold agA
 refine PureIs.of1 12 [13, 14, 18, 24, 31, 34, 35, 36, 37, 48, 49, 50, 51, 61] func37 ntmps37 results37 fun _ => ?_
 refine EvC.a ?_ (by simp only [go_sem, Mach.cells, logC] <;> rfl)
 refine EvC.z 0 ?_
 refine EvC.z 1 ?_
 refine EvC.seq ?_
 apply EvC.s1
 ·apply Tr.run
  ·simp only [go_sem, Mach.cells] <;> rfl
  ·simp
  apply Tr.cons
  ·exact .ca (q0)
  apply Tr.done
  ·simp only [go_sem] <;> rfl
  ·simp
 refine EvC.a ?_
 by_cases c0 : checkM m = 0
 rotate_left
 ·rw [if_pos c0]
  refine EvC.ct ?_ (by simp only [go_sem, decide_eq_false c0] <;> rfl)
  refine EvC.a ?_
  refine EvC.rz ?_
  simp only [go_sem]
 rw [if_neg (show ¬ checkM m ≠ 0 from fun h => h c0)]
 have hv := Valid.of c0
 refine EvC.cs ?_ (by simp only [go_sem, decide_eq_true c0] <;> rfl)
 refine EvC.seq ?_
 apply EvC.s1
 ·apply Tr.run
  ·simp only [go_sem] <;> rfl
  ·simp
  apply Tr.cons
  ·exact .ca (q1)
  apply Tr.done
  ·simp only [go_sem] <;> rfl
  ·simp
 refine EvC.a ?_
 by_cases c1 : checkL i o L = 0
 rotate_left
 ·rw [if_pos c1]
  refine EvC.ct ?_ (by simp only [go_sem, decide_eq_false c1] <;> rfl)
  refine EvC.a ?_
  refine EvC.rz ?_
  simp only [go_sem]
 rw [if_neg (show ¬ checkL i o L ≠ 0 from fun h => h c1)]
 refine EvC.cs ?_ (by simp only [go_sem, decide_eq_true c1] <;> rfl)
 refine EvC.seq ?_
 refine EvC.a ?_ (by simp only [go_sem, Mach.cells] <;> rfl)
 by_cases c2 : m.ins = i
 rotate_left
 ·rw [if_pos c2]
  refine EvC.ct ?_ (by simp only [go_sem, decide_eq_false c2] <;> rfl)
  refine EvC.a ?_
  refine EvC.rz ?_
  simp only [go_sem]
 rw [if_neg (show ¬ m.ins ≠ i from fun h => h c2)]
 refine EvC.cs ?_ (by simp only [go_sem, decide_eq_true c2] <;> rfl)
 obtain ⟨hwi, _, _, hto⟩ := checkL_ok c1
 obtain ⟨w1, w2, w3, w4⟩ := withinB_ok hwi
 refine EvC.seq ?_
 refine EvC.a ?_ (by simp only [go_sem, List.length_map] <;> rfl)
 refine EvC.block ?_
 refine EvC.loopS (σ := Nat) (fun k => ⟨[(2, .ia m.cells), (4, .rf 0 0), (34, .sl ln (L.map traceC) .unk), (35, .sc (.int .i64 L.length)), (36, .sc (.int .i64 k))], [], [(0, .cells [.sc (.int .i64 0), .sc (.int .i64 0)])], 1⟩) (fun k => L.length - k) (fun k => k ≤ L.length ∧ agst m L 0 = agst m (L.drop k) k) [2, 4, 34, 35, 36] 1 ?_ ?_
 ·exact ⟨[(2, 0)], 0, rfl, (by simp only [go_sem, Mach.cells, Int.natCast_zero] <;> rfl), Nat.zero_le _, rfl⟩
 rintro k ⟨h2, h3⟩
 refine EvC.a ?_
 refine EvC.seq ?_
 refine EvC.cond (by simp only [go_sem] <;> rfl) (fun hc => ?_) (fun hc => ?_)
 rotate_left
 ·refine EvC.exit ?_
  obtain rfl : k = L.length := by have : ¬ k < L.length := (by simpa using hc); omega
  rw [List.drop_length, agst] at h3
  rw [h3]
  refine EvC.a ?_
  refine EvC.rz ?_
  simp only [go_sem]
 have hkl : k < L.length := by simpa using hc
 clear hc
 have he : L[k]? = some L[k] := List.getElem?_eq_getElem hkl
 have hm := List.getElem_mem hkl
 generalize L[k] = t at he hm
 have hag := agst_drop (m := m) he
 have htk := trOk_ok (hto t hm)
 have hw4 := w4 t hm
 obtain ⟨w, r, wn, rn⟩ := t
 simp only at htk hw4 hag
 obtain ⟨kZ, hkZ⟩ : ∃ z : Int, z = (k : Int) := ⟨_, rfl⟩
 have hkt : kZ.toNat = k := by omega
 have hins := hv.ins
 have hrw := hv.rows
 have q3 := run52_is hv 0 ⟨by omega, by omega⟩ wn w .unk (wordErr_of hins (by omega) fun a ha => by have := htk.2 a ha; omega) (by omega)
 have hxl := runR_len m 0 w
 generalize runR m 0 w = x at q3 hxl hag
 rw [← hkZ]
 refine EvC.skip ?_
 refine EvC.seq ?_
 refine EvC.block ?_
 refine EvC.a ?_ (by simp only [go_sem, he, hkt, traceC, List.length_map] <;> rfl) (by simp; try omega)
 refine EvC.z 5 ?_
 apply EvC.s1
 ·apply Tr.run
  ·simp only [go_sem, Mach.cells] <;> rfl
  ·simp
  apply Tr.cons
  ·exact .ca (q3)
  apply Tr.done
  ·simp only [go_sem] <;> rfl
  ·simp
 refine EvC.a ?_ (by simp only [go_sem, List.length_map] <;> rfl)
 refine EvC.block ?_
 refine EvC.loopS (σ := Nat) (fun j => ⟨[(2, .ia m.cells), (4, .rf 0 0), (9, .sc (.int .i64 kZ)), (10, .ia [.sl wn (w.map intC) .unk, .sl rn (r.map intC) .unk]), (34, .sl ln (L.map traceC) .unk), (35, .sc (.int .i64 L.length)), (36, .sc (.int .i64 kZ)), (48, .sl false (x.map intC) .unk), (49, .sc (.int .i64 x.length)), (50, .sc (.int .i64 j))], [], [(0, .cells [.sc (.int .i64 0), .sc (.int .i64 0)])], 1⟩) (fun j => x.length - j) (fun j => j ≤ x.length ∧ diffK x r 0 = diffK (x.drop j) (r.drop j) j) [2, 4, 9, 10, 34, 35, 36, 48, 49, 50] 1 ?_ ?_
 ·exact ⟨[(0, 0)], 0, rfl, (by simp only [go_sem, Mach.cells, List.length_map, Int.natCast_zero] <;> rfl), Nat.zero_le _, rfl⟩
 rintro j ⟨j1, j2⟩
 refine EvC.a ?_
 refine EvC.seq ?_
 refine EvC.cond (by simp only [go_sem] <;> rfl) (fun hc => ?_) (fun hc => ?_)
 rotate_left
 ·refine EvC.exit ?_
  obtain rfl : j = x.length := by have : ¬ j < x.length := (by simpa using hc); omega
  rw [List.drop_length] at j2
  have j2 : diffK x r 0 = none := by rw [j2]; cases r.drop x.length <;> rfl
  rw [j2] at hag
  simp only at hag
  refine EvC.b ?_ (hok := by exact inI64_of (by omega) (by omega))
  exact ⟨[(0, 0)], k + 1, rfl, (by rw [hkZ]; simp only [go_sem, Mach.cells, Int.natCast_add, Int.natCast_one] <;> rfl), ⟨hkl, by rw [h3, hag]⟩, by omega⟩
 have hjl : j < x.length := by simpa using hc
 clear hc
 have hjx : x[j]? = some x[j] := List.getElem?_eq_getElem hjl
 have hjr : r[j]? = some (r[j]'(by omega)) := List.getElem?_eq_getElem (by omega)
 generalize x[j] = a at hjx
 generalize r[j]'(by omega) = b at hjr
 have hdk := diffK_drop hjx hjr
 obtain ⟨jZ, hjZ⟩ : ∃ z : Int, z = (j : Int) := ⟨_, rfl⟩
 have hjt : jZ.toNat = j := by omega
 rw [← hjZ]
 refine EvC.skip ?_
 refine EvC.seq ?_
 refine EvC.block ?_
 refine EvC.a ?_ (by simp only [go_sem, hjx, intC, hjt, List.length_map] <;> rfl) (by simp; try omega)
 refine EvC.a ?_ (by simp only [go_sem, hjr, intC, hjt, List.length_map] <;> rfl) (by simp; try omega)
 by_cases hab : a = b
 ·rw [if_neg (fun h => h hab)] at hdk
  refine EvC.cs ?_ (by simp only [go_sem, decide_eq_true hab] <;> rfl)
  refine EvC.b ?_ (hok := by exact inI64_of (by omega) (by omega))
  exact ⟨[(0, 0)], j + 1, rfl, (by rw [hjZ]; simp only [go_sem, Mach.cells, Int.natCast_add, Int.natCast_one] <;> rfl), ⟨hjl, by rw [j2, hdk]⟩, by omega⟩
 ·rw [if_pos hab] at hdk
  rw [j2, hdk] at hag
  simp only at hag
  refine EvC.ct ?_ (by simp only [go_sem, decide_eq_false hab] <;> rfl)
  refine EvC.a ?_
  refine EvC.rz ?_
  simp only [go_sem]
  rw [h3, hag, hkZ, hjZ]; rfl
def fltT {α : Type} (p : α → Bool) (L : List α) (k : Nat) : List α := (L.take k).filter p
theorem fltT_yes {α : Type} {p : α → Bool} {L : List α} {k : Nat} {x : α} (h : L[k]? = some x) (hp : p x = true) : fltT p L k ++ [x] = fltT p L (k + 1) := by
 obtain ⟨hi, he⟩ := List.getElem?_eq_some_iff.1 h
 unfold fltT
 rw [List.take_succ_eq_append_getElem hi, he, List.filter_append]; simp [hp]
theorem fltT_no {α : Type} {p : α → Bool} {L : List α} {k : Nat} {x : α} (h : L[k]? = some x) (hp : p x = false) : fltT p L k = fltT p L (k + 1) := by
 obtain ⟨hi, he⟩ := List.getElem?_eq_some_iff.1 h
 unfold fltT
 rw [List.take_succ_eq_append_getElem hi, he, List.filter_append]; simp [hp]
theorem fltT_all {α : Type} (p : α → Bool) (L : List α) : fltT p L L.length = L.filter p := by rw [fltT, List.take_length]
theorem fltT_len {α : Type} (p : α → Bool) (L : List α) (k : Nat) : (fltT p L k).length ≤ L.length := by
 have h1 := List.length_filter_le p (L.take k)
 have h2 : (L.take k).length ≤ L.length := by simp; omega
 unfold fltT; omega
def agErr (m : Mach) (i o : Int) (L : List TR) : Int := if checkM m ≠ 0 then checkM m else if checkL i o L ≠ 0 then checkL i o L else if m.ins ≠ i then 5 else 0
theorem agA_ok {m : Mach} {i o : Int} {L : List TR} (h : agErr m i o L = 0) : checkM m = 0 ∧ checkL i o L = 0 ∧ m.ins = i := by
 unfold agErr at h
 split at h
 ·rename_i h1; exact absurd h h1
 ·rename_i h1
  split at h
  ·rename_i h2; exact absurd h h2
  ·rename_i h2
   split at h
   ·cases h
   ·rename_i h3; exact ⟨by simpa using h1, by simpa using h2, by simpa using h3⟩
theorem agA_err (m : Mach) (i o : Int) (L : List TR) : agA m i o L = .tu [.ag [.sc (.int .i64 (if agErr m i o L = 0 then (agst m L 0).1 else 0)), .sc (.int .i64 (if agErr m i o L = 0 then (agst m L 0).2.1 else 0))], .sc (.bool (decide (agErr m i o L = 0) && !(agst m L 0).2.2)), .sc (.int .i64 (agErr m i o L))] := by
 unfold agA agErr
 by_cases h1 : checkM m = 0
 ·by_cases h2 : checkL i o L = 0
  ·by_cases h3 : m.ins = i <;> simp [h1, h2, h3]
  ·simp [h1, h2]
 ·simp [h1]
def fitB2 (m : Mach) (L : List TR) (f : FA) : Bool := !(agst (mutF m f) L 0).2.2
def suspA (m : Mach) (ks : List Int) (i o : Int) (L : List TR) (most : Int) : AV :=
 if agErr m i o L ≠ 0 then .tu [.sl true [] .unk, .sc (.bool false), .sc (.int .i64 (agErr m i o L))]
 else if allR m ks most ≠ 0 then .tu [.sl true [] .unk, .sc (.bool false), .sc (.int .i64 (allR m ks most))]
 else .tu [.sl ((alF m ks).filter (fitB2 m L)).isEmpty (((alF m ks).filter (fitB2 m L)).map FA.cells) .full, .sc (.bool (!(agst m L 0).2.2)), .sc (.int .i64 0)]
theorem fas_norefs (l : List FA) : (l.map FA.cells).all AV.norefs = true := by simp [List.all_eq_true, FA.cells, AV.norefs, AV.noref]
theorem allR_ready {m : Mach} {ks : List Int} {most : Int} (h : allR m ks most = 0) : readyR m ks most = 0 := by
 unfold allR at h
 split at h
 ·rename_i h1; exact absurd h h1
 ·rename_i h1; simpa using h1
set_option maxHeartbeats 4000000 in
theorem suspects_is (m : Mach) (hm : ∀ r ∈ m.rows, r.2.length < 1000000) (hnn : NoNil m) (kn : Bool) (ks : List Int) (kc : Cp) (hks : ks.length < 1000) (i o : Int) (ln : Bool) (L : List TR) (hL : LogSm L) (most : Int) :
  PureIs prog 11 [.ag m.cells, .sl kn (ks.map intC) kc, .ag (logC i o ln L), .sc (.int .i64 most)] (suspA m ks i o L most) := by
 have q0 := against37_is m hm i o ln L hL
 rw [agA_err] at q0
 unfold logC at q0
 unfold suspA
 refine PureIs.of1 5 [6, 8, 9, 10, 12, 13, 14, 15, 17, 18, 19, 21, 31, 41, 43, 44, 45, 46, 56, 65] func11 ntmps11 results11 fun _ => ?_
 refine EvC.a ?_ (by simp only [go_sem, Mach.cells, logC] <;> rfl)
 refine EvC.z 0 ?_
 refine EvC.z 1 ?_
 apply EvC.s1
 ·apply Tr.run
  ·simp only [go_sem, Mach.cells] <;> rfl
  ·simp
  apply Tr.cons
  ·exact .ca (q0)
  apply Tr.done
  ·simp only [go_sem] <;> rfl
  ·simp
 refine EvC.seq ?_
 refine EvC.a ?_
 by_cases h0 : agErr m i o L = 0
 rotate_left
 ·rw [if_pos h0]
  refine EvC.ct ?_ (by simp only [go_sem, decide_eq_false h0] <;> rfl)
  refine EvC.a ?_
  refine EvC.rz ?_
  simp only [go_sem]
 rw [if_neg (show ¬ agErr m i o L ≠ 0 from fun h => h h0)]
 refine EvC.cs ?_ (by simp only [go_sem, decide_eq_true h0] <;> rfl)
 have q1 := allF_is m hm kn ks kc hks most
 unfold allA at q1
 by_cases h1 : allR m ks most = 0
 rotate_left
 ·rw [if_pos h1] at q1 ⊢
  apply EvC.s1
  ·apply Tr.run
   ·simp only [go_sem, Mach.cells] <;> rfl
   ·simp
   apply Tr.cons
   ·exact .ca (q1)
   apply Tr.done
   ·simp only [go_sem] <;> rfl
   ·simp
  refine EvC.seq ?_
  refine EvC.a ?_
  refine EvC.ct ?_ (by simp only [go_sem, decide_eq_false h1] <;> rfl)
  refine EvC.a ?_
  refine EvC.rz ?_
  simp only [go_sem]
 rw [if_neg (show ¬ allR m ks most ≠ 0 from fun h => h h1)] at q1 ⊢
 obtain ⟨c1, c2, c3⟩ := agA_ok h0
 have hv := Valid.of c1
 have hok := alF_ok (allR_ready h1)
 have hal := alF_len hv ks
 have hna := fas_norefs (alF m ks)
 have hla : ((alF m ks).map FA.cells).length = (alF m ks).length := List.length_map _
 have hal2 : (alF m ks).length < 300000000 := by
  have : ks.length * 262144 ≤ 1000 * 262144 := Nat.mul_le_mul_right _ (by omega)
  omega
 generalize alF m ks = A at q1 hok hal2 hna hla ⊢
 apply EvC.s1
 ·apply Tr.run
  ·simp only [go_sem, Mach.cells] <;> rfl
  ·simp
  apply Tr.cons
  ·exact .call rfl rfl (by simp only [go_sem] <;> rfl) (by simp only [go_sem] <;> rfl) (by simp only [go_sem] <;> rfl) (by simp only [go_sem, hna] <;> rfl) (by simp only [go_sem] <;> rfl) (q1)
  apply Tr.done
  ·simp only [go_sem, Mach.cells] <;> rfl
  ·simp
 refine EvC.seq ?_
 refine EvC.a ?_
 refine EvC.cs ?_
 refine EvC.a ?_
 refine EvC.seq ?_
 refine EvC.a ?_ (by simp only [go_sem, hla] <;> rfl)
 refine EvC.block ?_
 have hinn : (decide (agErr m i o L = 0) && !(agst m L 0).2.2) = !(agst m L 0).2.2 := by rw [decide_eq_true h0, Bool.true_and]
 rw [hinn]
 generalize (agst m L 0).2.2 = inn
 have hfl := fltT_len (fitB2 m L) A
 refine EvC.loopS (σ := Nat) (fun k => ⟨[(4, .ia m.cells), (6, .ia (logC i o ln L)), (12, .sc (.bool !inn)), (15, .tl 0 (fltT (fitB2 m L) A k).length (fltT (fitB2 m L) A k).isEmpty), (43, .sl A.isEmpty (A.map FA.cells) .full), (44, .sc (.int .i64 A.length)), (45, .sc (.int .i64 k))], [], [(0, .arr 6 ((fltT (fitB2 m L) A k).map FA.cells) true)], 1⟩) (fun k => A.length - k) (fun k => k ≤ A.length) [4, 6, 12, 15, 43, 44, 45] 1 ?_ ?_
 ·exact ⟨[(29, 0)], 0, rfl, (by simp only [go_sem, Mach.cells, logC, Int.natCast_zero, fltT, List.take_zero, List.filter_nil, List.map_nil, List.length_nil, List.isEmpty_nil] <;> rfl), Nat.zero_le _⟩
 intro k hk
 refine EvC.a ?_
 refine EvC.seq ?_
 refine EvC.cond (by simp only [go_sem] <;> rfl) (fun hc => ?_) (fun hc => ?_)
 rotate_left
 ·refine EvC.exit ?_
  obtain rfl : k = A.length := by have : ¬ k < A.length := (by simpa using hc); omega
  rw [fltT_all]
  have hn2 := fas_norefs (A.filter (fitB2 m L))
  have hl2 : ((A.filter (fitB2 m L)).map FA.cells).length = (A.filter (fitB2 m L)).length := List.length_map _
  have h6 := fa_six (A.filter (fitB2 m L))
  generalize A.filter (fitB2 m L) = S at hn2 hl2 h6 ⊢
  refine EvC.frz 0 (by simp only [go_sem, hn2, hl2] <;> rfl) ?_
  apply EvC.s1
  ·apply Tr.run
   ·simp only [go_sem, hl2] <;> rfl
   ·simp
   apply Tr.cons
   ·exact .ca (clipF_is _ _ _ h6)
   apply Tr.done
   ·simp only [go_sem] <;> rfl
   ·simp
  refine EvC.rz ?_
  simp only [go_sem]
 have hkl : k < A.length := by simpa using hc
 clear hc
 have he : A[k]? = some A[k] := List.getElem?_eq_getElem hkl
 have hf0 := hok _ (List.getElem_mem hkl)
 generalize A[k] = f at he hf0
 have q2 := apply71_is hv c1 hnn f
 rw [applyR, if_pos hf0] at q2
 have hmv := mutF_valid hv hf0
 obtain ⟨M, hM⟩ : ∃ M, M = mutF m f := ⟨_, rfl⟩
 have hMi : M.ins = m.ins := by rw [hM]; rfl
 rw [← hM] at q2 hmv
 have q3 := against37_is M hmv.small i o ln L hL
 unfold agA at q3
 rw [if_neg (show ¬ checkM M ≠ 0 from fun h => h (checkM_of hmv)), if_neg (show ¬ checkL i o L ≠ 0 from fun h => h c2), if_neg (show ¬ M.ins ≠ i from fun h => h (by rw [hMi, c3]))] at q3
 have hyes := fun h => fltT_yes (p := fitB2 m L) he h
 have hno := fun h => fltT_no (p := fitB2 m L) he h
 have hfb : fitB2 m L f = !(agst M L 0).2.2 := by rw [hM]; rfl
 have hfa := he
 obtain ⟨f1, f2, f3, f4, f5, f6⟩ := f
 have hfc : (A.map FA.cells)[k]? = some [.sc (.int .i64 f1), .sc (.int .i64 f2), .sc (.int .i64 f3), .sc (.int .i64 f4), .sc (.int .i64 f5), .sc (.int .i64 f6)] := by rw [List.getElem?_map, he]; rfl
 obtain ⟨kZ, hkZ⟩ : ∃ z : Int, z = (k : Int) := ⟨_, rfl⟩
 have hkt : kZ.toNat = k := by omega
 rw [← hkZ]
 refine EvC.skip ?_
 refine EvC.seq ?_
 refine EvC.block ?_
 refine EvC.a ?_ (by simp only [go_sem, hfc, hkt, hla] <;> rfl) (by simp; try omega)
 have hMn := norefs_mcells M
 apply EvC.s1
 ·apply Tr.run
  ·simp only [go_sem, Mach.cells, FA.cells] <;> rfl
  ·simp
  apply Tr.cons
  ·exact .ca (q2)
  apply Tr.done
  ·simp only [go_sem, Mach.cells] <;> rfl
  ·simp
 refine EvC.z 12 ?_
 refine EvC.seq ?_
 refine EvC.a ?_
 refine EvC.cs ?_
 unfold logC at q3
 apply EvC.s1
 ·apply Tr.run
  ·simp only [go_sem, Mach.cells, logC] <;> rfl
  ·simp
  apply Tr.cons
  ·exact .ca (q3)
  apply Tr.done
  ·simp only [go_sem] <;> rfl
  ·simp
 refine EvC.a ?_
 obtain ⟨T, hT⟩ : ∃ T, T = fltT (fitB2 m L) A (k + 1) := ⟨_, rfl⟩
 have hfl1 := hfl (k + 1)
 rw [← hT] at hyes hno hfl1
 obtain ⟨b, hb⟩ : ∃ b, (agst M L 0).2.2 = b := ⟨_, rfl⟩
 rw [hb] at hfb ⊢
 cases b
 ·have hy := hyes hfb
  generalize fltT (fitB2 m L) A k = T0 at hy ⊢
  have hl1 : (T0.map FA.cells).length = T0.length := List.length_map _
  have hsn : T0.map FA.cells ++ [[.sc (.int .i64 f1), .sc (.int .i64 f2), .sc (.int .i64 f3), .sc (.int .i64 f4), .sc (.int .i64 f5), .sc (.int .i64 f6)]] = T.map FA.cells := by rw [← hy]; simp [FA.cells]
  have hTl : T.length = T0.length + 1 := by rw [← hy]; simp
  have hTe : T.isEmpty = false := by rw [← hy]; simp
  have hTm : (T.map FA.cells).length = T.length := List.length_map _
  have hTn := fas_norefs T
  have hr : room (T0.length + 1) 48 = true := by simp only [room_eq, decide_eq_true_eq]; omega
  refine EvC.ct ?_
  refine EvC.b ?_ (by simp only [go_sem, hl1, hsn] <;> rfl) (by simp [hr])
  refine EvC.b ?_ (hok := by exact inI64_of (by omega) (by omega))
  exact ⟨[(0, 0)], k + 1, rfl, (by rw [hkZ, ← hT]; simp only [go_sem, hTm, hTe, hTn, Mach.cells, logC, Int.natCast_add, Int.natCast_one] <;> rfl), hkl, by omega⟩
 ·have hy := hno hfb
  rw [hy]
  refine EvC.cs ?_
  refine EvC.b ?_ (hok := by exact inI64_of (by omega) (by omega))
  exact ⟨[(0, 0)], k + 1, rfl, (by rw [hkZ, ← hT]; simp only [go_sem, Mach.cells, logC, Int.natCast_add, Int.natCast_one] <;> rfl), hkl, by omega⟩
theorem refmutants_is (m : Mach) (hv : Valid m) (fn : Bool) (fs : List FA) (fc : Cp) (hf : ∀ f ∈ fs, faultB m f = true) (hfl : fs.length < 1000000) :
  PureIs prog 49 [.ag m.cells, .sl fn (fs.map FA.cells) fc] (.sl fs.isEmpty ((fs.map (mutF m)).map Mach.cells) .unk) := by
 refine PureIs.of1 3 [4, 5, 6, 10] func49 ntmps49 results49 fun _ => ?_
 refine EvC.a ?_ (by simp only [go_sem, Mach.cells] <;> rfl)
 refine EvC.z 0 ?_
 refine EvC.a ?_
 refine EvC.seq ?_
 refine EvC.a ?_
 refine EvC.block ?_
 refine EvC.loopS (σ := Nat) (fun k => ⟨[(1, .sl fn (fs.map FA.cells) fc), (2, .ia m.cells), (5, .tl 0 k (k == 0)), (6, .sc (.int .i64 k))], [], [(0, .arr 3 (mutC m fs k) true)], 1⟩) (fun k => fs.length - k) (fun k => k ≤ fs.length) [1, 2, 5, 6] 1 ?_ ?_
 ·exact ⟨[(2, 0)], 0, rfl, (by simp only [go_sem, Mach.cells, Int.natCast_zero, mutC, List.take_zero, List.map_nil] <;> rfl), Nat.zero_le _⟩
 intro k hk
 have hml := mutC_len (m := m) hk
 refine EvC.seq ?_
 refine EvC.a ?_ (by simp only [go_sem, List.length_map] <;> rfl)
 refine EvC.cond (by simp only [go_sem] <;> rfl) (fun hc => ?_) (fun hc => ?_)
 rotate_left
 ·refine EvC.exit ?_
  obtain rfl : k = fs.length := by have : ¬ k < fs.length := (by simpa using hc); omega
  have hmc : (fs.map (mutF m)).map Mach.cells = mutC m fs fs.length := by rw [mutC, List.take_length]
  rw [hmc]
  have hn := norefs_mutC m fs fs.length
  have hie : (fs.length == 0) = fs.isEmpty := by cases fs <;> rfl
  rw [hie]
  generalize mutC m fs fs.length = L at hml hn
  refine EvC.frz 0 (by simp only [go_sem, hn, hml] <;> rfl) ?_
  refine EvC.a ?_
  refine EvC.rz ?_
  simp only [go_sem]
 have hkl : k < fs.length := by simpa using hc
 clear hc
 have he : fs[k]? = some fs[k] := List.getElem?_eq_getElem hkl
 have hfb := hf _ (List.getElem_mem hkl)
 generalize fs[k] = f at he hfb
 have q := apply55_is hv f hfb
 have hs := mutC_succ (m := m) he
 have hml2 := mutC_len (m := m) (k := k + 1) hkl
 have hr2 : room (k + 1) 40 = true := by simp only [room_eq, decide_eq_true_eq]; omega
 generalize mutF m f = mf at q hs
 have hmr : AV.norefs mf.cells = true := norefs_mcells mf
 have hfc : (fs.map FA.cells)[k]? = some f.cells := by rw [List.getElem?_map, he]; rfl
 simp only [FA.cells] at hfc
 simp only [Mach.cells] at hs hmr
 obtain ⟨kZ, hkZ⟩ : ∃ z : Int, z = (k : Int) := ⟨_, rfl⟩
 have hkt : kZ.toNat = k := by omega
 rw [← hkZ]
 refine EvC.skip ?_
 refine EvC.seq ?_
 refine EvC.block ?_
 apply EvC.drw mixed
 ·apply Tr.run
  ·simp only [go_sem, hfc, hkt, List.length_map, Mach.cells, FA.cells] <;> rfl
  ·simp; try omega
  apply Tr.cons
  ·exact .ca (q)
  apply Tr.done
  ·simp only [go_sem, hml, hr2, hs, Mach.cells, hmr] <;> rfl
  ·simp [hr2, hmr]
 ·kernel_rfl
 refine EvC.b ?_ (hok := by exact inI64_of (by omega) (by omega))
 have hne : (k + 1 == 0) = false := rfl
 exact ⟨[(0, 0)], k + 1, rfl, (by rw [hkZ]; simp only [go_sem, Mach.cells, hne, Int.natCast_add, Int.natCast_one, hml2] <;> rfl), hkl, by omega⟩
theorem alike50_is {a b : Mach} (ha : Valid a) (hb : Valid b) (hab : a.ins = b.ins) : PureIs prog 50 [.ag a.cells, .ag b.cells] (.sc (.bool (diffO a b).isNone)) := by
 have q := ref10_is ha hb hab
 refine PureIs.of1 5 [6] func50 ntmps50 results50 fun _ => ?_
 refine EvC.a ?_ (by simp only [go_sem, Mach.cells] <;> rfl)
 refine EvC.z 0 ?_
 refine EvC.z 1 ?_
 apply EvC.s1
 ·apply Tr.run
  ·simp only [go_sem, Mach.cells] <;> rfl
  ·simp
  apply Tr.cons
  ·exact .ca (q)
  apply Tr.done
  ·simp only [go_sem] <;> rfl
  ·simp
 refine EvC.a ?_
 refine EvC.rz ?_
 simp only [go_sem]
 cases diffO a b <;> rfl
def kN {κ : Type} (_ : κ) : List AV := []
theorem kN_norefs {κ : Type} (x : κ) : AV.norefs (kN x) = true := rfl
theorem dvPut_head {X : List Mach} {eqB : Mach → Mach → Bool} {i : Int} : ∀ {ps : List (Mach × List Int)}, (∀ q ∈ ps, ∃ h t, q.2 = h :: t ∧ q.1 = atM X h ∧ 0 ≤ h ∧ h < X.length) → 0 ≤ i ∧ i < X.length → ∀ q ∈ dvPut eqB (atM X i) i ps, ∃ h t, q.2 = h :: t ∧ q.1 = atM X h ∧ 0 ≤ h ∧ h < X.length :=
 fun {ps} h hi => dvPut_all (Q := fun k l => ∃ h t, l = h :: t ∧ k = atM X h ∧ 0 ≤ h ∧ h < X.length) (atM X i) i ⟨i, [], rfl, rfl, hi⟩ (fun k l ⟨a, t, e1, e2⟩ _ => ⟨a, t ++ [i], by rw [e1]; rfl, e2⟩) ps h
set_option maxHeartbeats 8000000 in
theorem refclasses_is (m : Mach) (hv : Valid m) (fn : Bool) (fs : List FA) (fc : Cp) (hf : ∀ f ∈ fs, checkF m f = 0) (hfl : fs.length ≤ 256) :
  PureIs prog 18 [.ag m.cells, .sl fn (fs.map FA.cells) fc] (.sl fs.isEmpty ((dvL eqM (atM (fs.map (mutF m))) (idL fs.length) []).map (partC kN)) .unk) := by
 have hfb : ∀ f ∈ fs, faultB m f = true := fun f h => by
  have := hf f h
  unfold checkF at this
  split at this
  ·assumption
  ·cases this
 have q := refmutants_is m hv fn fs fc hfb (by omega)
 have hXv : ∀ x ∈ fs.map (mutF m), Valid x ∧ x.ins = m.ins := fun x hx => by
  obtain ⟨f, h, rfl⟩ := List.mem_map.1 hx
  exact ⟨mutF_valid hv (hf f h), rfl⟩
 have hXl : (fs.map (mutF m)).length = fs.length := List.length_map _
 generalize fs.map (mutF m) = X at q hXv hXl ⊢
 have hXn := norefs_machs X
 obtain ⟨N, hN⟩ : ∃ N, N = fs.length := ⟨_, rfl⟩
 have hin : ∀ i : Int, 0 ≤ i → i < X.length → Valid (atM X i) ∧ (atM X i).ins = m.ins := fun i h1 h2 => hXv _ (by
  rw [atM, List.getD_eq_getElem?_getD, List.getElem?_eq_getElem (show i.toNat < X.length by omega)]
  exact List.getElem_mem _)
 have hfe : (idL N).isEmpty = fs.isEmpty := by rw [hN]; cases fs <;> simp [idL, List.range_succ]
 refine PureIs.of1 3 [4, 5, 6, 7, 8, 9, 16, 26, 42, 54, 57, 58] func18 ntmps18 results18 fun _ => ?_
 refine EvC.a ?_ (by simp only [go_sem, Mach.cells] <;> rfl)
 refine EvC.z 0 ?_
 apply EvC.s1
 ·apply Tr.run
  ·simp only [go_sem, Mach.cells] <;> rfl
  ·simp
  apply Tr.cons
  ·exact .ca (q)
  apply Tr.done
  ·simp only [go_sem, hXn] <;> rfl
  ·simp
 refine EvC.a ?_
 refine EvC.seq ?_
 refine EvC.a ?_
 refine EvC.thaw 6 (by simp only [go_sem] <;> rfl) ?_
 refine EvC.block ?_
 refine EvC.loopS (σ := Nat × List (Mach × List Int)) (fun g2 => ⟨[(1, .sl fn (fs.map FA.cells) fc), (5, .sl fs.isEmpty (X.map Mach.cells) .unk), (6, .tl 0 g2.2.length g2.2.isEmpty), (7, .sc (.int .i64 g2.1))], [], dM kN 1 g2.2, 3000000⟩) (fun g2 => N - g2.1)
  (fun g2 => g2.1 ≤ N ∧ dvL eqM (atM X) (idL N) [] = dvL eqM (atM X) ((idL N).drop g2.1) g2.2 ∧ g2.2.length ≤ g2.1 ∧ (∀ q ∈ g2.2, q.2.length ≤ g2.1) ∧ ∀ q ∈ g2.2, ∃ h t, q.2 = h :: t ∧ q.1 = atM X h ∧ 0 ≤ h ∧ h < X.length) [1, 5, 6, 7] 3000000 ?_ ?_
 ·exact ⟨[(6, 0)], (0, []), rfl, (by simp only [go_sem, Int.natCast_zero, dM, dRows, dcA, msegA, List.map_nil, List.length_nil, List.isEmpty_nil] <;> rfl), Nat.zero_le _, rfl, Nat.le_refl _, (fun _ h => by cases h), fun _ h => by cases h⟩
 rintro ⟨i, ps⟩ ⟨hi, hdv, hpl, hpq, hph⟩
 simp only at hi hdv hpl hpq hph ⊢
 rw [← hN]
 refine EvC.seq ?_
 refine EvC.a ?_ (by simp only [go_sem, List.length_map, ← hN] <;> rfl)
 refine EvC.cond (by simp only [go_sem] <;> rfl) (fun hc => ?_) (fun hc => ?_)
 rotate_left
 ·refine EvC.exit ?_
  obtain rfl : N = i := by have : ¬ i < N := (by simpa using hc); omega
  rw [List.drop_of_length_le (by simp [idL])] at hdv
  have hdv : dvL eqM (atM X) (idL N) [] = ps := hdv
  have hp6 : ps.length ≤ 1000000 := by omega
  have hie : ps.isEmpty = fs.isEmpty := by rw [← hdv, ← hfe]; exact dvL_empty eqM (atM X) (idL N)
  rw [hdv]
  have hrl : ∀ j p, ps[j]? = some p → mlook (dM kN 1 ps) (2000000 + j) = some (.arr 1 (p.2.map intC) false) := fun j p hj => dM_lookR hj
  refine EvC.ofzAll ps.length (fun j hj => ⟨1, _, false, hrl j _ (List.getElem?_eq_getElem hj), by simp [List.all_eq_true, intC, AV.norefs, AV.noref]⟩) ?_
  have hfz : ofzAll ps.length (dM kN 1 ps) = (0, .arr 1 (dcA kN ps 0) false) :: dRowsF ps := by rw [dM, ofzAll_cons hp6 0 rfl, dRows_fz]
  have hsn : (dcA kN ps 0).map (fun c => c.map (AV.deep (snap ((0, .arr 1 (dcA kN ps 0) false) :: dRowsF ps)))) = ps.map (partC kN) := dcA_snap kN_norefs fun j p hj => by
   rw [Nat.zero_add]
   simp only [mlook]
   rw [if_neg (by omega), dRowsF_look hj]
  have hnr := partC_norefs (kc := kN) kN_norefs ps
  have hpl2 : (ps.map (partC kN)).length = ps.length := List.length_map _
  have hmm := fun f => dRowsF_memMap f ps
  refine EvC.snapA 0 (by simp only [go_sem, hfz, hsn] <;> rfl) ?_
  rw [hie]
  generalize ps.map (partC kN) = L at hnr hpl2 ⊢
  refine EvC.frz 0 (by simp only [go_sem, hnr, hpl2] <;> rfl) ?_
  refine EvC.a ?_ (by simp only [go_sem, hpl2] <;> rfl)
  refine EvC.rz ?_
  simp only [go_sem]
 have hil : i < N := by simpa using hc
 clear hc
 have hdr : (idL N).drop i = (i : Int) :: (idL N).drop (i + 1) := by
  have h1 : i < (idL N).length := by simp [idL]; omega
  rw [List.drop_eq_getElem_cons h1]; congr 1; simp [idL]
 rw [hdr, dvL] at hdv
 have hxi := hin i (Int.natCast_nonneg i) (by omega)
 have hxg := atM_get (X := X) (i := (i : Int)) (by omega)
 have hhead := fun (ps : List (Mach × List Int)) h => dvPut_head (X := X) (eqB := eqM) (i := (i : Int)) (ps := ps) h ⟨Int.natCast_nonneg i, by omega⟩
 have hhd := hhead ps hph
 clear hhead
 obtain ⟨iZ, hiZ⟩ : ∃ z : Int, z = (i : Int) := ⟨_, rfl⟩
 have hit : iZ.toNat = i := by omega
 rw [← hiZ] at hdv hxi hxg hhd ⊢
 rw [hit] at hxg
 obtain ⟨x, hx⟩ : ∃ x, x = atM X iZ := ⟨_, rfl⟩
 rw [← hx] at hdv hxi hxg hhd
 have hp6 : ps.length < 1000000 := by omega
 have hl0 := dM_look0 (kc := (kN : Mach → List AV)) (e := 1) (ps := ps)
 have hdl := dcA_len (kN : Mach → List AV) ps 0
 have hgk := dK_ok (n := ps.length) (by omega)
 have hhi := dK_hi (n := ps.length) (by omega)
 have hgc0 := dM_gc (e := 1) (M := dM kN 1 ps) kN_norefs (Nat.le_of_lt hp6) hl0 fun j p hj => dM_lookR hj
 refine EvC.skip ?_
 refine EvC.seq ?_
 refine EvC.block ?_
 refine EvC.a ?_
 refine EvC.seq ?_
 refine EvC.a ?_
 refine EvC.block ?_
 refine EvC.loopS (σ := Nat × Bool × List (Mach × List Int)) (fun g => ⟨[(1, .sl fn (fs.map FA.cells) fc), (5, .sl fs.isEmpty (X.map Mach.cells) .unk), (6, .tl 0 ps.length ps.isEmpty), (7, .sc (.int .i64 iZ)), (8, .sc (.bool g.2.1)), (9, .sc (.int .i64 g.1))], [], dM kN 1 g.2.2, 3000000⟩) (fun g => ps.length - g.1)
  (fun g => g.1 ≤ ps.length ∧ (g.2.1 = false → g.2.2 = ps ∧ ∀ j q, j < g.1 → ps[j]? = some q → eqM q.1 x = false) ∧ (g.2.1 = true → g.2.2 = dvPut eqM x iZ ps ∧ g.2.2.length = ps.length ∧ ∀ q ∈ g.2.2, q.2.length ≤ i + 1)) [1, 5, 6, 7, 8, 9] 3000000 ?_ ?_
 ·exact ⟨dK ps.length, (0, false, ps), hgk, (by simp only [go_sem, Int.natCast_zero, hhi, hgc0] <;> rfl), Nat.zero_le _, (fun _ => ⟨rfl, fun j q h => absurd h (Nat.not_lt_zero _)⟩), fun h => by cases h⟩
 rintro ⟨n, dn, ps'⟩ ⟨hn, hno, hyes⟩
 simp only at hn hno hyes ⊢
 refine EvC.seq ?_
 cases dn with
 | true =>
   obtain ⟨y1, y2, y3⟩ := hyes rfl
   rw [← y1] at hdv hhd
   have hl0' := dM_look0 (kc := (kN : Mach → List AV)) (e := 1) (ps := ps')
   have hdl' := dcA_len (kN : Mach → List AV) ps' 0
   have hgc' := dM_gc (e := 1) (M := dM kN 1 ps') kN_norefs (by omega) hl0' fun j p hj => dM_lookR hj
   rw [y2] at hgc' hdl'
   have hes : ps'.isEmpty = ps.isEmpty := by
    cases ps' <;> cases ps <;> first | rfl | simp at y2
   obtain ⟨b, hb⟩ : ∃ b, decide ((n : Int) < ps.length) = b := ⟨_, rfl⟩
   cases b
   ·apply EvC.seq
    apply EvC.trd
    ·simp only [go_sem, hl0', hdl', hb] <;> rfl
    ·simp
    refine EvC.cf ?_
    refine EvC.exit ?_
    refine EvC.a ?_
    refine EvC.cs ?_
    refine EvC.b ?_ (hok := by exact inI64_of (by omega) (by omega))
    exact ⟨dK ps.length, (i + 1, ps'), hgk, (by rw [hiZ]; simp only [go_sem, hhi, hgc', y2, hes, Int.natCast_add, Int.natCast_one] <;> rfl), ⟨hil, hdv, by simp only; omega, y3, hhd⟩, by simp only; omega⟩
   ·apply EvC.seq
    apply EvC.trd
    ·simp only [go_sem, hl0', hdl', hb] <;> rfl
    ·simp
    refine EvC.cf ?_
    refine EvC.exit ?_
    refine EvC.a ?_
    refine EvC.cs ?_
    refine EvC.b ?_ (hok := by exact inI64_of (by omega) (by omega))
    exact ⟨dK ps.length, (i + 1, ps'), hgk, (by rw [hiZ]; simp only [go_sem, hhi, hgc', y2, hes, Int.natCast_add, Int.natCast_one] <;> rfl), ⟨hil, hdv, by simp only; omega, y3, hhd⟩, by simp only; omega⟩
 | false =>
 obtain ⟨rfl, hno⟩ := hno rfl
 clear hyes
 by_cases hnl : n < ps'.length
 rotate_left
 ·have hnI : decide ((n : Int) < ps'.length) = false := decide_eq_false (by omega)
  obtain rfl : n = ps'.length := by omega
  apply EvC.seq
  apply EvC.trd
  ·simp only [go_sem, hl0, hdl, hnI] <;> rfl
  ·simp
  refine EvC.cf ?_
  refine EvC.exit ?_
  refine EvC.a ?_
  refine EvC.ct ?_
  have hnew := dvPut_new (eqB := eqM) (x := x) (i := iZ) (ps := ps') fun q hq => by
   obtain ⟨j, hj, rfl⟩ := List.getElem_of_mem hq
   exact hno j _ hj (List.getElem?_eq_getElem hj)
  rw [hnew] at hdv hhd
  have hr2 : room (ps'.length + 1) 24 = true := by simp only [room_eq, decide_eq_true_eq]; omega
  refine EvC.b ?_ (by simp only [go_sem, hl0, hdl] <;> rfl) (by simp [hr2])
  obtain ⟨MM, hMM⟩ : ∃ MM : Mem, MM = (3000013, RObj.arr 1 [[.tl 3000012 1 false]] false) :: (3000012, .arr 1 [[.sc (.int .i64 iZ)]] false) :: mset (dM kN 1 ps') 0 (.arr 1 (dcA kN ps' 0 ++ [[.tl 3000012 1 false]]) false) := ⟨_, rfl⟩
  rw [← hMM]
  refine EvC.b ?_ (hok := by exact inI64_of (by omega) (by omega))
  have hgk1 := dK1_ok (n := ps'.length) (k := 3000012) hp6 rfl (by omega)
  have hhi1 := dK1_hi (n := ps'.length) (k0 := 3000012) (by omega)
  have hgc1 := dM_gc1 (e := 1) (M := MM) (k := 3000012) (x := x) (l := [iZ]) kN_norefs hp6 rfl (by omega) (by
   rw [hMM]; simp only [mlook]; rw [if_neg (by omega), if_neg (by omega), mlook_mset, if_pos rfl]; rfl) (fun j p hj => by
   have hjl := (List.getElem?_eq_some_iff.1 hj).1
   rw [hMM]; simp only [mlook]; rw [if_neg (by omega), if_neg (by omega), mlook_mset, if_neg (by omega), dM_lookR hj]) (by
   rw [hMM]; rfl)
  have hsl : ps'.length + 1 = (ps' ++ [(x, [iZ])]).length := by simp
  have hse : (ps' ++ [(x, [iZ])]).isEmpty = false := by simp
  have hqq : ∀ q ∈ ps' ++ [(x, [iZ])], q.2.length ≤ i + 1 := fun q hq => by
   rcases List.mem_append.1 hq with hq | hq
   ·have := hpq q hq; omega
   ·obtain rfl := List.mem_singleton.1 hq
    simp
  generalize ps' ++ [(x, [iZ])] = T at hgc1 hsl hse hdv hqq hhd
  exact ⟨dK1 ps'.length 3000012, (i + 1, T), hgk1, (by rw [hiZ]; simp only [go_sem, hhi1, hgc1, hsl, hse, Int.natCast_add, Int.natCast_one] <;> rfl), ⟨hil, hdv, by simp only; omega, hqq, hhd⟩, by simp only; omega⟩
 have hnI : decide ((n : Int) < ps'.length) = true := decide_eq_true (by omega)
 have hpe : ps'[n]? = some ps'[n] := List.getElem?_eq_getElem hnl
 have hpm := hpq _ (List.getElem_mem hnl)
 obtain ⟨h0, t0, ht1, ht2, ht3, ht4⟩ := hph _ (List.getElem_mem hnl)
 generalize ps'[n] = p at hpe hpm ht1 ht2
 obtain ⟨px, pw⟩ := p
 simp only at hpm ht1 ht2
 subst ht1
 have hg := dcA_get (kN : Mach → List AV) (s := 0) hpe
 rw [Nat.zero_add] at hg
 simp only [kN, List.nil_append] at hg
 have hxh := hin h0 ht3 ht4
 have hxhg := atM_get (X := X) (i := h0) (by omega)
 rw [← ht2] at hxh hxhg
 have q2 := alike50_is hxh.1 hxi.1 (by rw [hxh.2, hxi.2])
 have heq : eqM px x = (diffO px x).isNone := by
  simp only [eqM, equalR, bothR_zero hxh.1 hxi.1 (by rw [hxh.2, hxi.2])]; simp
 rw [← heq] at q2
 have hlr := dM_lookR (kc := (kN : Mach → List AV)) (e := 1) hpe
 simp only [List.map_cons, intC] at hlr
 obtain ⟨nZ, hnZ⟩ : ∃ z : Int, z = (n : Int) := ⟨_, rfl⟩
 have hnt : nZ.toNat = n := by omega
 rw [← hnZ] at hnI ⊢
 apply EvC.seq
 apply EvC.trd
 ·simp only [go_sem, hl0, hdl, hnI] <;> rfl
 ·simp
 refine EvC.cr ?_
 refine EvC.seq ?_
 refine EvC.block ?_
 apply EvC.seq
 apply EvC.drw mixed
 ·apply Tr.run
  ·simp only [go_sem, hl0, hdl, hg, hnt, hit, hlr, hxg, hxhg, Mach.cells, List.length_map, List.length_cons] <;> rfl
  ·simp; try omega
  apply Tr.cons
  ·exact .ca (q2)
  apply Tr.done
  ·simp only [go_sem] <;> rfl
  ·simp
 ·exact confAll_slots (by simp [rdOk, slotsOf, opSlots, memless, Op.operands, Call.operands]) (by kernel_rfl)
 obtain hpx | hpx : eqM px x = false ∨ eqM px x = true := by cases eqM px x <;> simp
 ·refine EvC.cs ?_ (by simp only [go_sem, hpx] <;> rfl)
  refine EvC.b ?_ (hok := by exact inI64_of (by omega) (by omega))
  refine ⟨dK ps'.length, (n + 1, false, ps'), hgk, (by rw [hnZ]; simp only [go_sem, hhi, hgc0, Int.natCast_add, Int.natCast_one] <;> rfl), ⟨hnl, fun _ => ⟨rfl, fun j q hj hq => ?_⟩, fun h => (by cases h)⟩, by simp only; omega⟩
  by_cases hjn : j = n
  ·subst hjn; rw [hpe] at hq; cases hq; exact hpx
  ·exact hno j q (by omega) hq
 refine EvC.ct ?_ (by simp only [go_sem, hpx] <;> rfl)
 have hset := dvPut_set (eqB := eqM) (x := x) (i := iZ) (ps := ps') (n := n) hno hpe hpx
 have hn6 : n < 1000000 := by omega
 have hr3 : room (t0.length + 1 + 1) 8 = true := by simp only [List.length_cons] at hpm; simp only [room_eq, decide_eq_true_eq]; omega
 have hl00 : ∀ o, mlook (mset (dM (kN : Mach → List AV) 1 ps') (2000000 + n) o) 0 = some (.arr 1 (dcA kN ps' 0) false) := fun o => by rw [mlook_mset, if_neg (by omega)]; exact hl0
 have hlrs : ∀ o, mlook (mset (dM (kN : Mach → List AV) 1 ps') (2000000 + n) o) (2000000 + n) = some o := fun o => by rw [mlook_mset, if_pos rfl]
 have hds := dcA_set (kN : Mach → List AV) (s := 0) (h0 :: t0 ++ [iZ]) hpe
 have hpl3 : (h0 :: t0 ++ [iZ]).length = t0.length + 1 + 1 := by simp
 rw [Nat.zero_add, hpl3] at hds
 simp only [kN, List.nil_append] at hds
 have hnl2 : notO (2000000 + n) = false := by unfold notO; simp; omega
 refine EvC.a ?_ (by simp only [go_sem, hl0, hl00, hlrs, hdl, hg, hnt, hlr, o_ne hn6, List.length_map, List.length_cons, hds] <;> rfl) (by simp [hr3, acell, hnl, hlrs]; try omega)
 have hpc : ([AV.sc (.int .i64 h0)] :: (t0.map intC ++ [[.sc (.int .i64 iZ)]])) = (h0 :: t0 ++ [iZ]).map intC := by simp [intC]
 rw [hpc]
 obtain ⟨MM, hMM⟩ : ∃ MM : Mem, MM = mset (mset (dM (kN : Mach → List AV) 1 ps') (2000000 + n) (.arr 1 ((h0 :: t0 ++ [iZ]).map intC) false)) 0 (.arr 1 (dcA kN (ps'.set n (px, h0 :: t0 ++ [iZ])) 0) false) := ⟨_, rfl⟩
 rw [show h0 :: (t0 ++ [iZ]) = h0 :: t0 ++ [iZ] from rfl, ← hMM]
 have hTl : (ps'.set n (px, h0 :: t0 ++ [iZ])).length = ps'.length := List.length_set
 have hM0 : mlook MM 0 = some (.arr 1 (dcA kN (ps'.set n (px, h0 :: t0 ++ [iZ])) 0) false) := by rw [hMM, mlook_mset, if_pos rfl]
 have hMr : ∀ j p, (ps'.set n (px, h0 :: t0 ++ [iZ]))[j]? = some p → mlook MM (2000000 + j) = some (.arr 1 (p.2.map intC) false) := fun j p hj => by
  rw [hMM, mlook_mset, if_neg (by omega), mlook_mset]
  rw [List.getElem?_set] at hj
  by_cases e : n = j
  ·subst e
   rw [if_pos rfl, if_pos hnl] at hj
   cases hj
   rw [if_pos rfl]
  ·rw [if_neg e] at hj
   rw [if_neg (by omega), dM_lookR hj]
 have hTq : ∀ q ∈ ps'.set n (px, h0 :: t0 ++ [iZ]), q.2.length ≤ i + 1 := fun q hq => by
  rcases List.mem_or_eq_of_mem_set hq with hq | rfl
  ·have := hpq q hq; omega
  ·simp only [List.length_append, List.length_cons, List.length_nil] at hpm ⊢; omega
 have hgcT := dM_gc (e := 1) (M := MM) (ps := ps'.set n (px, h0 :: t0 ++ [iZ])) kN_norefs (by omega) hM0 hMr
 rw [hTl] at hgcT
 clear hMM
 rw [← hset] at hTl hgcT hTq
 obtain ⟨T, hT⟩ : ∃ T, T = dvPut eqM x iZ ps' := ⟨_, rfl⟩
 rw [← hT] at hTl hgcT hTq
 refine EvC.b ?_
 refine EvC.b ?_ (hok := by exact inI64_of (by omega) (by omega))
 exact ⟨dK ps'.length, (n + 1, true, T), hgk, (by rw [hnZ]; simp only [go_sem, hhi, hgcT, Int.natCast_add, Int.natCast_one] <;> rfl), ⟨hnl, (fun h => by cases h), fun _ => ⟨hT, hTl, hTq⟩⟩, by simp only; omega⟩
section
variable {κ : Type} {e : Nat} {o1 : RObj} {ps : List (κ × List Int)} {M : Mem}
end
set_option maxRecDepth 100000
theorem tog_noNil : NoNil togM := fun r hr h => by
 simp only [togM, List.mem_cons, List.not_mem_nil, or_false] at hr
 rcases hr with rfl | rfl <;> cases h
def exL : List FA := [⟨0, 0, 0, 0, 0, 1⟩, ⟨0, 0, 1, 0, 0, 1⟩, ⟨0, 1, 0, 0, 0, 0⟩, ⟨0, 1, 1, 0, 0, 1⟩]
theorem ex_susp1 : suspA togM [0] 2 2 [⟨[0, 0], [0, 0], false, false⟩] 4 = .tu [.sl false ([⟨0, 1, 0, 0, 0, 0⟩].map FA.cells) .full, .sc (.bool false), .sc (.int .i64 0)] := by kernel_rfl
theorem ex_susp2 : suspA togM [0] 2 2 [⟨[0], [0], false, false⟩] 4 = .tu [.sl false ((exL.drop 1).map FA.cells) .full, .sc (.bool true), .sc (.int .i64 0)] := by kernel_rfl
theorem ex_next : nextA togM exL 2 = .tu [.sl false ([0, 0].map intC) .full, .sc (.int .i64 2), .sc (.int .i64 0)] := by kernel_rfl
def liT : List Nd := [⟨[0, 1, 2, 3], [0], [([1], 1), ([0], 2)]⟩, ⟨[0], [], []⟩, ⟨[1, 2, 3], [1], [([1], 3), ([0], 4)]⟩, ⟨[1], [], []⟩, ⟨[2, 3], [0, 0], [([0, 0], 5), ([0, 1], 6)]⟩, ⟨[2], [], []⟩, ⟨[3], [], []⟩]
theorem ex_diag : diagL (exL.map (mutF togM)) 4 = liT := by kernel_rfl
theorem ex_diagA : diagA togM exL = .tu [.sl false (liT.map ndC) .full, .sc (.int .i64 0)] := by
 have h1 : mutErr togM exL = 0 := by kernel_rfl
 rw [diagA, if_neg (by simp [h1]), if_neg (by simp [exL]), show exL.length = 4 from rfl, ex_diag]
theorem ex_cls : clsA togM [⟨1, 1, 1, 1, 0, 0⟩] = .tu [.sl true [] .unk, .sc (.int .i64 1)] := by kernel_rfl
set_option maxRecDepth 10000
abbrev fA (a b c d e f : Int) : List AV := [.sc (.int .i64 a), .sc (.int .i64 b), .sc (.int .i64 c), .sc (.int .i64 d), .sc (.int .i64 e), .sc (.int .i64 f)]
def togRs : List (List AV) := togM.rows.map rowC
abbrev togC : List AV := [.sc (.int .i64 2), .sc (.int .i64 2), .sl false togRs .unk]
theorem ex_tog_is : PureIs prog 32 [] (.ag togC) := toggle_is
abbrev iA (a : Int) : List AV := [.sc (.int .i64 a)]
abbrev exA : AV := .sl false [fA 0 0 0 0 0 1, fA 0 0 1 0 0 1, fA 0 1 0 0 0 0, fA 0 1 1 0 0 1] .full
theorem ex_one1_is : PureIs prog 41 [.sl false [iA 0, iA 0] .full, .sl false [iA 0, iA 0] .full] (.ag [.sc (.int .i64 2), .sc (.int .i64 2), .sl false [[.sl false [iA 0, iA 0] .unk, .sl false [iA 0, iA 0] .unk]] .unk]) :=
 (one_is false [0, 0] .full false [0, 0] .full).weakR
theorem ex_one2_is : PureIs prog 41 [.sl false [iA 0] .full, .sl false [iA 0] .full] (.ag [.sc (.int .i64 2), .sc (.int .i64 2), .sl false [[.sl false [iA 0] .unk, .sl false [iA 0] .unk]] .unk]) :=
 (one_is false [0] .full false [0] .full).weakR
theorem tog_rows : ∀ r ∈ togM.rows, r.2.length < 1000000 := by decide
theorem ex_susp1_is : PureIs prog 11 [.ag togC, .sl false [iA 0] .full, .ag [.sc (.int .i64 2), .sc (.int .i64 2), .sl false [[.sl false [iA 0, iA 0] .unk, .sl false [iA 0, iA 0] .unk]] .unk], .sc (.int .i64 4)] (.tu [.sl false [fA 0 1 0 0 0 0] .full, .sc (.bool false), .sc (.int .i64 0)]) := by
 have q := suspects_is togM tog_rows tog_noNil false [0] .unk (by decide) 2 2 false [⟨[0, 0], [0, 0], false, false⟩] ⟨by decide, by decide, by decide⟩ 4
 rw [ex_susp1] at q
 exact .weak q
theorem ex_susp2_is : PureIs prog 11 [.ag togC, .sl false [iA 0] .full, .ag [.sc (.int .i64 2), .sc (.int .i64 2), .sl false [[.sl false [iA 0] .unk, .sl false [iA 0] .unk]] .unk], .sc (.int .i64 4)] (.tu [.sl false [fA 0 0 1 0 0 1, fA 0 1 0 0 0 0, fA 0 1 1 0 0 1] .full, .sc (.bool true), .sc (.int .i64 0)]) := by
 have q := suspects_is togM tog_rows tog_noNil false [0] .unk (by decide) 2 2 false [⟨[0], [0], false, false⟩] ⟨by decide, by decide, by decide⟩ 4
 rw [ex_susp2] at q
 exact .weak q
theorem ex_next_is : PureIs prog 19 [.ag togC, exA, .sc (.int .i64 2)] (.tu [.sl false [iA 0, iA 0] .full, .sc (.int .i64 2), .sc (.int .i64 0)]) := by
 have q := next_is togM tog_rows tog_noNil false exL .unk (by decide) 2
 rw [ex_next] at q
 exact .weak q
theorem ex_diag_is : PureIs prog 22 [.ag togC, exA] (.tu [.sl false (liT.map ndC) .full, .sc (.int .i64 0)]) := by
 have q := diagnose_is togM tog_rows tog_noNil false exL .unk (by decide)
 rw [ex_diagA] at q
 exact .weak q
theorem ex_cls_is : PureIs prog 16 [.ag togC, .sl false [fA 1 1 1 1 0 0] .full] (.tu [.sl true [] .unk, .sc (.int .i64 1)]) := by
 have q := classes_is togM tog_rows tog_noNil false [⟨1, 1, 1, 1, 0, 0⟩] .unk (by decide)
 rw [ex_cls] at q
 exact .weak q
theorem ex_walk : walkA (liT.map ndG) togM = .tu [.sl false ([3].map intC) .full, .sl false ([[0], [1], [0, 0]].map askC) .full, .sc (.int .i64 0)] := by kernel_rfl
theorem ex_walk_is : PureIs prog 24 [.sl false (liT.map ndC) .full, .ag togC] (.tu [.sl false [iA 3] .full, .sl false [[.sl false [iA 0] .full], [.sl false [iA 1] .full], [.sl false [iA 0, iA 0] .full]] .full, .sc (.int .i64 0)]) := by
 have q := walk_is false (liT.map ndG) .full togM tog_rows (by
  intro d hd
  obtain ⟨x, hx, rfl⟩ := List.mem_map.1 hd
  have h1 : ∀ x ∈ liT, x.sus.length < 1000000 ∧ x.word.length < 1000000 ∧ x.br.length < 1000000 ∧ ∀ b ∈ x.br, b.1.length < 1000000 := by decide
  obtain ⟨g1, g2, g3, g4⟩ := h1 x hx
  refine ⟨⟨g1, g2, by show (x.br.map _).length < 1000000; rw [List.length_map]; exact g3, fun b hb => ?_⟩, ⟨(fun h => by cases h), fun h => ?_⟩⟩
  ·obtain ⟨y, hy, rfl⟩ := List.mem_map.1 hb
   exact g4 y hy
  ·exact List.isEmpty_iff.1 h) (by decide)
 rw [ex_walk, List.map_map, show ngC ∘ ndG = ndC from funext ndG_cells] at q
 exact q
theorem ex_same_is (na nb : Bool) (ca cb : Cp) (a : List Int) (hl : a.length < 1000000) : PureIs prog 21 [.sl na (a.map intC) ca, .sl nb (a.map intC) cb] (.sc (.bool true)) := by
 have q := same_is na a ca nb a cb hl
 rwa [decide_eq_true rfl] at q
theorem ex_sameF1_is : PureIs prog 13 [.sl false [fA 0 1 0 0 0 0] .full, .sl false [fA 0 1 0 0 0 0] .unk] (.sc (.bool true)) := by
 have q := sameF_is false [⟨0, 1, 0, 0, 0, 0⟩] .full false [⟨0, 1, 0, 0, 0, 0⟩] .unk (by decide)
 rwa [decide_eq_true rfl] at q
theorem ex_sameF2_is : PureIs prog 13 [.sl false [fA 0 0 1 0 0 1, fA 0 1 0 0 0 0, fA 0 1 1 0 0 1] .full, .sl false [fA 0 0 1 0 0 1, fA 0 1 0 0 0 0, fA 0 1 1 0 0 1] .full] (.sc (.bool true)) := by
 have q := sameF_is false [⟨0, 0, 1, 0, 0, 1⟩, ⟨0, 1, 0, 0, 0, 0⟩, ⟨0, 1, 1, 0, 0, 1⟩] .full false [⟨0, 0, 1, 0, 0, 1⟩, ⟨0, 1, 0, 0, 0, 0⟩, ⟨0, 1, 1, 0, 0, 1⟩] .full (by decide)
 rwa [decide_eq_true rfl] at q
set_option maxHeartbeats 4000000 in
theorem lives_is : PureIs prog 14 [] (.sc (.bool true)) := by
 refine PureIs.of1 16 [104, 165] func14 ntmps14 results14 fun _ => ?_
 refine EvC.a ?_
 apply EvC.s1
 ·apply Tr.run
  ·simp only [go_sem] <;> rfl
  ·simp
  apply Tr.cons
  ·exact .ca (ex_tog_is)
  apply Tr.done
  ·simp only [go_sem] <;> rfl
  ·simp
 refine EvC.z 2 ?_
 refine EvC.a ?_
 apply EvC.seq
 apply EvC.drw mixed
 ·apply Tr.run
  ·simp only [go_sem] <;> rfl
  ·simp
  apply Tr.cons
  ·exact .ca (ex_one1_is)
  apply Tr.run
  ·simp only [go_sem] <;> rfl
  ·simp
  apply Tr.cons
  ·exact .ca (ex_susp1_is)
  apply Tr.done
  ·simp only [go_sem] <;> rfl
  ·simp
 ·kernel_rfl
 apply EvC.seq
 apply EvC.drw mixed
 ·apply Tr.run
  ·simp only [go_sem] <;> rfl
  ·simp
  apply Tr.cons
  ·exact .ca (ex_one2_is)
  apply Tr.run
  ·simp only [go_sem] <;> rfl
  ·simp
  apply Tr.cons
  ·exact .ca (ex_susp2_is)
  apply Tr.done
  ·simp only [go_sem] <;> rfl
  ·simp
 ·kernel_rfl
 apply EvC.s1
 ·apply Tr.run
  ·simp only [go_sem] <;> rfl
  ·simp
  apply Tr.cons
  ·exact .ca (ex_next_is)
  apply Tr.done
  ·simp only [go_sem] <;> rfl
  ·simp
 have qd := ex_diag_is
 have qw := ex_walk_is
 have hTl : (liT.map ndC).length = 7 := rfl
 have hTn : (liT.map ndC).all AV.norefs = true := by decide
 have t0 : (liT.map ndC)[0]? = some [.sl false [iA 0, iA 1, iA 2, iA 3] .full, .sl false [iA 0] .full, bAV [([1], 1), ([0], 2)]] := rfl
 have t1 : (liT.map ndC)[1]? = some [.sl false [iA 0] .full, .sl true [] .zer, bAV []] := rfl
 have t2 : (liT.map ndC)[2]? = some [.sl false [iA 1, iA 2, iA 3] .full, .sl false [iA 1] .full, bAV [([1], 3), ([0], 4)]] := rfl
 have t3 : (liT.map ndC)[3]? = some [.sl false [iA 1] .full, .sl true [] .zer, bAV []] := rfl
 have t4 : (liT.map ndC)[4]? = some [.sl false [iA 2, iA 3] .full, .sl false [iA 0, iA 0] .full, bAV [([0, 0], 5), ([0, 1], 6)]] := rfl
 have t5 : (liT.map ndC)[5]? = some [.sl false [iA 2] .full, .sl true [] .zer, bAV []] := rfl
 have t6 : (liT.map ndC)[6]? = some [.sl false [iA 3] .full, .sl true [] .zer, bAV []] := rfl
 generalize liT.map ndC = T at qd qw hTl hTn t0 t1 t2 t3 t4 t5 t6
 apply EvC.s1
 ·apply Tr.run
  ·simp only [go_sem] <;> rfl
  ·simp
  apply Tr.cons
  ·exact .ca (qd)
  apply Tr.done
  ·simp only [go_sem] <;> rfl
  ·simp
 refine EvC.seq ?_
 apply EvC.s1
 ·apply Tr.run
  ·simp only [go_sem, hTl] <;> rfl
  ·simp
  apply Tr.cons
  ·exact .cg (ex_sameF1_is)
  apply Tr.run
  ·simp only [go_sem, hTl] <;> rfl
  ·simp
  apply Tr.cons
  ·exact .cg (ex_sameF2_is)
  apply Tr.run
  ·simp only [go_sem, hTl] <;> rfl
  ·simp
  apply Tr.cons
  ·exact .cg (ex_same_is false false .full .full [0, 0] (by decide))
  apply Tr.done
  ·simp only [go_sem] <;> rfl
  ·simp
 refine EvC.cs ?_ (by simp only [go_sem, hTl] <;> rfl)
 refine EvC.seq ?_
 apply EvC.s1
 ·apply Tr.run
  ·simp only [go_sem, hTl, t0, t1, t2, t3, t4, t5, t6] <;> rfl
  ·simp [hTl]
  apply Tr.cons
  ·exact .ca (ex_same_is false false .full .full [0] (by decide))
  apply Tr.run
  ·simp only [go_sem, hTl, t0, t1, t2, t3, t4, t5, t6] <;> rfl
  ·simp [hTl]
  apply Tr.cons
  ·exact .cg (ex_same_is false false .full .full [1] (by decide))
  apply Tr.run
  ·simp only [go_sem, hTl, t0, t1, t2, t3, t4, t5, t6] <;> rfl
  ·simp [hTl]
  apply Tr.cons
  ·exact .cg (ex_same_is false false .full .full [0, 0] (by decide))
  apply Tr.run
  ·simp only [go_sem, hTl, t0, t1, t2, t3, t4, t5, t6] <;> rfl
  ·simp [hTl]
  apply Tr.cons
  ·exact .cg (ex_same_is false false .full .full [0] (by decide))
  apply Tr.run
  ·simp only [go_sem, hTl, t0, t1, t2, t3, t4, t5, t6] <;> rfl
  ·simp [hTl]
  apply Tr.cons
  ·exact .cg (ex_same_is false false .full .full [1] (by decide))
  apply Tr.run
  ·simp only [go_sem, hTl, t0, t1, t2, t3, t4, t5, t6] <;> rfl
  ·simp [hTl]
  apply Tr.cons
  ·exact .cg (ex_same_is false false .full .full [2] (by decide))
  apply Tr.run
  ·simp only [go_sem, hTl, t0, t1, t2, t3, t4, t5, t6] <;> rfl
  ·simp [hTl]
  apply Tr.cons
  ·exact .cg (ex_same_is false false .full .full [3] (by decide))
  apply Tr.done
  ·simp only [go_sem] <;> rfl
  ·simp
 refine EvC.cs ?_
 apply EvC.s1
 ·apply Tr.run
  ·simp only [go_sem] <;> rfl
  ·simp
  apply Tr.cons
  ·exact .ca (qw)
  apply Tr.done
  ·simp only [go_sem] <;> rfl
  ·simp
 apply EvC.s1
 ·apply Tr.run
  ·simp only [go_sem] <;> rfl
  ·simp
  apply Tr.cons
  ·exact .ca (ex_cls_is)
  apply Tr.done
  ·simp only [go_sem] <;> rfl
  ·simp
 have qs : PureIs prog 17 [.sl false [[.sl false [iA 0] .full], [.sl false [iA 1] .full], [.sl false [iA 0, iA 0] .full]] .full, .sl false [[.sl false [iA 0] .full], [.sl false [iA 1] .full], [.sl false [iA 0, iA 0] .full]] .full] (.sc (.bool true)) := by
  have q := same37_is false false [(false, [0], .full), (false, [1], .full), (false, [0, 0], .full)] [(false, [0], .full), (false, [1], .full), (false, [0, 0], .full)] .full .full (by decide) (by decide)
  rw [sameW_refl] at q
  exact q
 apply EvC.s1
 ·apply Tr.run
  ·simp only [go_sem] <;> rfl
  ·simp
  apply Tr.cons
  ·exact .cg (ex_same_is false false .full .full [3] (by decide))
  apply Tr.run
  ·simp only [go_sem] <;> rfl
  ·simp
  apply Tr.cons
  ·exact .cg (qs)
  apply Tr.done
  ·simp only [go_sem] <;> rfl
  ·simp
 refine EvC.rz ?_
 simp only [go_sem]
theorem Valid.check {m : Mach} (h : Valid m) : checkM m = 0 := by
 have h1 := h.ins
 have h2 := h.outs
 have h3 := h.rows
 unfold checkM
 rw [if_neg (by omega), if_neg (by omega), if_pos]
 rw [List.all_eq_true]
 intro r hr
 obtain ⟨k1, k2⟩ := h.row r hr
 simp only [rowOk, Bool.and_eq_true, decide_eq_true_eq, Bool.not_eq_true', List.any_eq_false]
 exact ⟨k1, fun e he => by simpa using k2 e he⟩
theorem LM.small {x : LM} (h : x.Ok) : x.mach.rows.length ≤ 6 ∧ x.mach.ins ≤ 3 := by
 obtain ⟨b1, b2, b3, b4, b5, b6, -, -⟩ := LM.bounds h
 rw [show x.mach.rows.length = x.n by simp [LM.mach]]
 exact ⟨b2, by show (x.i : Int) ≤ 3; omega⟩
theorem LM.noNil (x : LM) : NoNil x.mach := fun r hr h => by
 simp only [LM.mach, List.mem_map] at hr
 obtain ⟨s, _, rfl⟩ := hr
 cases h
structure LogGood (m : Mach) (L : List TR) : Prop where
 len : L.length ≤ 8
 w : ∀ t ∈ L, t.w.length ≤ 8
 a : ∀ t ∈ L, ∀ a ∈ t.w, 0 ≤ a ∧ a < m.ins
 r : ∀ t ∈ L, t.r.length = t.w.length
 c : checkL m.ins m.outs L = 0
theorem sOfL_len (x : LM) (ls : List Int) : (sOfL x ls).length ≤ 16 := pickF_len _ _ 16
theorem sOfL_ok {x : LM} (hx : x.Ok) (ls : List Int) : ∀ f ∈ sOfL x ls, checkF x.mach f = 0 := fun f hf => checkF_small (faK_mem (pickF_mem hf)) (by have := (LM.small hx).1; omega)
theorem errFs_ok {m : Mach} : ∀ {fs : List FA}, (∀ f ∈ fs, checkF m f = 0) → errFs m fs = 0
 | [], _ => rfl
 | f :: fs, h => by rw [errFs, if_pos (h f List.mem_cons_self)]; exact errFs_ok fun g hg => h g (List.mem_cons_of_mem _ hg)
theorem mutErr_ok2 {m : Mach} {fs : List FA} (hv : Valid m) (hf : ∀ f ∈ fs, checkF m f = 0) (hl : fs.length ≤ 256) : mutErr m fs = 0 := by
 unfold mutErr
 rw [if_neg (by rw [hv.check]; simp), if_neg (by omega), errFs_ok hf]
theorem sumP_mem {κ : Type} : ∀ {ps : List (κ × List Int)} {p : κ × List Int}, p ∈ ps → p.2.length ≤ sumP ps
 | q :: ps, p, h => by
   rcases List.mem_cons.1 h with rfl | h
   ·simp [sumP]
   ·have := sumP_mem h
    simp only [sumP, List.map_cons, List.sum_cons] at this ⊢; omega
theorem sumP_len {κ : Type} : ∀ {ps : List (κ × List Int)}, (∀ p ∈ ps, p.2 ≠ []) → ps.length ≤ sumP ps
 | [], _ => Nat.zero_le _
 | q :: ps, h => by
   have h1 := sumP_len fun p hp => h p (List.mem_cons_of_mem _ hp)
   have h2 := List.length_pos_iff.2 (h q List.mem_cons_self)
   simp only [sumP, List.map_cons, List.sum_cons, List.length_cons] at h1 ⊢; omega
theorem dvL_bd2 {κ : Type} (eqB : κ → κ → Bool) (K : Int → κ) (is : List Int) : (dvL eqB K is []).length ≤ is.length ∧ ∀ p ∈ dvL eqB K is [], p.2.length ≤ is.length := by
 have h := dvL_sum (eqB := eqB) (K := K) is []
 have h0 : sumP ([] : List (κ × List Int)) = 0 := rfl
 rw [h0, Nat.zero_add] at h
 rw [← h]
 exact ⟨sumP_len (dvL_ne2 is), fun p hp => sumP_mem hp⟩
theorem idL_len (n : Nat) : (idL n).length = n := by simp [idL]
set_option maxHeartbeats 4000000 in
theorem culpritsClasses_is {x : LM} (hx : x.Ok) (ln : Bool) (ls : List Int) (lc : Cp) (hls : ∀ v ∈ ls, 0 ≤ v ∧ v < 65536) :
  PureIs prog 4 [.ag (x.cells ++ [.sl ln (ls.map u16C) lc])] (.sc (.bool true)) := by
 have va := LM.valid hx
 have q0 := sOf19_is hx ln ls lc hls
 have hfv := sOfL_ok hx ls
 have hfl := sOfL_len x ls
 have hcl : x.cells ++ [AV.sl ln (ls.map u16C) lc] = [.sc (.int .u8 x.st), .sc (.int .u8 x.ins), .sc (.int .u8 x.outs), .sc (.bool x.part), .sl x.nl (x.es.map u16C) x.cap, .sl ln (ls.map u16C) lc] := rfl
 rw [hcl] at q0 ⊢
 have hnn := LM.noNil x
 generalize sOfL x ls = fs at q0 hfv hfl
 generalize x.mach = m at va q0 hfv hnn
 have q1 := classes_is m va.small hnn fs.isEmpty fs .unk (by omega)
 have q2 := refclasses_is m va fs.isEmpty fs .unk hfv (by omega)
 rw [clsA, if_pos (mutErr_ok2 va hfv (by omega))] at q1
 have hn := fas_norefs fs
 obtain ⟨C, hC⟩ : ∃ C, C = dvL eqM (atM (fs.map (mutF m))) (idL fs.length) [] := ⟨_, rfl⟩
 have hL : classL (fs.map (mutF m)) fs.length = C.map (·.2) := by rw [hC]; rfl
 rw [hL, List.map_map] at q1
 rw [← hC] at q2
 have hbd := dvL_bd2 eqM (atM (fs.map (mutF m))) (idL fs.length)
 rw [← hC, idL_len] at hbd
 have q3 := same37_is false fs.isEmpty (C.map fun p => (false, p.2, .full)) (C.map fun p => (false, p.2, .unk)) .full .unk (by rw [List.length_map]; omega) (fun y hy => by obtain ⟨p, hp, rfl⟩ := List.mem_map.1 hy; have := hbd.2 p hp; simp only; omega)
 rw [sameW_eq, decide_eq_true (by rw [List.map_map, List.map_map]; rfl), List.map_map, List.map_map] at q3
 have h1 : ((fun l : List Int => ([AV.sl false (l.map intC) .full] : List AV)) ∘ fun p : Mach × List Int => p.2) = (rwC ∘ fun p : Mach × List Int => (false, p.2, Cp.full)) := rfl
 have h2 : partC (kN : Mach → List AV) = (rwC ∘ fun p : Mach × List Int => (false, p.2, Cp.unk)) := rfl
 rw [h1] at q1
 rw [h2] at q2
 have hg : ∀ k, k < C.length → ∃ l : List Int, (C.map (rwC ∘ fun p : Mach × List Int => (false, p.2, Cp.full)))[k]? = some [.sl false (l.map intC) .full] := fun k hk => ⟨C[k].2, by rw [List.getElem?_map, List.getElem?_eq_getElem hk]; rfl⟩
 have hCl : C.length < 1000000 := by omega
 have hl1 : (C.map (rwC ∘ fun p : Mach × List Int => (false, p.2, Cp.full))).length = C.length := List.length_map _
 have hl2 : (C.map (rwC ∘ fun p : Mach × List Int => (false, p.2, Cp.unk))).length = C.length := List.length_map _
 have hn1 : (C.map (rwC ∘ fun p : Mach × List Int => (false, p.2, Cp.full))).all AV.norefs = true := by rw [← List.map_map]; exact norefs_rw _
 have hn2 : (C.map (rwC ∘ fun p : Mach × List Int => (false, p.2, Cp.unk))).all AV.norefs = true := by rw [← List.map_map]; exact norefs_rw _
 generalize C.map (rwC ∘ fun p : Mach × List Int => (false, p.2, Cp.full)) = A at q1 q3 hg hl1 hn1
 generalize C.map (rwC ∘ fun p : Mach × List Int => (false, p.2, Cp.unk)) = B at q2 q3 hl2 hn2
 have hfl2 : (fs.map FA.cells).length = fs.length := List.length_map _
 generalize fs.map FA.cells = FS at q0 q1 q2 hn hfl2
 have q4 := lives_is
 rw [Mach.cells] at q0 q1 q2
 refine PureIs.of1 8 [35, 39, 52] func4 ntmps4 results4 fun _ => ?_
 refine EvC.a ?_
 refine EvC.z 0 ?_
 apply EvC.s1
 ·apply Tr.run
  ·simp only [go_sem] <;> rfl
  ·simp
  apply Tr.cons
  ·exact .ca (q0)
  apply Tr.done
  ·simp only [go_sem] <;> rfl
  ·simp
 refine EvC.z 7 ?_
 apply EvC.s1
 ·apply Tr.run
  ·simp only [go_sem] <;> rfl
  ·simp
  apply Tr.cons
  ·exact .ca (q1)
  apply Tr.done
  ·simp only [go_sem, hn] <;> rfl
  ·simp [hn]
 refine EvC.seq ?_
 apply EvC.s1
 ·apply Tr.run
  ·simp only [go_sem, hl1, hl2, hn1, hn2] <;> rfl
  ·simp
  apply Tr.cons
  ·exact .cg (q2)
  apply Tr.run
  ·simp only [go_sem, hl1, hl2, hn1, hn2] <;> rfl
  ·simp
  apply Tr.cons
  ·exact .cg (q3)
  apply Tr.done
  ·simp only [go_sem] <;> rfl
  ·simp
 refine EvC.cs ?_ (by simp only [go_sem, hl1] <;> rfl)
 refine EvC.seq ?_
 refine EvC.a ?_
 refine EvC.block ?_
 refine EvC.loopS (σ := Nat) (fun i => ⟨[(5, .sl false A .full), (7, .sc (.int .i64 i))], [], [], 0⟩) (fun i => C.length - i) (fun i => i ≤ C.length) [5, 7] 0 ?_ ?_
 ·exact ⟨[], 0, rfl, (by simp only [go_sem, Int.natCast_zero, hn1] <;> rfl), Nat.zero_le _⟩
 intro i hi
 refine EvC.seq ?_
 refine EvC.a ?_ (by simp only [go_sem, hl1, hn1] <;> rfl)
 refine EvC.cond (by simp only [go_sem] <;> rfl) (fun hc => ?_) (fun hc => ?_)
 rotate_left
 ·refine EvC.exit ?_
  apply EvC.s1
  ·apply Tr.run
   ·simp only [go_sem] <;> rfl
   ·simp
   apply Tr.cons
   ·exact .ca (q4)
   apply Tr.done
   ·simp only [go_sem] <;> rfl
   ·simp
  refine EvC.rz ?_
  simp only [go_sem]
 have hil : i < C.length := by simpa using hc
 clear hc
 obtain ⟨l, hl⟩ := hg i hil
 have hit : ((i : Int)).toNat = i := Int.toNat_natCast i
 refine EvC.skip ?_
 refine EvC.seq ?_
 refine EvC.block ?_
 apply EvC.seq
 apply EvC.drd mixed
 ·simp only [go_sem, hl, hl1, hn1, hit] <;> rfl
 ·simp [hl1]; try omega
 ·kernel_rfl
 refine EvC.cs ?_
 refine EvC.b ?_ (hok := by exact inI64_of (by omega) (by omega))
 exact ⟨[], i + 1, rfl, (by simp only [go_sem, Int.natCast_add, Int.natCast_one] <;> rfl), hil, by omega⟩
open Go Go.ChangeShapes Go.RowKit
def Live (w : World) : Nat → Nat → Prop := fun b _ => b < w.heap.size
section
variable {H : Type} {enc : TypeId × Value → H} {P : Program} {w : World} {α β : Type}
def Fits (P : Program) (t : TypeId) (d : DataW H) : Prop := ∀ n ∈ d.weights P t, n ≤ reachBytes
theorem fits_all {P : Program} {e : TypeId} : ∀ {l : List (DataW H)}, (∀ n ∈ DataW.weightsAll P e l, n ≤ reachBytes) → ∀ d ∈ l, Fits P e d
 | [], _, d, hd => by cases hd
 | a :: l, h, d, hd => by
   simp only [DataW.weightsAll, List.mem_append] at h
   rcases List.mem_cons.1 hd with rfl | hd
   ·exact fun n hn => h n (.inl hn)
   ·exact fits_all (fun n hn => h n (.inr hn)) d hd
theorem fits_each {P : Program} : ∀ {ts : List TypeId} {l : List (DataW H)}, (∀ n ∈ DataW.weightsEach P ts l, n ≤ reachBytes) → ∀ (i : Nat) t d, ts[i]? = some t → l[i]? = some d → Fits P t d
 | [], _, _, i, t, d, h1, _ => by simp at h1
 | _ :: _, [], _, i, t, d, _, h2 => by simp at h2
 | a :: ts, b :: l, h, i, t, d, h1, h2 => by
   simp only [DataW.weightsEach, List.mem_append] at h
   cases i with
   | zero =>
     simp only [List.getElem?_cons_zero, Option.some.injEq] at h1 h2
     subst h1; subst h2
     exact fun n hn => h n (.inl hn)
   | succ i => exact fits_each (fun n hn => h n (.inr hn)) i t d (by simpa using h1) (by simpa using h2)
def Reads (enc : TypeId × Value → H) (P : Program) (w : World) (t : TypeId) (f : α → List AV) (Ok : α → Prop) : Prop :=
 ∀ fuel cs x, Fits P t x.1 → DataW.trod enc P w 0 (fun _ => true) true fuel t cs = some x →
   ∃ a, Ok a ∧ Imms (Live w) w cs (f a) ∧ ∀ v ∈ cs, v.oneCell' = true
theorem Imms.one {F : Nat → Nat → Prop} {v : Value} {x : AV} (h : Imm F w v x) : Imms F w [v] [x] :=
 ⟨rfl, fun i h1 _ => by have : i = 0 := by simpa using h1
                        subst this; exact h⟩
theorem Imms.append {F : Nat → Nat → Prop} {vs vs' : List Value} {xs xs' : List AV} (h : Imms F w vs xs) (h' : Imms F w vs' xs') : Imms F w (vs ++ vs') (xs ++ xs') := by
 have e := h.1
 have e' := h'.1
 refine ⟨by simp [e, e'], fun i h1 h2 => ?_⟩
 by_cases hi : i < vs.length
 ·rw [List.getElem_append_left hi, List.getElem_append_left (by omega)]; exact h.2 i _ _
 ·rw [List.getElem_append_right (by omega), List.getElem_append_right (by omega)]
  have := h'.2 (i - vs.length) (by simp at h1; omega) (by simp at h2; omega)
  simpa only [e] using this
theorem Reads.mono {t : TypeId} {f : α → List AV} {Ok : α → Prop} {g : β → List AV} {Ok' : β → Prop} (h : Reads enc P w t f Ok) (hq : ∀ a, Ok a → ∃ b, Ok' b ∧ g b = f a) : Reads enc P w t g Ok' :=
 fun fuel cs x hs ht => let ⟨a, h1, h2, h3⟩ := h fuel cs x hs ht; let ⟨b, k1, k2⟩ := hq a h1; ⟨b, k1, by rw [k2]; exact h2, h3⟩
theorem Reads.int {t : TypeId} {k : IntKind} (ht : P.underlying t = some (.int k)) : Reads enc P w t (fun n : Int => [.sc (.int k n)]) (fun n => (Lit.int k n).wf = true) := fun fuel cs x _ h => by
 obtain ⟨n, rfl, rfl, hw⟩ := DataW.trod_int ht h
 exact ⟨n, hw, .one (.sc _), by simp [Value.oneCell']⟩
theorem Reads.bool {t : TypeId} (ht : P.underlying t = some .bool) : Reads enc P w t (fun b : Bool => [.sc (.bool b)]) (fun _ => True) := fun fuel cs x _ h => by
 obtain ⟨b, rfl, rfl⟩ := DataW.trod_bool ht h
 exact ⟨b, trivial, .one (.sc _), by simp [Value.oneCell']⟩
theorem pick {α : Type} {p : Nat → α → Prop} (n : Nat) (h : ∀ i, i < n → ∃ a, p i a) : ∃ l : List α, l.length = n ∧ ∀ i (hi : i < l.length), p i l[i] := by
 induction n with
 | zero => exact ⟨[], rfl, fun i hi => by simp at hi⟩
 | succ n ih =>
   obtain ⟨l, h1, h2⟩ := ih fun i hi => h i (by omega)
   obtain ⟨a, ha⟩ := h n (by omega)
   refine ⟨l ++ [a], by simp [h1], fun i hi => ?_⟩
   by_cases h3 : i < l.length
   ·rw [List.getElem_append_left h3]; exact h2 i h3
   ·have : i = l.length := by simp at hi; omega
    subst this
    rw [List.getElem_append_right (Nat.le_refl _)]
    simpa [h1] using ha
theorem Reads.slice {t e : TypeId} {f : α → List AV} {Ok : α → Prop} (ht : P.underlying t = some (.slice e)) (he : Reads enc P w e f Ok) (hz : ∀ a, (f a).length = P.cellsOf e) (hz0 : 0 < P.cellsOf e) :
  Reads enc P w t (fun x : Bool × List α => [.sl x.1 (x.2.map f) .unk]) (fun x => (∀ y ∈ x.2, Ok y) ∧ (x.1 = true → x.2 = []) ∧ x.2.length * P.bytesOf e ≤ reachBytes) := fun fuel cs x hs h => by
 rcases DataW.trod_slice ht h with ⟨rfl, rfl⟩ | ⟨a, len, cap, elems, rest, n, rfl, rfl, rfl, _, hlc, hcm, hlen, hel, hrest, _⟩
 ·exact ⟨(true, []), ⟨by simp, fun _ => rfl, by simp⟩, .one (.nil _ (.inl rfl)), by simp [Value.oneCell']⟩
 unfold Fits at hs
 simp only [DataW.weights, ht, List.mem_cons, List.mem_append, List.length_map] at hs
 have hbytes : len * P.bytesOf e ≤ reachBytes := by
  have := hs _ (.inl rfl)
  rw [hlen, Nat.add_mul] at this; omega
 have hfit : ∀ i (hi : i < elems.length), Fits P e elems[i].1 := fun i hi =>
  fits_all (l := elems.map (·.1)) (fun n hn => hs n (.inr (.inl hn))) _ (List.mem_map.2 ⟨_, List.getElem_mem hi, rfl⟩)
 by_cases hc0 : cap = 0
 ·have hl0 : len = 0 := by omega
  subst hc0; subst hl0
  exact ⟨(false, []), ⟨by simp, by simp, by simp⟩, .one (.sz a _ (.inl rfl)), by simp [Value.oneCell']⟩
 have hfirst : ∃ v, w.cell? a = some v := by
  have hcells : ∃ cs', w.cells? 0 a (P.cellsOf e) = some cs' := by
   by_cases hl0 : len = 0
   ·subst hl0
    have h1 := (hrest rfl).2 0 (by omega)
    rw [List.getElem?_eq_getElem (by rw [(hrest rfl).1]; omega)] at h1
    obtain ⟨cs', h2, _⟩ := Option.bind_eq_some_iff.1 h1
    refine ⟨cs', ?_⟩
    simpa [Addr.add] using h2
   ·have h1 := hel 0 (by omega)
    rw [List.getElem?_eq_getElem (by omega)] at h1
    obtain ⟨cs', h2, _⟩ := Option.bind_eq_some_iff.1 h1
    refine ⟨cs', ?_⟩
    simpa [Addr.add] using h2
  obtain ⟨cs', h2⟩ := hcells
  obtain ⟨_, q1, q2⟩ := World.cells?_some h2
  have := q2 0 hz0
  rw [List.getElem?_eq_getElem (by omega)] at this
  exact ⟨_, by simpa [Addr.add] using this⟩
 have hsp : a.spot = none := by
  obtain ⟨v, hv⟩ := hfirst
  unfold World.cell? at hv
  cases hsp : a.spot with
  | none => rfl
  | some k =>
    rw [hsp] at hv
    split at hv <;> simp at hv
 obtain ⟨b, off, spt⟩ := a
 cases hsp
 have key : ∀ i, i < len → ∃ y : α, Ok y ∧ ∃ cs', cs'.length = P.cellsOf e ∧ (∀ j (hj : j < cs'.length), w.cell? ⟨b, off + i * P.cellsOf e + j, none⟩ = some cs'[j]) ∧ Imms (Live w) w cs' (f y) ∧ ∀ v ∈ cs', v.oneCell' = true := fun i hi => by
  have h1 := hel i hi
  rw [List.getElem?_eq_getElem (by omega)] at h1
  obtain ⟨cs', h2, h3⟩ := Option.bind_eq_some_iff.1 h1
  obtain ⟨y, k1, k2, k3⟩ := he _ _ _ (hfit i (by omega)) h3
  obtain ⟨_, q1, q2⟩ := World.cells?_some h2
  refine ⟨y, k1, cs', q1, fun j hj => ?_, k2, k3⟩
  have := q2 j (by omega)
  rw [List.getElem?_eq_getElem hj] at this
  rw [← this]
  congr 1
  unfold Addr.add
  by_cases e1 : i * P.cellsOf e = 0
  ·rw [if_pos e1]
   by_cases e2 : j = 0
   ·subst e2; simp [e1]
   ·rw [if_neg e2]; simp [e1]
  ·rw [if_neg e1]
   by_cases e2 : j = 0
   ·subst e2; simp
   ·rw [if_neg e2]
 obtain ⟨l, hl, hp⟩ := pick len key
 refine ⟨(false, l), ⟨fun y hy => ?_, by simp, by rw [hl]; exact hbytes⟩, .one ?_, by simp [Value.oneCell']⟩
 ·obtain ⟨i, hi, rfl⟩ := List.getElem_of_mem hy
  exact (hp i hi).1
 ·
  have hcell : ∀ i j, i < len → j < P.cellsOf e → ∃ v, w.cell? ⟨b, off + i * P.cellsOf e + j, none⟩ = some v ∧ v.oneCell' = true ∧ ∀ (h : i < l.length) (h' : j < (f l[i]).length), Imm (Live w) w v (f l[i])[j] := fun i j hi hj => by
   obtain ⟨_, cs', q1, q2, q3, q4⟩ := hp i (by omega)
   exact ⟨cs'[j], q2 j (by omega), q4 _ (List.getElem_mem _), fun h h' => q3.2 j (by omega) h'⟩
  have hv := fun i j => show ∃ v, i < len → j < P.cellsOf e → w.cell? ⟨b, off + i * P.cellsOf e + j, none⟩ = some v ∧ v.oneCell' = true ∧ ∀ (h : i < l.length) (h' : j < (f l[i]).length), Imm (Live w) w v (f l[i])[j] from by
   by_cases h : i < len ∧ j < P.cellsOf e
   ·obtain ⟨v, hv⟩ := hcell i j h.1 h.2; exact ⟨v, fun _ _ => hv⟩
   ·exact ⟨undef, fun h1 h2 => absurd ⟨h1, h2⟩ h⟩
  have hvs : ∀ i j, ∃ v, v = Classical.choose (hv i j) := fun i j => ⟨_, rfl⟩
  have e0 : (l.map f).length = len := by simp [hl]
  have := Imm.sl (F := Live w) (w := w) b off cap (P.cellsOf e) (l.map f) .unk (fun i j => Classical.choose (hv i j)) (by rw [e0]; exact hlc) (.inl rfl) (fun i hi => by rw [List.getElem_map]; exact hz _)
   (fun i j hi hj => by
    obtain ⟨k1, k2, _⟩ := Classical.choose_spec (hv i j) (by rw [← e0]; exact hi) hj
    refine ⟨?_, k1, k2⟩
    unfold World.cell? at k1
    show b < w.heap.size
    cases hb : w.heap[b]? with
    | none => simp [hb] at k1
    | some o => exact (Array.getElem?_eq_some_iff.1 hb).1)
   (fun i j h h' => by
    have h'2 := h'
    rw [List.getElem_map, hz] at h'2
    have := (Classical.choose_spec (hv i j) (by rw [← e0]; exact h) h'2).2.2 (by simpa using h) (by rw [hz]; exact h'2)
    simpa only [List.getElem_map] using this)
  rw [e0] at this
  exact this
def RdF (enc : TypeId × Value → H) (P : Program) (w : World) (L : List Field) (k tot : Nat) (f : α → List AV) (Ok : α → Prop) : Prop :=
 ∀ (n : Nat) (cs : List Value), cs.length = tot → (∀ fd ∈ L, ∃ y, DataW.trod enc P w 0 (fun _ => true) true n fd.type ((cs.drop fd.offset).take (P.cellsOf fd.type)) = some y ∧ Fits P fd.type y.1) →
   ∃ a, Ok a ∧ Imms (Live w) w (cs.drop k) (f a) ∧ ∀ v ∈ cs.drop k, v.oneCell' = true
theorem RdF.nil {tot : Nat} : RdF enc P w [] tot tot (fun _ : Unit => []) (fun _ => True) := fun n cs hl _ => by
 have : cs.drop tot = [] := by rw [List.drop_eq_nil_iff]; omega
 rw [this]
 exact ⟨(), trivial, ⟨rfl, fun i h => by simp at h⟩, by simp⟩
theorem RdF.cons {fd : Field} {fs : List Field} {k k' sz tot : Nat} {f : α → List AV} {Ok : α → Prop} {g : β → List AV} {Ok' : β → Prop} (ho : fd.offset = k) (hz : P.cellsOf fd.type = sz) (hk : k + sz = k')
  (h : Reads enc P w fd.type f Ok) (hs : RdF enc P w fs k' tot g Ok') : RdF enc P w (fd :: fs) k tot (fun x : α × β => f x.1 ++ g x.2) (fun x => Ok x.1 ∧ Ok' x.2) := fun n cs hl hf => by
 obtain ⟨y, hy, hyf⟩ := hf fd List.mem_cons_self
 obtain ⟨a, h1, h2, h3⟩ := h _ _ _ hyf hy
 obtain ⟨b, k1, k2, k3⟩ := hs n cs hl fun fd' h' => hf fd' (List.mem_cons_of_mem _ h')
 have e : cs.drop k = (cs.drop k).take sz ++ cs.drop k' := by
  rw [← hk, ← List.drop_drop, List.take_append_drop]
 rw [ho, hz] at h2 h3
 refine ⟨(a, b), ⟨h1, k1⟩, by rw [e]; exact h2.append k2, fun v hv => ?_⟩
 rw [e, List.mem_append] at hv
 rcases hv with hv | hv
 ·exact h3 v hv
 ·exact k3 v hv
theorem Reads.struct {t : TypeId} {fs : Array Field} {tot : Nat} {f : α → List AV} {Ok : α → Prop} (ht : P.underlying t = some (.struct fs)) (hz : P.cellsOf t = tot) (h : RdF enc P w fs.toList 0 tot f Ok) : Reads enc P w t f Ok := fun fuel cs x hs hx => by
 obtain ⟨xs, n, _, rfl, hl, hlen, hf⟩ := DataW.trod_struct ht hx
 unfold Fits at hs
 simp only [DataW.weights, ht] at hs
 obtain ⟨a, h1, h2, h3⟩ := h n cs (hl.trans hz) fun fd hfd => by
  obtain ⟨i, hi, rfl⟩ := List.getElem_of_mem hfd
  have := hf i fs.toList[i] (by simp)
  have hix : i < xs.length := by simp at hi; omega
  rw [List.getElem?_eq_getElem hix] at this
  exact ⟨_, this, fits_each hs i _ _ (by rw [List.getElem?_map, List.getElem?_eq_getElem hi]; rfl) (by rw [List.getElem?_map, List.getElem?_eq_getElem hix]; rfl)⟩
 exact ⟨a, h1, by simpa using h2, by simpa using h3⟩
theorem arr_go {sz : Nat} {f : α → List AV} {Ok : α → Prop} : ∀ (n : Nat) (cs : List Value), cs.length = n * sz →
  (∀ i, i < n → ∃ a, Ok a ∧ Imms (Live w) w ((cs.drop (i * sz)).take sz) (f a) ∧ ∀ v ∈ (cs.drop (i * sz)).take sz, v.oneCell' = true) →
  ∃ l : List α, l.length = n ∧ (∀ a ∈ l, Ok a) ∧ Imms (Live w) w cs (l.map f).flatten ∧ ∀ v ∈ cs, v.oneCell' = true
 | 0, cs, hl, _ => by
   have : cs = [] := by cases cs with
    | nil => rfl
    | cons a l => simp at hl
   subst this
   exact ⟨[], rfl, by simp, ⟨rfl, fun i h => by simp at h⟩, by simp⟩
 | n + 1, cs, hl, h => by
   obtain ⟨a, h1, h2, h3⟩ := h 0 (by omega)
   obtain ⟨l, k1, k2, k3, k4⟩ := arr_go (sz := sz) n (cs.drop sz) (by rw [List.length_drop, hl, Nat.add_mul]; omega) fun i hi => by
    have := h (i + 1) (by omega)
    rwa [List.drop_drop, show sz + i * sz = (i + 1) * sz by rw [Nat.add_mul]; omega]
   simp only [Nat.zero_mul, List.drop_zero] at h2 h3
   have e := List.take_append_drop sz cs
   refine ⟨a :: l, by simp [k1], fun b hb => ?_, ?_, fun v hv => ?_⟩
   ·rcases List.mem_cons.1 hb with rfl | hb
    ·exact h1
    ·exact k2 b hb
   ·rw [← e]; simpa using h2.append k3
   ·rw [← e, List.mem_append] at hv
    rcases hv with hv | hv
    ·exact h3 v hv
    ·exact k4 v hv
theorem Reads.array {t e : TypeId} {n sz : Nat} {f : α → List AV} {Ok : α → Prop} (ht : P.underlying t = some (.array n e)) (hz : P.cellsOf e = sz) (ha : P.cellsOf t = n * sz) (h : Reads enc P w e f Ok) :
  Reads enc P w t (fun l : List α => (l.map f).flatten) (fun l => l.length = n ∧ ∀ a ∈ l, Ok a) := fun fuel cs x hs hx => by
 obtain ⟨xs, m, _, rfl, hl, hlen, hf⟩ := DataW.trod_array ht hx
 rw [ha] at hl
 rw [hz] at hf
 unfold Fits at hs
 simp only [DataW.weights, ht] at hs
 obtain ⟨l, h1, h2, h3, h4⟩ := arr_go n cs hl fun i hi => by
  have := hf i hi
  rw [List.getElem?_eq_getElem (by omega)] at this
  exact h _ _ _ (fits_all hs _ (List.mem_map.2 ⟨_, List.getElem_mem _, rfl⟩)) this
 exact ⟨l, ⟨h1, h2⟩, h3, h4⟩
theorem Reads.imm_struct {t : TypeId} {fs : Array Field} {f : α → List AV} {Ok : α → Prop} {r : Reach} {b0 : Nat} {v : Value} {d : DataW H} {ps : List MemPlace} (ht : P.underlying t = some (.struct fs)) (h : Reads enc P w t f Ok)
  (hv : Value.okWide P w r b0 t v) (hw : Fits P t d) (hd : DataW.Trod enc P w 0 (fun _ => true) true t v d ps) : ∃ a, Ok a ∧ Imm (Live w) w v (.ag (f a)) := by
 obtain ⟨cs, rfl, _⟩ := WideShapes.okWide_struct ht hv
 obtain ⟨fuel, hd⟩ := hd
 obtain ⟨a, h1, h2, _⟩ := h _ _ _ hw hd
 refine ⟨a, h1, ?_⟩
 have : (Value.agg cs) = .agg cs.toList.toArray := by simp
 rw [this]
 exact .ag _ _ h2.1 h2.2
theorem Grown.below {F F' : Nat → Nat → Prop} {w' : World} (g : Avl.Grown F w F' w') : Below w.heap.size w w' := ⟨g.kept.os, g.kept.tape, g.kept.output, g.size, g.old⟩
theorem trodAll_stays (hl : laidOutB P = true) {w' : World} (hb : Below w.heap.size w w') {spf : Nat → Bool} : ∀ {ts : List TypeId} {vs : List Value} {ds : List (DataW H)} {ps : List MemPlace}, (∀ t ∈ ts, P.readableRec t = true ∧ t < P.types.size) →
  DataW.TrodAll enc P w 0 (fun _ => true) true ts vs ds ps → (∀ p ∈ ps, p.block < w.heap.size) → (∀ p ∈ ps, spf p.block = true) → DataW.TrodAll enc P w' 0 spf true ts vs ds ps
 | [], [], [], _, _, h, _, _ => h
 | t :: ts, v :: vs, d :: ds, _, hr, ⟨p, q, h1, h2, e⟩, hlt, hsp => by
   subst e
   refine ⟨p, q, ?_, trodAll_stays hl hb (fun t ht => hr t (List.mem_cons_of_mem _ ht)) h2 (fun x hx => hlt x (List.mem_append_right _ hx)) fun x hx => hsp x (List.mem_append_right _ hx), rfl⟩
   have := hr t List.mem_cons_self
   exact WideElems.Trod_stays hl this.1 this.2 h1 (fun x hx => hb.same (hlt x (List.mem_append_left _ hx))) fun x hx => hsp x (List.mem_append_left _ hx)
 | [], _ :: _, _, _, _, h, _, _ => h.elim
 | [], [], _ :: _, _, _, h, _, _ => h.elim
 | _ :: _, [], _, _, _, h, _, _ => h.elim
 | _ :: _, _ :: _, [], _, _, h, _, _ => h.elim
theorem law_calls {f : FuncId} {fn : Func} {s : ChangeSpec} {apart fresh handsOn again : Bool} {args : Array Value} {avs : List AV} {ds : List (DataW H)} {before : List MemPlace} {tb : TypeId}
  (hl : laidOutB P = true) (hrd : (fn.params.toList.all fun t => P.readableRec t && decide (t < P.types.size)) = true) (hrt : fn.resultTypes = #[tb]) (htb : P.underlying tb = some .bool) (hvars : s.vars = [])
  (hs : s.fn H (ds ++ []) = { results := [.lit (.bool true)], args := ds })
  (h : PureIs P f avs (.sc (.bool true))) (hi : Imms (Live w) w args.toList avs) (hW : DataW.Whole enc P fn.params.toList s.vars apart w args.toList ds [] before) (hgl : Globs (Live w) w := by exact fun g vs hg => by cases hg) :
  Calls P f args w fun e W' => ∃ v, e = .returned v ∧ s.post enc P fn apart fresh handsOn again w args v W' := by
 have hW' := hW
 obtain ⟨p, q, hA, hV, rfl, hfz, hnd⟩ := hW
 rw [hvars] at hV
 obtain ⟨_, rfl⟩ := trodVars_none hV
 have hc := callsIn_wide.1 (h.2 (Live w) w args.toList ⟨fun _ _ h => h, hgl⟩ hi)
 rw [Array.toArray_toList] at hc
 refine hc.mono fun e W' ⟨v, F', he, hr, g⟩ => ?_
 have hv : v = .bool true := by cases hr; rfl
 subst hv
 have hb := Grown.below g
 refine ⟨_, he, post_of_same (pa := p) (pv := []) (by simpa using hW') (fun _ _ _ => ?_) (fun sp hsp => ?_) (fun _ _ => ?_) (by simp) (hb.frame _) g.kept.froz ?_⟩
 ·rw [hs, hrt]; exact trodAll_mk1 (shut_bool htb true)
 ·rw [hs]
  refine trodAll_stays hl hb (fun t ht => ?_) hA (fun x hx => hW'.lt x (by simpa using hx)) fun x hx => hsp x (by simpa using hx)
  have := List.all_eq_true.1 hrd t ht
  simpa using this
 ·rw [hvars, hs]; exact rfl
 ·exact ok_one hrt rfl (okWide_bool_mk htb true)
end
open Go Go.Proofs
end Go.Avl
namespace Go.Proofs.YtgdcjkcohmjbeaaDoor
open Go Go.Avl Go.Proofs Go.ChangeShapes Go.RowKit
theorem Tryd.own : ownKnob Tryd.prog.godebug = none := by kernel_rfl
theorem Tryd.laidOut : laidOutB Tryd.prog = true := by kernel_rfl
abbrev laidT : List (String × DataW Unit) := [("gauntlet/faults.table", Rows.laid_gauntlet_faults_table)]
section
variable {H : Type} {enc : TypeId × Value → H} {w : World}
theorem u8wf {n : Int} (h : (Lit.int .u8 n).wf = true) : 0 ≤ n ∧ n < 256 := by
 simp [Lit.wf, IntKind.min, IntKind.max, IntKind.signed, IntKind.bits] at h
 omega
theorem len_of {n b : Nat} (hb : 1 ≤ b) (h : n * b ≤ reachBytes) : (n : Int) ≤ 140737488355328 := by
 have h1 : n * 1 ≤ n * b := Nat.mul_le_mul_left n hb
 have h2 : reachBytes ≤ 140737488355328 := by decide
 omega
theorem rd_u8 : Reads enc Tryd.prog w 5 u8C (fun n => 0 ≤ n ∧ n < 256) := (Reads.int (by kernel_rfl)).mono fun a h => ⟨a, u8wf h, rfl⟩
theorem u16wf {n : Int} (h : (Lit.int .u16 n).wf = true) : 0 ≤ n ∧ n < 65536 := by
 simp [Lit.wf, IntKind.min, IntKind.max, IntKind.signed, IntKind.bits] at h
 omega
theorem rd_u16 : Reads enc Tryd.prog w 25 u16C (fun n => 0 ≤ n ∧ n < 65536) := (Reads.int (by kernel_rfl)).mono fun a h => ⟨a, u16wf h, rfl⟩
theorem rd_u16s : Reads enc Tryd.prog w 22 (fun x : Bool × List Int => [.sl x.1 (x.2.map u16C) .unk]) (fun x => (∀ e ∈ x.2, 0 ≤ e ∧ e < 65536) ∧ (x.2.length : Int) ≤ 140737488355328) :=
 (Reads.slice (by kernel_rfl) rd_u16 (fun a => by rw [show Program.cellsOf Tryd.prog 25 = 1 by kernel_rfl]; rfl) (by rw [show Program.cellsOf Tryd.prog 25 = 1 by kernel_rfl]; exact Nat.succ_pos _)).mono fun a h => ⟨a, ⟨h.1, len_of (b := Program.bytesOf Tryd.prog 25) (by decide +kernel) h.2.2⟩, rfl⟩
theorem rd_LM : Reads enc Tryd.prog w 24 LM.cells LM.Ok := by
 have := (Reads.struct (enc := enc) (w := w) (tot := 5) Tryd.underlying24 (by kernel_rfl) (.cons (sz := 1) rfl (by kernel_rfl) rfl rd_u8 (.cons (sz := 1) rfl (by kernel_rfl) rfl rd_u8 (.cons (sz := 1) rfl (by kernel_rfl) rfl rd_u8 (.cons (sz := 1) rfl (by kernel_rfl) rfl (Reads.bool Tryd.underlying4)
  (.cons (sz := 1) rfl (by kernel_rfl) rfl rd_u16s .nil))))))
 exact this.mono fun a h => ⟨⟨a.1, a.2.1, a.2.2.1, a.2.2.2.1, a.2.2.2.2.1.1, a.2.2.2.2.1.2, .unk⟩, ⟨h.1.1, h.2.1.1, h.2.2.1.1, h.2.2.2.2.1.1⟩, rfl⟩
theorem rd_S : Reads enc Tryd.prog w 50 (fun x : LM × Bool × List Int => x.1.cells ++ [.sl x.2.1 (x.2.2.map u16C) .unk]) (fun x => x.1.Ok ∧ ∀ e ∈ x.2.2, 0 ≤ e ∧ e < 65536) := by
 have := (Reads.struct (enc := enc) (w := w) (tot := 6) Tryd.underlying50 (by kernel_rfl) (.cons (sz := 5) rfl (by kernel_rfl) rfl rd_LM (.cons (sz := 1) rfl (by kernel_rfl) rfl rd_u16s .nil)))
 exact this.mono fun a h => ⟨⟨a.1, a.2.1.1, a.2.1.2⟩, ⟨h.1, h.2.1.1⟩, by simp⟩
end
theorem gTable : Tryd.prog.globalNamed "gauntlet/faults.table" = some 0 := by kernel_rfl
theorem tTable : (Tryd.prog.globals[0]?).map (·.type) = some 179 := by kernel_rfl
theorem string_eq {s t : ByteArray} (h : s.data.toList = t.data.toList) : s = t := by
 obtain ⟨⟨l⟩⟩ := s; obtain ⟨⟨k⟩⟩ := t
 simp only at h
 rw [h]
set_option maxRecDepth 100000 in
theorem kind_cells {W : World} {m : Nat} {cs : List Value} {n : List UInt8} {a b c : Bool} {ps : List MemPlace} (h : DataW.trod (fun _ => ()) Tryd.prog W 0 (fun _ => true) false m 178 cs = some (.agg [.lit (.string n), .lit (.bool a), .lit (.bool b), .lit (.bool c)], ps)) :
  cs = [kindN n, .bool a, .bool b, .bool c] := by
 obtain ⟨xs, k, _, he, hl, hlen, hf⟩ := DataW.trod_struct Tryd.underlying178 h
 have hl4 : cs.length = 4 := hl.trans (by kernel_rfl)
 match cs, hl4 with
 | [c0, c1, c2, c3], _ =>
   have h0 : DataW.trod (fun _ => ()) Tryd.prog W 0 (fun _ => true) false k 9 (([c0, c1, c2, c3].drop 0).take (Program.cellsOf Tryd.prog 9)) = xs[0]? := hf 0 _ rfl
   have h1 : DataW.trod (fun _ => ()) Tryd.prog W 0 (fun _ => true) false k 4 (([c0, c1, c2, c3].drop 1).take (Program.cellsOf Tryd.prog 4)) = xs[1]? := hf 1 _ rfl
   have h2 : DataW.trod (fun _ => ()) Tryd.prog W 0 (fun _ => true) false k 4 (([c0, c1, c2, c3].drop 2).take (Program.cellsOf Tryd.prog 4)) = xs[2]? := hf 2 _ rfl
   have h3 : DataW.trod (fun _ => ()) Tryd.prog W 0 (fun _ => true) false k 4 (([c0, c1, c2, c3].drop 3).take (Program.cellsOf Tryd.prog 4)) = xs[3]? := hf 3 _ rfl
   have e9 : Program.cellsOf Tryd.prog 9 = 1 := by kernel_rfl
   have e4 : Program.cellsOf Tryd.prog 4 = 1 := by kernel_rfl
   simp only [e9, e4, List.drop_zero, List.drop_succ_cons, List.take_succ_cons, List.take_zero] at h0 h1 h2 h3
   match xs, hlen with
   | [x0, x1, x2, x3], _ =>
     simp only [Prod.mk.injEq, DataW.agg.injEq, List.map_cons, List.map_nil, List.cons.injEq, and_true] at he
     obtain ⟨⟨e0, e1, e2, e3⟩, _⟩ := he
     obtain ⟨s, q0, r0, _⟩ := DataW.trod_string Tryd.underlying9 h0
     obtain ⟨b1, q1, r1⟩ := DataW.trod_bool Tryd.underlying4 h1
     obtain ⟨b2, q2, r2⟩ := DataW.trod_bool Tryd.underlying4 h2
     obtain ⟨b3, q3, r3⟩ := DataW.trod_bool Tryd.underlying4 h3
     rw [r0] at e0; rw [r1] at e1; rw [r2] at e2; rw [r3] at e3
     simp only [DataW.lit.injEq, Lit.string.injEq, Lit.bool.injEq] at e0 e1 e2 e3
     simp only [List.cons.injEq, and_true] at q0 q1 q2 q3
     subst q0 q1 q2 q3 e1 e2 e3
     have : s = ⟨n.toArray⟩ := string_eq (by simpa using e0.symm)
     rw [this]; rfl
set_option maxRecDepth 100000 in
theorem globs_of {W : World} (h : laidMetH Tryd.prog laidT W) : Globs (Live W) W := by
 rw [MakeChecks.laidMetH_plain _ _ _ (by kernel_rfl)] at h
 obtain ⟨ps, ⟨g, t, cs, fuel, p, q, hg, ht, hvar, hd, _, _⟩, _, _⟩ := h
 obtain rfl := Option.some.inj (gTable.symm.trans hg)
 obtain rfl := Option.some.inj (tTable.symm.trans ht)
 obtain ⟨xs, m, _, he, hl, hlen, hf⟩ := DataW.trod_array Tryd.underlying179 hd
 have e178 : Program.cellsOf Tryd.prog 178 = 4 := by kernel_rfl
 have hl20 : cs.toList.length = 20 := hl.trans (by kernel_rfl)
 have hcs : cs.toList = kindTab := by
  rw [e178] at hf
  match xs, hlen with
  | [x0, x1, x2, x3, x4], _ =>
    have h0 := hf 0 (by decide)
    have h1 := hf 1 (by decide)
    have h2 := hf 2 (by decide)
    have h3 := hf 3 (by decide)
    have h4 := hf 4 (by decide)
    simp only [Rows.laid_gauntlet_faults_table, Prod.mk.injEq, DataW.agg.injEq, List.map_cons, List.map_nil, List.cons.injEq, and_true] at he
    obtain ⟨⟨e0, e1, e2, e3, e4⟩, _⟩ := he
    obtain ⟨d0, p0⟩ := x0
    obtain ⟨d1, p1⟩ := x1
    obtain ⟨d2, p2⟩ := x2
    obtain ⟨d3, p3⟩ := x3
    obtain ⟨d4, p4⟩ := x4
    simp only at e0 e1 e2 e3 e4
    subst e0 e1 e2 e3 e4
    have k0 := kind_cells h0
    have k1 := kind_cells h1
    have k2 := kind_cells h2
    have k3 := kind_cells h3
    have k4 := kind_cells h4
    have key : cs.toList = (cs.toList.drop (0 * 4)).take 4 ++ ((cs.toList.drop (1 * 4)).take 4 ++ ((cs.toList.drop (2 * 4)).take 4 ++ ((cs.toList.drop (3 * 4)).take 4 ++ (cs.toList.drop (4 * 4)).take 4))) := by
     have e : (cs.toList.drop (4 * 4)).take 4 = cs.toList.drop (4 * 4) := List.take_of_length_le (by rw [List.length_drop, hl20]; decide)
     rw [e]
     have s : ∀ k, cs.toList.drop (k * 4) = (cs.toList.drop (k * 4)).take 4 ++ cs.toList.drop ((k + 1) * 4) := fun k => by
      rw [show (k + 1) * 4 = k * 4 + 4 by omega, ← List.drop_drop, List.take_append_drop]
     have z : cs.toList = cs.toList.drop (0 * 4) := by simp
     exact z.trans ((s 0).trans (congrArg _ ((s 1).trans (congrArg _ ((s 2).trans (congrArg _ ((s 3).trans (congrArg _ rfl))))))))
    rw [k0, k1, k2, k3, k4] at key
    rw [key]; rfl
 intro g vs hgv j hj
 match g, hgv with
 | 0, hgv =>
   have hgv : kindTab = vs := by simpa [laidAt] using hgv
   subst hgv
   have hc := World.var?_cell gTable hvar j
   have : cs[j]? = some kindTab[j] := by rw [← Array.getElem?_toList, hcs, List.getElem?_eq_getElem hj]
   rw [this] at hc
   refine ⟨?_, hc⟩
   unfold World.cell? at hc
   show 0 < W.heap.size
   cases hb : W.heap[0]? with
   | none => simp [hb] at hc
   | some o => exact (Array.getElem?_eq_some_iff.1 hb).1
theorem door_met (os : Os) (args : Array Value) : laidMetH Tryd.prog laidT ((World.doorLaid Tryd.prog 400 os).forCall (fun _ _ => 0) ⟨#[], args, []⟩).memory :=
 laidMetH_of_parts3 (fuel := 8) (laidMet_of_run' 8 (by kernel_rfl) (by kernel_rfl)) (by kernel_rfl) (by kernel_rfl)
end Go.Proofs.YtgdcjkcohmjbeaaDoor
