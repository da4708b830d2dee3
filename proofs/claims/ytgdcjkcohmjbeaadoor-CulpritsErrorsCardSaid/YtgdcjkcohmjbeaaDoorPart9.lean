/-
  Lemmas.
-/
import Derived.Test.YtgdcjkcohmjbeaaDoorPart8
set_option linter.unusedSimpArgs false
set_option linter.unusedVariables false
set_option linter.unnecessarySimpa false
set_option linter.deprecated false
namespace Go.Avl
open Go Go.Proofs.Tryd
set_option maxRecDepth 10000
set_option maxHeartbeats 4000000 in
theorem valid62_is (nl : Bool) (t : List NG) (c : Cp) (ins : Int) (ht : ∀ d ∈ t, NGok d) (hl : t.length < 1000000) :
  PureIs prog 62 [.sl nl (t.map ngC) c, .sc (.int .i64 ins)] (.sc (.bool (validT ins (t.map NG.nd)))) := by
 have hvn : ∀ n d, t[n]? = some d → ndOk t.length n ins d.nd = false → validT ins (t.map NG.nd) = false := fun n d hd h => by
  unfold validT
  rw [List.length_map, all_range_false (i := n) (List.getElem?_eq_some_iff.1 hd).1 (by rw [List.getElem?_map, hd]; exact h), Bool.false_and]
 refine PureIs.of1 2 [4, 5, 6, 7, 8, 9, 10, 11, 12, 31, 33, 34, 35, 36, 59, 65] func62 ntmps62 results62 fun _ => ?_
 refine EvC.a ?_
 refine EvC.seq ?_
 refine EvC.a ?_ (by simp only [go_sem, List.length_map] <;> rfl)
 refine EvC.block ?_
 refine EvC.loopS (σ := Nat) (fun n => ⟨[(0, .sl nl (t.map ngC) c), (1, .sc (.int .i64 ins)), (9, .sl nl (t.map ngC) c), (10, .sc (.int .i64 t.length)), (11, .sc (.int .i64 n))], [], [], 0⟩) (fun n => t.length - n) (fun n => n ≤ t.length ∧ ∀ j d, j < n → t[j]? = some d → ndOk t.length j ins d.nd = true) [0, 1, 9, 10, 11] 0 ?_ ?_
 ·exact ⟨[], 0, rfl, (by simp only [go_sem, Int.natCast_zero] <;> rfl), Nat.zero_le _, fun j d h => by omega⟩
 rintro n ⟨hn, hok⟩
 refine EvC.a ?_
 refine EvC.seq ?_
 refine EvC.cond (by simp only [go_sem] <;> rfl) (fun hc => ?_) (fun hc => ?_)
 rotate_left
 ·refine EvC.exit ?_
  obtain rfl : n = t.length := by have : ¬ n < t.length := (by simpa using hc); omega
  refine EvC.a ?_ (by simp only [go_sem, List.length_map] <;> rfl)
  refine EvC.rz ?_
  simp only [go_sem]
  unfold validT
  rw [all_range_true, Bool.true_and, List.length_map]
  ·simp
  ·intro i hi
   rw [List.getElem?_map]
   rw [List.length_map] at hi ⊢
   rw [List.getElem?_eq_getElem hi]
   exact hok i _ hi (List.getElem?_eq_getElem hi)
 have hnl : n < t.length := by simpa using hc
 clear hc
 have hd := List.getElem?_eq_getElem hnl
 have hdk := ht _ (List.getElem_mem hnl)
 generalize t[n] = d at hd hdk
 obtain ⟨ds, dw, db⟩ := hdk
 have hvd := hvn n d hd
 have hokd : ndOk t.length n ins d.nd = true → ∀ j e, j < n + 1 → t[j]? = some e → ndOk t.length j ins e.nd = true := fun h j e hj he => by
  by_cases e1 : j = n
  ·subst e1; rw [hd] at he; cases he; exact h
  ·exact hok j e (by omega) he
 obtain ⟨⟨s1, s2, s3⟩, ⟨w1, w2, w3⟩, bn, bs, bc⟩ := d
 simp only at ds dw db
 rename_i hrs
 simp only at hrs
 have hnt : ((n : Int)).toNat = n := Int.toNat_natCast n
 obtain ⟨nZ, hnZ⟩ : ∃ z : Int, z = (n : Int) := ⟨_, rfl⟩
 have hnt : nZ.toNat = n := by omega
 have hdg : (t.map ngC)[n]? = some [.sl s1 (s2.map intC) s3, .sl w1 (w2.map intC) w3, .sl bn (bs.map bgC) bc] := by rw [List.getElem?_map, hd]; rfl
 have hbl : (bs.map bgB).length = bs.length := List.length_map _
 rw [← hnZ]
 refine EvC.skip ?_
 refine EvC.seq ?_
 refine EvC.block ?_
 refine EvC.a ?_ (by simp only [go_sem, hdg, hnt, List.length_map] <;> rfl) (by simp; try omega)
 refine EvC.z 4 ?_
 refine EvC.seq ?_
 have q := wordCheck_is w1 w2 w3 ins dw
 have hnd : ndOk t.length n ins (NG.nd ⟨(s1, s2, s3), (w1, w2, w3), bn, bs, bc⟩) = (decide (wordErr ins w2 = 0) && decide (w2.length = 0 ↔ bs.length = 0) && (List.range bs.length).all (brOk t.length n w2.length (bs.map bgB))) := by
  simp only [ndOk, NG.nd, hbl]
  congr 1
  by_cases c1 : wordErr ins w2 = 0 <;> by_cases a : w2.length = 0 <;> by_cases b : bs.length = 0 <;> simp [a, b, c1]
 rw [hnd] at hvd hokd
 by_cases c1 : wordErr ins w2 = 0
 rotate_left
 ·apply EvC.s1
  ·apply Tr.run
   ·simp only [go_sem] <;> rfl
   ·simp
   apply Tr.cons
   ·exact .ca (q)
   apply Tr.done
   ·simp only [go_sem, decide_eq_false c1, List.length_map] <;> rfl
   ·simp
  refine EvC.ct ?_
  refine EvC.a ?_
  refine EvC.rz ?_
  simp only [go_sem]
  rw [hvd (by simp [c1])]
 apply EvC.s1
 ·apply Tr.run
  ·simp only [go_sem] <;> rfl
  ·simp
  apply Tr.cons
  ·exact .ca (q)
  apply Tr.done
  ·simp only [go_sem, decide_eq_true c1, List.length_map] <;> rfl
  ·simp
 have hb : (decide ((w2.length : Int) = 0) == decide ((bs.length : Int) = 0)) = decide (w2.length = 0 ↔ bs.length = 0) := by
  by_cases a : w2.length = 0 <;> by_cases b : bs.length = 0 <;> simp [a, b]
 by_cases c2 : (w2.length = 0 ↔ bs.length = 0)
 rotate_left
 ·refine EvC.ct ?_ (by simp only [go_sem, hb, decide_eq_false c2] <;> rfl)
  refine EvC.a ?_
  refine EvC.rz ?_
  simp only [go_sem]
  rw [hvd (by rw [decide_eq_false c2]; simp)]
 refine EvC.cs ?_ (by simp only [go_sem, hb, decide_eq_true c2] <;> rfl)
 rw [decide_eq_true c1, decide_eq_true c2, Bool.true_and] at hvd hokd
 have hvb : ∀ k, k < bs.length → brOk t.length n w2.length (bs.map bgB) k = false → validT ins (t.map NG.nd) = false := fun k hk h => hvd (by rw [all_range_false hk h]; rfl)
 refine EvC.a ?_ (by simp only [go_sem, List.length_map] <;> rfl)
 refine EvC.block ?_
 refine EvC.loopS (σ := Nat) (fun k => ⟨[(0, .sl nl (t.map ngC) c), (1, .sc (.int .i64 ins)), (5, .sc (.int .i64 nZ)), (6, .ia [.sl s1 (s2.map intC) s3, .sl w1 (w2.map intC) w3, .sl bn (bs.map bgC) bc]), (9, .sl nl (t.map ngC) c), (10, .sc (.int .i64 t.length)), (11, .sc (.int .i64 nZ)), (33, .sl bn (bs.map bgC) bc), (34, .sc (.int .i64 bs.length)), (35, .sc (.int .i64 k))], [], [], 0⟩) (fun k => bs.length - k) (fun k => k ≤ bs.length ∧ ∀ j, j < k → brOk t.length n w2.length (bs.map bgB) j = true) [0, 1, 5, 6, 9, 10, 11, 33, 34, 35] 0 ?_ ?_
 ·exact ⟨[], 0, rfl, (by simp only [go_sem, Int.natCast_zero, List.length_map] <;> rfl), Nat.zero_le _, fun j h => by omega⟩
 rintro k ⟨hk, hbk⟩
 refine EvC.a ?_
 refine EvC.seq ?_
 refine EvC.cond (by simp only [go_sem] <;> rfl) (fun hc => ?_) (fun hc => ?_)
 rotate_left
 ·refine EvC.exit ?_
  obtain rfl : k = bs.length := by have : ¬ k < bs.length := (by simpa using hc); omega
  refine EvC.b ?_ (hok := by exact inI64_of (by omega) (by omega))
  refine ⟨[], n + 1, rfl, (by rw [hnZ]; simp only [go_sem, Int.natCast_add, Int.natCast_one] <;> rfl), ⟨hnl, hokd ?_⟩, by omega⟩
  rw [Bool.true_and]; exact all_range_true hbk
 have hkl : k < bs.length := by simpa using hc
 clear hc
 have hbe := List.getElem?_eq_getElem hkl
 have hbm := hrs _ (List.getElem_mem hkl)
 generalize bs[k] = b at hbe hbm
 have hbo : brOk t.length n w2.length (bs.map bgB) k = (decide ((n : Int) < b.2) && (decide (b.2 < t.length) && (decide (b.1.2.1.length = w2.length) && !(bs.take k).any fun e => decide (e.1.2.1 = b.1.2.1)))) := by
  unfold brOk
  rw [List.getElem?_map, hbe]
  simp only [Option.map_some, bgB, List.map_take, List.any_map, ← List.map_take]
  rfl
 have hvk := hvb k hkl
 rw [hbo] at hvk
 obtain ⟨⟨r1, r2, r3⟩, to⟩ := b
 simp only at hbm hvk hbo
 have hbg : (bs.map bgC)[k]? = some [.sl r1 (r2.map intC) r3, .sc (.int .i64 to)] := by rw [List.getElem?_map, hbe]; rfl
 obtain ⟨kZ, hkZ⟩ : ∃ z : Int, z = (k : Int) := ⟨_, rfl⟩
 have hkt : kZ.toNat = k := by omega
 rw [← hnZ] at hbo hvk
 rw [← hkZ]
 refine EvC.skip ?_
 refine EvC.seq ?_
 refine EvC.block ?_
 refine EvC.a ?_ (by simp only [go_sem, hbg, hkt, List.length_map] <;> rfl) (by simp; try omega)
 refine EvC.z 4 ?_
 refine EvC.seq ?_
 by_cases d1 : to ≤ nZ
 ·apply EvC.seq
  apply EvC.trd
  ·simp only [go_sem, decide_eq_true d1, List.length_map] <;> rfl
  ·simp
  refine EvC.ct ?_
  refine EvC.a ?_
  refine EvC.rz ?_
  simp only [go_sem]
  rw [hvk (by rw [decide_eq_false (by omega)]; rfl)]
 by_cases d2 : (t.length : Int) ≤ to
 ·apply EvC.seq
  apply EvC.trd
  ·simp only [go_sem, decide_eq_false d1, decide_eq_true d2, List.length_map] <;> rfl
  ·simp
  refine EvC.ct ?_
  refine EvC.a ?_
  refine EvC.rz ?_
  simp only [go_sem]
  rw [hvk (by rw [decide_eq_false (show ¬ to < (t.length : Int) by omega)]; simp)]
 by_cases d3 : (r2.length : Int) = w2.length
 rotate_left
 ·apply EvC.seq
  apply EvC.trd
  ·simp only [go_sem, decide_eq_false d1, decide_eq_false d2, decide_eq_false d3, List.length_map] <;> rfl
  ·simp
  refine EvC.ct ?_
  refine EvC.a ?_
  refine EvC.rz ?_
  simp only [go_sem]
  rw [hvk (by rw [decide_eq_false (show ¬ r2.length = w2.length by omega)]; simp)]
 apply EvC.seq
 apply EvC.trd
 ·simp only [go_sem, decide_eq_false d1, decide_eq_false d2, decide_eq_true d3, List.length_map] <;> rfl
 ·simp
 refine EvC.cs ?_
 have q2 := fun cc => containsB_is bn (bs.take k) cc 91 [.ia (bgC ((r1, r2, r3), to))] rfl (fun e => decide (e.1.2.1 = r2)) (fun e he => valid1_is e ((r1, r2, r3), to) (hrs e (List.mem_of_mem_take he))) (by rw [List.length_take]; omega)
 have hbo2 : brOk t.length n w2.length (bs.map bgB) k = !(bs.take k).any fun e => decide (e.1.2.1 = r2) := by
  rw [hbo, decide_eq_true (show nZ < to by omega), decide_eq_true (show to < (t.length : Int) by omega), decide_eq_true (show r2.length = w2.length by omega)]; simp
 have hvk2 := hvb k hkl
 rw [hbo2] at hvk2
 simp only [bgC, rwA] at q2
 generalize hany : ((bs.take k).any fun e => decide (e.1.2.1 = r2)) = b at q2 hbo2 hvk2
 apply EvC.s1
 ·apply Tr.run
  ·simp only [go_sem, hkt, List.map_take, List.length_map] <;> rfl
  ·simp [bgC]; try omega
  apply Tr.cons
  ·exact .call rfl rfl (by simp only [go_sem] <;> rfl) (by simp only [go_sem] <;> rfl) (by simp only [go_sem, List.map_take] <;> rfl) (by simp only [go_sem] <;> rfl) (by simp only [go_sem] <;> rfl) (q2 _)
  apply Tr.done
  ·simp only [go_sem] <;> rfl
  ·simp
 cases b
 ·refine EvC.cs ?_
  refine EvC.b ?_ (hok := by exact inI64_of (by omega) (by omega))
  refine ⟨[], k + 1, rfl, (by rw [hkZ]; simp only [go_sem, Int.natCast_add, Int.natCast_one] <;> rfl), ⟨hkl, fun j hj => ?_⟩, by omega⟩
  by_cases e : j = k
  ·subst e; rw [hbo2]; rfl
  ·exact hbk j (by omega)
 ·refine EvC.ct ?_
  refine EvC.a ?_
  refine EvC.rz ?_
  simp only [go_sem]
  rw [hvk2 rfl]
theorem clipW_is (nl : Bool) (es : List (List AV)) (c : Cp) (h : (es.all fun y => decide (y.length = 1)) = true) : PureIs prog 67 [.sl nl es c] (.sl nl es .full) := by
 refine PureIs.of1 1 [2] func67 ntmps67 results67 fun _ => ?_
 refine EvC.a ?_
 refine EvC.a ?_ (hok := by simpa using h)
 refine EvC.rz ?_
 simp only [go_sem]
def toOf (bs : List (List Int × Int)) (r : List Int) : Option Int := (bs.find? fun b => decide (b.1 = r)).map (·.2)
def walkF (t : List Nd) (m : Mach) : Nat → Nat → List (List Int) → Option (Nat × List (List Int))
 | 0, _, _ => none
 | f + 1, n, asked => match t[n]? with
   | none => none
   | some d => if d.word.length = 0 then some (n, asked) else match toOf d.br (runR m 0 d.word) with
     | none => none
     | some to => walkF t m f to.toNat (asked ++ [d.word])
theorem walkF_leaf {t : List Nd} {m : Mach} {f n : Nat} {asked : List (List Int)} {d : Nd} (hd : t[n]? = some d) (h : d.word = []) : walkF t m (f + 1) n asked = some (n, asked) := by
 rw [walkF, hd]; simp [h]
theorem walkF_go {t : List Nd} {m : Mach} {f n : Nat} {asked : List (List Int)} {d : Nd} (hd : t[n]? = some d) (h : d.word ≠ []) : walkF t m (f + 1) n asked = match toOf d.br (runR m 0 d.word) with
  | none => none
  | some to => walkF t m f to.toNat (asked ++ [d.word]) := by
 rw [walkF, hd]; simp [h]
def askC (w : List Int) : List AV := [.sl false (w.map intC) .full]
@[go_sem] theorem norefs_ask (l : List (List Int)) : (l.map askC).all AV.norefs = true := by simp [List.all_eq_true, askC, AV.norefs, AV.noref]
structure NGnil (d : NG) : Prop where
 s : d.s.1 = true → d.s.2.1 = []
 w : d.w.1 = true → d.w.2.1 = []
def walkA (t : List NG) (m : Mach) : AV :=
 if checkM m ≠ 0 then .tu [.sl true [] .unk, .sl true [] .unk, .sc (.int .i64 (checkM m))]
 else if validT m.ins (t.map NG.nd) = false then .tu [.sl true [] .unk, .sl true [] .unk, .sc (.int .i64 1)]
 else match walkF (t.map NG.nd) m t.length 0 [] with
  | none => .tu [.sl true [] .unk, .sl true [] .unk, .sc (.int .i64 7)]
  | some (n, asked) => match t[n]? with
    | none => .junk
    | some d => .tu [.sl d.s.1 (d.s.2.1.map intC) .full, .sl asked.isEmpty (asked.map askC) .full, .sc (.int .i64 0)]
theorem findIdxB_spec {p : BG → Bool} : ∀ (es : List BG) (i : Int), (findIdxB p es i = -1 ∧ es.find? p = none) ∨ ∃ (k : Nat) (b : BG), findIdxB p es i = i + k ∧ es[k]? = some b ∧ es.find? p = some b
 | [], _ => .inl ⟨rfl, rfl⟩
 | e :: es, i => by
   unfold findIdxB
   rw [List.find?_cons]
   by_cases h : p e = true
   ·rw [if_pos h, h]; exact .inr ⟨0, e, by simp, rfl, rfl⟩
   ·rw [if_neg h, Bool.eq_false_iff.2 h]
    rcases findIdxB_spec es (i + 1) with h1 | ⟨k, b, h1, h2, h3⟩
    ·exact .inl h1
    ·exact .inr ⟨k + 1, b, by rw [h1]; simp only [Int.natCast_add, Int.natCast_one]; omega, by rw [List.getElem?_cons_succ]; exact h2, h3⟩
theorem toOf_bg (bs : List BG) (r : List Int) : toOf (bs.map bgB) r = (bs.find? fun e => decide (e.1.2.1 = r)).map (·.2) := by
 unfold toOf
 rw [List.find?_map, Option.map_map]
 rfl
theorem validT_nd {ins : Int} {t : List Nd} (h : validT ins t = true) : 0 < t.length ∧ ∀ n d, t[n]? = some d → wordErr ins d.word = 0 ∧ (d.word.length = 0 ↔ d.br.length = 0) ∧ ∀ k, k < d.br.length → brOk t.length n d.word.length d.br k = true := by
 unfold validT at h
 simp only [Bool.and_eq_true, decide_eq_true_eq, List.all_eq_true, List.mem_range] at h
 refine ⟨h.2, fun n d hd => ?_⟩
 have := h.1 n (List.getElem?_eq_some_iff.1 hd).1
 rw [hd] at this
 simp only [ndOk, Bool.and_eq_true, decide_eq_true_eq, List.all_eq_true, List.mem_range] at this
 refine ⟨this.1.1, ?_, this.2⟩
 have h2 := this.1.2
 by_cases a : d.word.length = 0 <;> by_cases b : d.br.length = 0 <;> simp_all
theorem brOk_get {N n wl : Nat} {bs : List (List Int × Int)} {k : Nat} {b : List Int × Int} (h : brOk N n wl bs k = true) (hb : bs[k]? = some b) : (n : Int) < b.2 ∧ b.2 < N ∧ b.1.length = wl ∧ ∀ c ∈ bs.take k, c.1 ≠ b.1 := by
 unfold brOk at h
 rw [hb] at h
 simp only [Bool.and_eq_true, decide_eq_true_eq, Bool.not_eq_true', List.any_eq_false] at h
 exact ⟨h.1, h.2.1, h.2.2.1, h.2.2.2⟩
set_option maxHeartbeats 4000000 in
theorem walk_is (nl : Bool) (t : List NG) (c : Cp) (m : Mach) (hm : ∀ r ∈ m.rows, r.2.length < 1000000) (ht : ∀ d ∈ t, NGok d ∧ NGnil d) (hl : t.length < 1000000) :
  PureIs prog 24 [.sl nl (t.map ngC) c, .ag m.cells] (walkA t m) := by
 have q0 := check_is m hm
 have q1 := valid62_is nl t c m.ins (fun d hd => (ht d hd).1) hl
 unfold walkA
 refine PureIs.of1 2 [3, 4, 5, 6, 7, 8, 9, 10, 12, 16, 22, 29, 49] func24 ntmps24 results24 fun _ => ?_
 refine EvC.a ?_ (by simp only [go_sem, Mach.cells] <;> rfl)
 refine EvC.z 0 ?_
 refine EvC.seq ?_
 apply EvC.s1
 ·apply Tr.run
  ·simp only [go_sem, Mach.cells] <;> rfl
  ·simp
  apply Tr.cons
  ·exact .ca (q0)
  apply Tr.done
  ·simp only [go_sem] <;> rfl
  ·simp
 refine EvC.a ?_
 by_cases h0 : checkM m = 0
 rotate_left
 ·rw [if_pos h0]
  refine EvC.ct ?_ (by simp only [go_sem, decide_eq_false h0] <;> rfl)
  refine EvC.a ?_
  refine EvC.rz ?_
  simp only [go_sem]
 rw [if_neg (show ¬ checkM m ≠ 0 from fun h => h h0)]
 refine EvC.cs ?_ (by simp only [go_sem, decide_eq_true h0] <;> rfl)
 have hv := Valid.of h0
 refine EvC.seq ?_
 apply EvC.s1
 ·apply Tr.run
  ·simp only [go_sem, Mach.cells] <;> rfl
  ·simp
  apply Tr.cons
  ·exact .ca (q1)
  apply Tr.done
  ·simp only [go_sem] <;> rfl
  ·simp
 obtain hvt | hvt : validT m.ins (t.map NG.nd) = false ∨ validT m.ins (t.map NG.nd) = true := by cases validT m.ins (t.map NG.nd) <;> simp
 ·rw [if_pos hvt]
  refine EvC.ct ?_ (by simp only [go_sem, hvt] <;> rfl)
  refine EvC.a ?_
  refine EvC.rz ?_
  simp only [go_sem]
 rw [if_neg (show ¬ validT m.ins (t.map NG.nd) = false by rw [hvt]; simp)]
 refine EvC.cs ?_ (by simp only [go_sem, hvt] <;> rfl)
 obtain ⟨hpos, hnd⟩ := validT_nd hvt
 rw [List.length_map] at hpos hnd
 obtain ⟨d0, hd0⟩ : ∃ d, t[0]? = some d := ⟨_, List.getElem?_eq_getElem hpos⟩
 have hg0 : (t.map ngC)[0]? = some (ngC d0) := by rw [List.getElem?_map, hd0]; rfl
 simp only [ngC, rwA] at hg0
 refine EvC.a ?_
 refine EvC.a ?_ (by simp only [go_sem, hg0, List.length_map] <;> rfl) (by simp; try omega)
 refine EvC.seq ?_
 refine EvC.block ?_
 obtain ⟨T, hT⟩ : ∃ T, T = t.map NG.nd := ⟨_, rfl⟩
 have hTl : T.length = t.length := by rw [hT, List.length_map]
 rw [← hT] at hnd ⊢
 refine EvC.loopS (σ := Nat × NG × List (List Int)) (fun g => ⟨[(0, .sl nl (t.map ngC) c), (3, .ia m.cells), (8, .tl 1 g.2.2.length g.2.2.isEmpty), (9, .rf 0 0)], [], [(0, .cells [.sl g.2.1.s.1 (g.2.1.s.2.1.map intC) g.2.1.s.2.2, .sl g.2.1.w.1 (g.2.1.w.2.1.map intC) g.2.1.w.2.2, .sl g.2.1.bn (g.2.1.bs.map bgC) g.2.1.bc]), (1, .arr 1 (g.2.2.map askC) true)], 2⟩) (fun g => t.length - g.1) (fun g => t[g.1]? = some g.2.1 ∧ (∃ f, t.length ≤ f + g.1 ∧ walkF T m f g.1 g.2.2 = walkF T m t.length 0 []) ∧ g.2.2.length ≤ g.1) [0, 3, 8, 9] 2 ?_ ?_
 ·exact ⟨[(18, 0), (14, 1)], (0, d0, []), rfl, (by simp only [go_sem, Mach.cells, List.map_nil, List.length_nil, List.isEmpty_nil] <;> rfl), hd0, ⟨t.length, Nat.le_refl _, rfl⟩, Nat.le_refl _⟩
 rintro ⟨n, d, asked⟩ ⟨hd, ⟨f, hfu, hF⟩, hal⟩
 simp only at hd hF hfu hal ⊢
 have hnl := (List.getElem?_eq_some_iff.1 hd).1
 obtain ⟨hok, hnil⟩ := ht d (List.mem_of_getElem? hd)
 have hTd : T[n]? = some d.nd := by rw [hT, List.getElem?_map, hd]; rfl
 obtain ⟨v1, v2, v3⟩ := hnd n _ hTd
 obtain ⟨f, rfl⟩ : ∃ g, f = g + 1 := ⟨f - 1, by omega⟩
 obtain ⟨⟨s1, s2, s3⟩, ⟨w1, w2, w3⟩, bn, bs, bc⟩ := d
 obtain ⟨k1, k2, k3, k4⟩ := hok
 obtain ⟨k5, k6⟩ := hnil
 simp only [NG.nd] at k1 k2 k3 k4 k5 k6 v1 v2 v3 hF ⊢
 refine EvC.seq ?_
 refine EvC.a ?_ (by simp only [go_sem, List.length_map] <;> rfl)
 by_cases hw : w2 = []
 ·rw [walkF_leaf hTd hw] at hF
  rw [← hF]
  simp only [hd]
  subst hw
  refine EvC.cf ?_
  refine EvC.exit ?_
  have q5 := cloneI_is s1 s2 s3 k1 k5
  have q6 := clipI_is s1 (s2.map intC) .unk (by simp [List.all_eq_true, intC])
  have q7 := clipW_is asked.isEmpty (asked.map askC) .unk (by simp [List.all_eq_true, askC])
  have hl2 : (asked.map askC).length = asked.length := List.length_map _
  have hn2 := norefs_ask asked
  generalize asked.map askC = A at q7 hl2 hn2 ⊢
  refine EvC.frz 1 (by simp only [go_sem, hl2, hn2] <;> rfl) ?_
  apply EvC.s1
  ·apply Tr.run
   ·simp only [go_sem, hl2] <;> rfl
   ·simp
   apply Tr.cons
   ·exact .ca (q5)
   apply Tr.run
   ·simp only [go_sem, hl2] <;> rfl
   ·simp
   apply Tr.cons
   ·exact .ca (q6)
   apply Tr.run
   ·simp only [go_sem, hl2] <;> rfl
   ·simp
   apply Tr.cons
   ·exact .ca (q7)
   apply Tr.done
   ·simp only [go_sem] <;> rfl
   ·simp
  refine EvC.rz ?_
  simp only [go_sem]
 have hwp := List.length_pos_iff.2 hw
 rw [walkF_go hTd hw] at hF
 have hw1 : w1 = false := by
  cases w1 with
  | false => rfl
  | true => exact absurd (k6 rfl) hw
 subst hw1
 refine EvC.cr ?_ (by simp only [go_sem, decide_eq_true (show (0 : Int) < w2.length by omega)] <;> rfl)
 refine EvC.block ?_
 have q5 := cloneI_is false w2 w3 k2 k6
 have q6 := clipI_is false (w2.map intC) .unk (by simp [List.all_eq_true, intC])
 have hr : room (asked.length + 1) 24 = true := by simp only [room_eq, decide_eq_true_eq]; omega
 apply EvC.s1
 ·apply Tr.run
  ·simp only [go_sem] <;> rfl
  ·simp
  apply Tr.cons
  ·exact .ca (q5)
  apply Tr.run
  ·simp only [go_sem] <;> rfl
  ·simp
  apply Tr.cons
  ·exact .ca (q6)
  apply Tr.done
  ·simp only [go_sem, List.length_map] <;> rfl
  ·simp [hr]
 have hrw := hv.rows
 have q8 := run52_is hv 0 ⟨by omega, by omega⟩ false w2 w3 v1 k2
 apply EvC.s1
 ·apply Tr.run
  ·simp only [go_sem, Mach.cells] <;> rfl
  ·simp
  apply Tr.cons
  ·exact .ca (q8)
  apply Tr.done
  ·simp only [go_sem] <;> rfl
  ·simp
 refine EvC.z 21 ?_
 have q9 := indexB_is bn bs bc 65 [.ia [.sl false ((runR m 0 w2).map intC) .unk]] rfl (fun e => decide (e.1.2.1 = runR m 0 w2)) (fun e he => walk1_is e false _ .unk (k4 e he)) k3
 apply EvC.s1
 ·apply Tr.run
  ·simp only [go_sem] <;> rfl
  ·simp
  apply Tr.cons
  ·exact .ca (q9)
  apply Tr.done
  ·simp only [go_sem] <;> rfl
  ·simp
 simp only [NG.nd] at hF
 rw [toOf_bg] at hF
 refine EvC.seq ?_
 refine EvC.a ?_
 rcases findIdxB_spec (p := fun e => decide (e.1.2.1 = runR m 0 w2)) bs 0 with ⟨f1, f2⟩ | ⟨k, b, f1, f2, f3⟩
 ·rw [f2] at hF
  rw [← hF]
  refine EvC.ct ?_ (by simp only [go_sem, f1] <;> rfl)
  refine EvC.a ?_
  refine EvC.rz ?_
  simp only [go_sem]
 have hkl := (List.getElem?_eq_some_iff.1 f2).1
 have hbo := v3 k (by rw [List.length_map]; exact hkl)
 obtain ⟨b1, b2, _, _⟩ := brOk_get hbo (show (bs.map bgB)[k]? = some (bgB b) by rw [List.getElem?_map, f2]; rfl)
 rw [f3] at hF
 simp only [Option.map_some] at hF
 obtain ⟨⟨r1, r2, r3⟩, to⟩ := b
 simp only [bgB] at b1 b2 hF
 obtain ⟨d2, hd2⟩ : ∃ d, t[to.toNat]? = some d := ⟨_, List.getElem?_eq_getElem (by omega)⟩
 have hg2 : (t.map ngC)[to.toNat]? = some (ngC d2) := by rw [List.getElem?_map, hd2]; rfl
 simp only [ngC, rwA] at hg2
 have hbg : (bs.map bgC)[k]? = some [.sl r1 (r2.map intC) r3, .sc (.int .i64 to)] := by rw [List.getElem?_map, f2]; rfl
 obtain ⟨kZ, hkZ⟩ : ∃ z : Int, z = (0 : Int) + k := ⟨_, rfl⟩
 have hkt : kZ.toNat = k := by omega
 rw [← hkZ] at f1
 refine EvC.cs ?_ (by simp only [go_sem, f1, decide_eq_false (show ¬ kZ < 0 by omega)] <;> rfl)
 refine EvC.b ?_ (by simp only [go_sem, f1, hkt, hbg, hg2, List.length_map] <;> rfl) (by simp; try omega)
 have hne : (asked ++ [w2]).isEmpty = false := by cases asked <;> rfl
 exact ⟨[(0, 0), (1, 1)], (to.toNat, d2, asked ++ [w2]), rfl, (by simp only [go_sem, hne, List.map_append, List.map_cons, List.map_nil, askC, List.length_append, List.length_cons, List.length_nil, List.length_map] <;> rfl), ⟨hd2, ⟨f, by simp only; omega, hF⟩, by simp only [List.length_append, List.length_cons, List.length_nil]; omega⟩, by simp only; omega⟩
theorem faO_nil {m : Mach} {k s i t a : Int} : ∀ {n : Nat}, (∀ o : Nat, o < n → faultB m ⟨k, s, i, t, a, o⟩ = false) → faO m k s i t a n = []
 | 0, _ => rfl
 | n + 1, h => by rw [faO, faO_nil fun o ho => h o (by omega), h n (by omega)]; rfl
theorem faA_nil {m : Mach} {k s i t : Int} : ∀ {n : Nat}, (∀ a : Nat, a < n → faO m k s i t a m.outs.toNat = []) → faA m k s i t n = []
 | 0, _ => rfl
 | n + 1, h => by rw [faA, faA_nil fun o ho => h o (by omega), h n (by omega)]; rfl
theorem faT_nil {m : Mach} {k s i : Int} : ∀ {n : Nat}, (∀ t : Nat, t < n → faA m k s i t m.ins.toNat = []) → faT m k s i n = []
 | 0, _ => rfl
 | n + 1, h => by rw [faT, faT_nil fun o ho => h o (by omega), h n (by omega)]; rfl
theorem faO_zero {m : Mach} {k s i t a : Int} : ∀ {n : Nat}, 1 ≤ n → (∀ o : Nat, 1 ≤ o → o < n → faultB m ⟨k, s, i, t, a, o⟩ = false) → faO m k s i t a n = if faultB m ⟨k, s, i, t, a, 0⟩ = true then [⟨k, s, i, t, a, 0⟩] else []
 | n + 1, _, h => by
   by_cases hn : n = 0
   ·subst hn; simp only [faO, List.nil_append]; rfl
   ·rw [faO, faO_zero (by omega) fun o h1 h2 => h o h1 (by omega), h n (by omega) (by omega)]; simp
theorem faA_zero {m : Mach} {k s i t : Int} : ∀ {n : Nat}, 1 ≤ n → (∀ a : Nat, 1 ≤ a → a < n → faO m k s i t a m.outs.toNat = []) → faA m k s i t n = faO m k s i t 0 m.outs.toNat
 | n + 1, _, h => by
   by_cases hn : n = 0
   ·subst hn; simp only [faA, List.nil_append]; rfl
   ·rw [faA, faA_zero (by omega) fun o h1 h2 => h o h1 (by omega), h n (by omega) (by omega), List.append_nil]
theorem faT_zero {m : Mach} {k s i : Int} : ∀ {n : Nat}, 1 ≤ n → (∀ t : Nat, 1 ≤ t → t < n → faA m k s i t m.ins.toNat = []) → faT m k s i n = faA m k s i 0 m.ins.toNat
 | n + 1, _, h => by
   by_cases hn : n = 0
   ·subst hn; simp only [faT, List.nil_append]; rfl
   ·rw [faT, faT_zero (by omega) fun o h1 h2 => h o h1 (by omega), h n (by omega) (by omega), List.append_nil]
theorem faT_of {m : Mach} (hv : Valid m) {k s i : Int} (hk : 0 ≤ k ∧ k ≤ 4) : faT m k s i m.rows.length = if definedB m s i = true then ofF m k s i else [] := by
 have h1 := hv.rows
 have h2 := hv.ins
 have h3 := hv.outs
 by_cases hd : definedB m s i = true
 rotate_left
 ·rw [if_neg hd]
  refine faT_nil fun t ht => faA_nil fun a ha => faO_nil fun o ho => ?_
  unfold faultB
  rw [Bool.eq_false_iff.2 hd]; simp
 rw [if_pos hd]
 obtain ⟨r, _, _, hto⟩ := step_in hv hd
 have hfb : ∀ t a o : Int, faultB m ⟨k, s, i, t, a, o⟩ = (plainB ⟨k, s, i, t, a, o⟩ && kindB m ⟨k, s, i, t, a, o⟩) := fun t a o => by
  unfold faultB
  rw [show definedB m (FA.state ⟨k, s, i, t, a, o⟩) (FA.input ⟨k, s, i, t, a, o⟩) = true from hd, Bool.true_and]
 obtain rfl | rfl | rfl | rfl | rfl : k = 0 ∨ k = 1 ∨ k = 2 ∨ k = 3 ∨ k = 4 := by omega
 ·
  rw [faT_zero h1.1 fun t ht _ => faA_nil fun a _ => faO_nil fun o _ => by rw [hfb]; simp [plainB]; omega]
  rw [faA_zero (by omega) fun a ha _ => faO_nil fun o _ => by rw [hfb]; simp [plainB]; omega]
  have : ∀ n : Nat, (n : Int) ≤ m.outs → faO m 0 s i 0 0 n = ofO 0 s i (stepM m s i).2 n := fun n => by
   induction n with
   | zero => intro _; rfl
   | succ n ih =>
     intro hn
     rw [faO, ofO, ih (by omega), hfb]
     by_cases e : (n : Int) = (stepM m s i).2
     ·simp [plainB, kindB, inN, e]
     ·have : (n : Int) < m.outs := by omega
      simp [plainB, kindB, inN, e, this]
  rw [this _ (by omega)]; rfl
 ·
  have : ∀ n : Nat, n ≤ m.rows.length → faT m 1 s i n = ofT 1 s i (stepM m s i).1 n := fun n => by
   induction n with
   | zero => intro _; rfl
   | succ n ih =>
     intro hn
     rw [faT, ofT, ih (by omega), faA_zero (by omega) fun a ha _ => faO_nil fun o _ => by rw [hfb]; simp [plainB]; omega]
     rw [faO_zero (by omega) fun o h1 _ => by rw [hfb]; simp [plainB]; omega, hfb]
     by_cases e : (n : Int) = (stepM m s i).1
     ·simp [plainB, kindB, inN, e]
     ·have : (n : Int) < m.rows.length := by omega
      simp [plainB, kindB, inN, e, this]
  rw [this _ (Nat.le_refl _)]; rfl
 ·
  rw [faT_zero h1.1 fun t ht _ => faA_nil fun a _ => faO_nil fun o _ => by rw [hfb]; simp [plainB]; omega]
  rw [faA_zero (by omega) fun a ha _ => faO_nil fun o _ => by rw [hfb]; simp [plainB]; omega]
  rw [faO_zero (by omega) fun o h1 _ => by rw [hfb]; simp [plainB]; omega, hfb]
  simp [plainB, kindB, ofF]
 ·
  have : ∀ n : Nat, n ≤ m.rows.length → faT m 3 s i n = ofT 3 s i (stepM m s i).1 n := fun n => by
   induction n with
   | zero => intro _; rfl
   | succ n ih =>
     intro hn
     rw [faT, ofT, ih (by omega), faA_zero (by omega) fun a ha _ => faO_nil fun o _ => by rw [hfb]; simp [plainB]; omega]
     rw [faO_zero (by omega) fun o h1 _ => by rw [hfb]; simp [plainB]; omega, hfb]
     have : (n : Int) < m.rows.length := by omega
     simp [plainB, kindB, inN, this]
  rw [this _ (Nat.le_refl _)]; rfl
 ·
  rw [faT_zero h1.1 fun t ht _ => faA_nil fun a _ => faO_nil fun o _ => by rw [hfb]; simp [plainB]; omega]
  have hO : ∀ (a n : Nat), (a : Int) < m.ins → (n : Int) ≤ m.outs → faO m 4 s i 0 a n = ofDo s i a (stepM m (stepM m s i).1 a) n := fun a n => by
   induction n with
   | zero => intro _ _; rfl
   | succ n ih =>
     intro ha hn
     have hda : definedB m (stepM m s i).1 a = !decide ((stepM m (stepM m s i).1 a).1 = -1) := by
      unfold definedB
      rw [decide_eq_true hto.1, decide_eq_true hto.2, decide_eq_true (Int.natCast_nonneg a), decide_eq_true ha]; simp
     rw [faO, ofDo, ih ha (by omega), hfb]
     have hnl : (n : Int) < m.outs := by omega
     by_cases e1 : (stepM m (stepM m s i).1 a).1 = -1
     ·simp [plainB, kindB, inN, hda, e1]
     ·by_cases e : (n : Int) = (stepM m (stepM m s i).1 a).2
      ·simp [plainB, kindB, inN, hda, e1, e]
      ·simp [plainB, kindB, inN, hda, e1, e, hnl]
  have hA : ∀ n : Nat, (n : Int) ≤ m.ins → faA m 4 s i 0 n = ofD m s i (stepM m s i).1 n := fun n => by
   induction n with
   | zero => intro _; rfl
   | succ n ih => intro hn; rw [faA, ofD, ih (by omega), hO n _ (by omega) (by omega)]
  rw [hA _ (by omega)]; rfl
theorem alE_app (m : Mach) (k : Int) (a b : List (Int × Int)) : alE m k (a ++ b) = alE m k a ++ alE m k b := List.flatMap_append
theorem faI_of {m : Mach} (hv : Valid m) {k s : Int} (hk : 0 ≤ k ∧ k ≤ 4) : ∀ n : Nat, faI m k s n = alE m k (egI m s n)
 | 0 => rfl
 | n + 1 => by
   rw [faI, egI, faI_of hv hk n, alE_app, faT_of hv hk]
   split
   ·simp [alE]
   ·simp [alE]
theorem faS_of {m : Mach} (hv : Valid m) {k : Int} (hk : 0 ≤ k ∧ k ≤ 4) : ∀ n : Nat, faS m k n = alE m k (egS m n)
 | 0 => rfl
 | n + 1 => by rw [faS, egS, faS_of hv hk n, alE_app, faI_of hv hk]
theorem allF_alF {m : Mach} (hv : Valid m) {ks : List Int} (hk : ∀ k ∈ ks, 0 ≤ k ∧ k ≤ 4) : allF m ks = alF m ks := by
 have : ∀ n, n ≤ ks.length → faK m ks n = alF m (ks.take n) := fun n => by
  induction n with
  | zero => intro _; rfl
  | succ n ih =>
    intro hn
    have he : ks[n]? = some ks[n] := List.getElem?_eq_getElem hn
    rw [faK, ih (by omega), he, List.take_succ_eq_append_getElem hn]
    simp only [Option.getD_some]
    rw [faS_of hv (hk _ (List.getElem_mem hn))]
    simp only [alF, List.flatMap_append, List.flatMap_cons, List.flatMap_nil, List.append_nil]; rfl
 rw [allF, this _ (Nat.le_refl _), List.take_length]
theorem kLast_in : ∀ {ks : List Int} {l b : Int}, kLast ks b = some l → b ≤ l ∧ ∀ k ∈ ks, b < k ∧ k ≤ 4 ∧ k ≤ l
 | [], l, b, h => by cases h; exact ⟨Int.le_refl _, fun k h => by cases h⟩
 | k :: ks, l, b, h => by
   rw [kLast] at h
   split at h
   ·cases h
   ·rename_i h1
    obtain ⟨h2, h3⟩ := kLast_in h
    refine ⟨by omega, fun j hj => ?_⟩
    rcases List.mem_cons.1 hj with rfl | hj
    ·omega
    ·have := h3 j hj; omega
theorem faK_kind {m : Mach} {ks : List Int} {f : FA} (hv : Valid m) (hk : ∀ k ∈ ks, 0 ≤ k ∧ k ≤ 4) (h : f ∈ alF m ks) : faultB m f = true ∧ f.kind ∈ ks := by
 refine ⟨by rw [← allF_alF hv hk] at h; exact faK_mem h, ?_⟩
 have hof : ∀ k s i, ∀ f ∈ ofF m k s i, f.kind = k := by
  intro k s i f hf
  have hO : ∀ n e1, ∀ f ∈ ofO k s i e1 n, f.kind = k := fun n e1 => by
   induction n with
   | zero => intro f h; cases h
   | succ n ih =>
     intro f h
     rw [ofO] at h
     rcases List.mem_append.1 h with h | h
     ·exact ih f h
     ·split at h
      ·rw [List.mem_singleton] at h; subst h; rfl
      ·cases h
  have hT : ∀ n e1, ∀ f ∈ ofT k s i e1 n, f.kind = k := fun n e1 => by
   induction n with
   | zero => intro f h; cases h
   | succ n ih =>
     intro f h
     rw [ofT] at h
     rcases List.mem_append.1 h with h | h
     ·exact ih f h
     ·split at h
      ·rw [List.mem_singleton] at h; subst h; rfl
      ·cases h
  unfold ofF at hf
  split at hf
  ·exact hO _ _ f hf
  split at hf
  ·exact hT _ _ f hf
  split at hf
  ·rw [List.mem_singleton] at hf; subst hf; rfl
  split at hf
  ·rename_i h4
   subst h4
   have hDo : ∀ a e n, ∀ f ∈ ofDo s i a e n, f.kind = 4 := fun a e n => by
    induction n with
    | zero => intro f h; cases h
    | succ n ih =>
      intro f h
      rw [ofDo] at h
      rcases List.mem_append.1 h with h | h
      ·exact ih f h
      ·split at h
       ·rw [List.mem_singleton] at h; subst h; rfl
       ·cases h
   have hD : ∀ t n, ∀ f ∈ ofD m s i t n, f.kind = 4 := fun t n => by
    induction n with
    | zero => intro f h; cases h
    | succ n ih =>
      intro f h
      rw [ofD] at h
      rcases List.mem_append.1 h with h | h
      ·exact ih f h
      ·exact hDo _ _ _ f h
   exact hD _ _ f hf
  ·cases hf
 unfold alF at h
 rw [List.mem_flatMap] at h
 obtain ⟨k, hk1, hk2⟩ := h
 unfold alE at hk2
 rw [List.mem_flatMap] at hk2
 obtain ⟨p, _, hp⟩ := hk2
 rw [hof k _ _ f hp]; exact hk1
theorem alF_ok {m : Mach} {ks : List Int} {most : Int} (h : readyR m ks most = 0) : ∀ f ∈ alF m ks, checkF m f = 0 := by
 obtain ⟨hc, _, _, l, hl⟩ := readyR_ok h
 have hv := Valid.of hc
 have hkl := kLast_in hl
 intro f hf
 obtain ⟨h1, h2⟩ := faK_kind hv (fun k hk => by have := hkl.2 k hk; omega) hf
 have := hkl.2 _ h2
 unfold checkF
 rw [if_pos h1]
 unfold readyR at h
 rw [if_neg (fun h => h hc), hl] at h
 simp only at h
 split at h
 ·cases h
 ·split at h
  ·cases h
  ·rename_i h3
   rw [if_neg (by omega)]
set_option maxHeartbeats 4000000 in
theorem refcheck28_is (m : Mach) (hr : ∀ r ∈ m.rows, r.2.length < 1000000) : PureIs prog 28 [.ag m.cells] (.sc (.int .i64 (checkM m))) := by
 refine PureIs.of1 6 [19, 33, 38, 49, 53, 71, 94] func28 ntmps28 results28 fun _ => ?_
 refine EvC.a ?_ (by simp only [go_sem, Mach.cells] <;> rfl)
 refine EvC.z 0 ?_
 refine EvC.seq ?_
 apply EvC.seq
 apply EvC.trd
 ·simp only [go_sem] <;> rfl
 ·simp
 refine EvC.cond (by simp only [go_sem] <;> rfl) (fun hc => ?_) (fun hc => ?_)
 ·have h : 16 < m.ins ∨ 16 < m.outs ∨ 64 < (m.rows.length : Int) := by
    by_cases h1 : 16 < m.ins <;> by_cases h2 : 16 < m.outs <;> simp_all
  refine EvC.a ?_
  refine EvC.rz ?_
  simp only [go_sem]
  rw [checkM, if_pos h]
 have hn : ¬ (16 < m.ins ∨ 16 < m.outs ∨ 64 < (m.rows.length : Int)) := by
  by_cases h1 : 16 < m.ins <;> by_cases h2 : 16 < m.outs <;> simp_all
 clear hc
 refine EvC.skip ?_
 refine EvC.seq ?_
 apply EvC.seq
 apply EvC.trd
 ·simp only [go_sem] <;> rfl
 ·simp
 refine EvC.cond (by simp only [go_sem] <;> rfl) (fun hc => ?_) (fun hc => ?_)
 ·have h : m.ins < 1 ∨ m.outs < 1 ∨ (m.rows.length : Int) < 1 := by
    by_cases h1 : m.ins < 1 <;> by_cases h2 : m.outs < 1 <;> simp_all
  refine EvC.a ?_
  refine EvC.rz ?_
  simp only [go_sem]
  rw [checkM, if_neg hn, if_pos h]
 have hn2 : ¬ (m.ins < 1 ∨ m.outs < 1 ∨ (m.rows.length : Int) < 1) := by
  by_cases h1 : m.ins < 1 <;> by_cases h2 : m.outs < 1 <;> simp_all
  have : m.rows.length ≠ 0 := by simpa using hc
  omega
 clear hc
 have hw : checkM m = if m.rows.all (rowOk m) = true then 0 else 1 := by rw [checkM, if_neg hn, if_neg hn2]
 have hlen : (m.rows.length : Int) ≤ 64 := by omega
 refine EvC.skip ?_
 refine EvC.seq ?_
 refine EvC.a ?_
 refine EvC.block ?_
 refine EvC.loopS (σ := Nat) (fun i => ⟨[(1, .ia m.cells), (3, .sc (.int .i64 i))], [], [], 0⟩) (fun i => m.rows.length - i) (fun i => i ≤ m.rows.length ∧ m.rows.all (rowOk m) = (m.rows.drop i).all (rowOk m)) [1, 3] 0 ?_ ?_
 ·refine ⟨[], 0, rfl, (by simp only [go_sem, Mach.cells] <;> rfl), Nat.zero_le _, by simp⟩
 rintro i ⟨h1, h2⟩
 refine EvC.seq ?_
 refine EvC.a ?_ (by simp only [go_sem, Mach.cells] <;> rfl)
 refine EvC.cond (by simp only [go_sem] <;> rfl) (fun hc => ?_) (fun hc => ?_)
 rotate_left
 ·refine EvC.exit ?_
  have hi : ¬ i < m.rows.length := by simpa using hc
  refine EvC.a ?_
  refine EvC.rz ?_
  simp only [go_sem]
  rw [hw, h2, List.drop_of_length_le (by omega)]; rfl
 have hi : i < m.rows.length := by simpa using hc
 have he : m.rows[i]? = some m.rows[i] := List.getElem?_eq_getElem hi
 have hd : m.rows.drop i = m.rows[i] :: m.rows.drop (i + 1) := List.drop_eq_getElem_cons hi
 generalize m.rows[i] = r at he hd
 rw [hd, List.all_cons] at h2
 refine EvC.skip ?_
 refine EvC.seq ?_
 refine EvC.block ?_
 refine EvC.seq ?_
 apply EvC.seq
 apply EvC.drd mixed
 ·simp only [go_sem, Mach.cells, he, rowC] <;> rfl
 ·simp
 ·kernel_rfl
 refine EvC.cond (by simp only [go_sem] <;> rfl) (fun hc => ?_) (fun hc => ?_)
 ·have hl : ¬ (r.2.length : Int) = m.ins := by simpa using hc
  refine EvC.a ?_
  refine EvC.rz ?_
  simp only [go_sem]
  have : rowOk m r = false := by simp [rowOk, hl]
  rw [hw, h2, this]; rfl
 have hl : (r.2.length : Int) = m.ins := by simpa using hc
 have hro : rowOk m r = r.2.all fun e => fitsR m.rows.length m.outs e.1 e.2 := by simp [rowOk, hl, List.any_eq_not_all_not]
 refine EvC.skip ?_
 refine EvC.a ?_
 refine EvC.block ?_
 refine EvC.loopS (σ := Nat) (fun k => ⟨[(1, .ia m.cells), (3, .sc (.int .i64 i)), (4, .sc (.int .i64 k))], [], [], 0⟩) (fun k => r.2.length - k) (fun k => k ≤ r.2.length ∧ rowOk m r = (r.2.drop k).all fun e => fitsR m.rows.length m.outs e.1 e.2) [1, 3, 4] 0 ?_ ?_
 ·refine ⟨[], 0, rfl, (by simp only [go_sem, Mach.cells] <;> rfl), Nat.zero_le _, by simp [hro]⟩
 rintro k ⟨k1, k2⟩
 refine EvC.seq ?_
 refine EvC.a ?_ (by simp only [go_sem, Mach.cells] <;> rfl)
 refine EvC.cond (by simp only [go_sem] <;> rfl) (fun hc => ?_) (fun hc => ?_)
 rotate_left
 ·refine EvC.exit ?_
  have hk : ¬ k < r.2.length := by
   have : ¬ (k : Int) < m.ins := by simpa using hc
   omega
  rw [List.drop_of_length_le (by omega)] at k2
  refine EvC.b ?_ (hok := by exact inI64_of (by omega) (by omega))
  exact ⟨[], i + 1, rfl, (by simp only [go_sem, Mach.cells] <;> rfl), ⟨by omega, by rw [h2, k2]; rfl⟩, by omega⟩
 have hk : k < r.2.length := by
  have : (k : Int) < m.ins := by simpa using hc
  omega
 have hke : r.2[k]? = some r.2[k] := List.getElem?_eq_getElem hk
 have hkd : r.2.drop k = r.2[k] :: r.2.drop (k + 1) := List.drop_eq_getElem_cons hk
 generalize r.2[k] = e at hke hkd
 rw [hkd, List.all_cons] at k2
 refine EvC.skip ?_
 refine EvC.seq ?_
 refine EvC.block ?_
 refine EvC.a ?_ (by simp only [go_sem, Mach.cells, he, rowC, hke, edgeC] <;> rfl)
 refine EvC.seq ?_
 apply EvC.seq
 apply EvC.trd
 ·simp only [go_sem] <;> rfl
 ·simp
 refine EvC.cond (by simp only [go_sem] <;> rfl) (fun hc => ?_) (fun hc => ?_)
 ·refine EvC.exit ?_
  have hu : e.1 = -1 ∧ e.2 = -1 := by by_cases h : e.1 = -1 <;> simp_all
  have hf : fitsR m.rows.length m.outs e.1 e.2 = true := by simp [fitsR, hu.1, hu.2]
  refine EvC.b ?_ (hok := by exact inI64_of (by omega) (by omega))
  exact ⟨[], k + 1, rfl, (by simp only [go_sem, Mach.cells] <;> rfl), ⟨by omega, by rw [k2, hf]; rfl⟩, by omega⟩
 have hu : ¬ (e.1 = -1 ∧ e.2 = -1) := by by_cases h : e.1 = -1 <;> simp_all
 clear hc
 refine EvC.skip ?_
 apply EvC.seq
 apply EvC.trd
 ·simp only [go_sem, Mach.cells] <;> rfl
 ·simp
 have hfe : fitsR m.rows.length m.outs e.1 e.2 = (decide (0 ≤ e.1) && decide (e.1 < m.rows.length) && decide (0 ≤ e.2) && decide (e.2 < m.outs)) := by
  unfold fitsR
  by_cases h : e.1 = -1
  ·have : ¬ e.2 = -1 := fun h2 => hu ⟨h, h2⟩
   simp [this]
  ·simp [h]
 refine EvC.cond (by simp only [go_sem] <;> rfl) (fun hc => ?_) (fun hc => ?_)
 ·have hf : fitsR m.rows.length m.outs e.1 e.2 = false := by
    rw [hfe]
    by_cases h1 : e.1 < 0 <;> by_cases h2 : (m.rows.length : Int) ≤ e.1 <;> by_cases h3 : e.2 < 0 <;> by_cases h4 : m.outs ≤ e.2 <;> simp_all <;> omega
  refine EvC.a ?_
  refine EvC.rz ?_
  simp only [go_sem]
  rw [hw, h2, k2, hf]; rfl
 have hf : fitsR m.rows.length m.outs e.1 e.2 = true := by
  rw [hfe]
  by_cases h1 : e.1 < 0 <;> by_cases h2 : (m.rows.length : Int) ≤ e.1 <;> by_cases h3 : e.2 < 0 <;> by_cases h4 : m.outs ≤ e.2 <;> simp_all <;> omega
 refine EvC.skip ?_
 refine EvC.b ?_ (hok := by exact inI64_of (by omega) (by omega))
 exact ⟨[], k + 1, rfl, (by simp only [go_sem, Mach.cells] <;> rfl), ⟨by omega, by rw [k2, hf]; rfl⟩, by omega⟩
theorem inp119_is (x n : Int) : PureIs prog 119 [.sc (.int .i64 x), .ia [.sc (.int .i64 n)]] (.sc (.bool (decide (x < 0) || decide (n ≤ x)))) := by
 refine PureIs.of1 2 [3] func119 ntmps119 results119 fun _ => ?_
 refine EvC.a ?_
 apply EvC.seq
 apply EvC.trd
 ·simp only [go_sem] <;> rfl
 ·simp
 refine EvC.rz ?_
 simp only [go_sem]
 by_cases h : x < 0 <;> simp [h]
def badW (n : Int) (w : List Int) : Bool := w.any fun x => decide (x < 0) || decide (n ≤ x)
theorem inputs112_is (nl : Bool) (w : List Int) (c : Cp) (n : Int) (hl : w.length < 1000000) : PureIs prog 112 [.sl nl (w.map intC) c, .sc (.int .i64 n)] (.sc (.bool (!badW n w))) := by
 have q := containsInt_is nl w c 119 [.ia [.sc (.int .i64 n)]] rfl (fun x => decide (x < 0) || decide (n ≤ x)) (fun x _ => inp119_is x n) hl
 refine PureIs.of1 2 [3, 4] func112 ntmps112 results112 fun _ => ?_
 refine EvC.a ?_
 refine EvC.z 0 ?_
 apply EvC.s1
 ·apply Tr.run
  ·simp only [go_sem] <;> rfl
  ·simp
  apply Tr.cons
  ·exact .ca (q)
  apply Tr.done
  ·simp only [go_sem] <;> rfl
  ·simp
 refine EvC.rz ?_
 simp only [go_sem]
 rfl
def respOk (o : Int) : Bool → List Int → Bool
 | _, [] => true
 | e, x :: r => if x < -1 ∨ o ≤ x ∨ (e = true ∧ x ≠ -1) then false else respOk o (decide (x = -1)) r
def trOk (i o : Int) (t : TR) : Bool := decide (t.r.length = t.w.length) && (!badW i t.w && respOk o false t.r)
set_option maxHeartbeats 1000000 in
theorem trvalid_is (t : TR) (i o : Int) (hw : t.w.length < 1000000) (hr : t.r.length < 1000000) : PureIs prog 99 [.ag (traceC t), .sc (.int .i64 i), .sc (.int .i64 o)] (.sc (.bool (trOk i o t))) := by
 obtain ⟨w, r, wn, rn⟩ := t
 simp only at hw hr
 have q := inputs112_is wn w .unk i hw
 refine PureIs.of1 4 [6, 7, 9, 23, 25, 26, 27, 28, 44] func99 ntmps99 results99 fun _ => ?_
 refine EvC.a ?_ (by simp only [go_sem, traceC] <;> rfl)
 refine EvC.z 0 ?_
 refine EvC.seq ?_
 by_cases c1 : (r.length : Int) = w.length
 rotate_left
 ·apply EvC.s1
  ·apply Tr.run
   ·simp only [go_sem, List.length_map, decide_eq_false c1] <;> rfl
   ·simp
   apply Tr.cons
   ·exact .skipv (.sc (.bool true)) rfl rfl (by simp only [go_sem] <;> rfl) (by simp only [go_sem] <;> rfl)
   apply Tr.done
   ·simp only [go_sem] <;> rfl
   ·simp
  refine EvC.ct ?_
  refine EvC.a ?_
  refine EvC.rz ?_
  simp only [go_sem]
  unfold trOk
  rw [decide_eq_false (show ¬ r.length = w.length by omega)]; rfl
 have c1' : r.length = w.length := by omega
 apply EvC.s1
 ·apply Tr.run
  ·simp only [go_sem, List.length_map, decide_eq_true c1] <;> rfl
  ·simp
  apply Tr.cons
  ·exact .cg (q)
  apply Tr.done
  ·simp only [go_sem] <;> rfl
  ·simp
 obtain hb | hb : badW i w = true ∨ badW i w = false := by cases badW i w <;> simp
 ·refine EvC.ct ?_ (by simp only [go_sem, hb] <;> rfl)
  refine EvC.a ?_
  refine EvC.rz ?_
  simp only [go_sem]
  unfold trOk
  rw [hb, Bool.not_true, Bool.false_and, Bool.and_false]
 refine EvC.cs ?_ (by simp only [go_sem, hb] <;> rfl)
 have hT : trOk i o ⟨w, r, wn, rn⟩ = respOk o false r := by
  unfold trOk
  rw [hb, decide_eq_true c1']; rfl
 rw [hT]
 refine EvC.a ?_
 refine EvC.seq ?_
 refine EvC.a ?_ (by simp only [go_sem, List.length_map] <;> rfl)
 refine EvC.block ?_
 refine EvC.loopS (σ := Nat × Bool) (fun p => ⟨[(2, .sc (.int .i64 o)), (7, .sc (.bool p.2)), (25, .sl rn (r.map intC) .unk), (26, .sc (.int .i64 r.length)), (27, .sc (.int .i64 p.1))], [], [], 0⟩) (fun p => r.length - p.1) (fun p => p.1 ≤ r.length ∧ respOk o false r = respOk o p.2 (r.drop p.1)) [2, 7, 25, 26, 27] 0 ?_ ?_
 ·exact ⟨[], (0, false), rfl, (by simp only [go_sem, Int.natCast_zero] <;> rfl), Nat.zero_le _, rfl⟩
 rintro ⟨k, e⟩ ⟨h1, h2⟩
 simp only at h1 h2 ⊢
 refine EvC.a ?_
 refine EvC.seq ?_
 refine EvC.cond (by simp only [go_sem] <;> rfl) (fun hc => ?_) (fun hc => ?_)
 rotate_left
 ·refine EvC.exit ?_
  obtain rfl : k = r.length := by have : ¬ k < r.length := (by simpa using hc); omega
  rw [List.drop_length] at h2
  refine EvC.a ?_
  refine EvC.rz ?_
  simp only [go_sem]
  rw [h2]; cases e <;> rfl
 have hkl : k < r.length := by simpa using hc
 clear hc
 have he : r[k]? = some r[k] := List.getElem?_eq_getElem hkl
 have hd : r.drop k = r[k] :: r.drop (k + 1) := List.drop_eq_getElem_cons hkl
 generalize r[k] = x at he hd
 rw [hd, respOk] at h2
 have hkt : ((k : Int)).toNat = k := Int.toNat_natCast k
 refine EvC.skip ?_
 refine EvC.seq ?_
 refine EvC.block ?_
 refine EvC.a ?_ (by simp only [go_sem, he, intC, hkt, List.length_map] <;> rfl) (by simp; try omega)
 refine EvC.seq ?_
 by_cases d1 : x < -1
 ·rw [if_pos (.inl d1)] at h2
  apply EvC.seq
  apply EvC.trd
  ·simp only [go_sem, decide_eq_true d1] <;> rfl
  ·simp
  refine EvC.ct ?_
  refine EvC.a ?_
  refine EvC.rz ?_
  simp only [go_sem]
  rw [h2]
 by_cases d2 : o ≤ x
 ·rw [if_pos (.inr (.inl d2))] at h2
  apply EvC.seq
  apply EvC.trd
  ·simp only [go_sem, decide_eq_false d1, decide_eq_true d2] <;> rfl
  ·simp
  refine EvC.ct ?_
  refine EvC.a ?_
  refine EvC.rz ?_
  simp only [go_sem]
  rw [h2]
 cases e with
 | false =>
   rw [if_neg (by simp; omega)] at h2
   apply EvC.seq
   apply EvC.trd
   ·simp only [go_sem, decide_eq_false d1, decide_eq_false d2] <;> rfl
   ·simp
   refine EvC.cs ?_
   refine EvC.b ?_
   refine EvC.b ?_ (hok := by exact inI64_of (by omega) (by omega))
   exact ⟨[], (k + 1, decide (x = -1)), rfl, (by simp only [go_sem, Int.natCast_add, Int.natCast_one] <;> rfl), ⟨hkl, h2⟩, by simp only; omega⟩
 | true =>
   by_cases d3 : x = -1
   ·rw [if_neg (by simp [d3]; omega)] at h2
    apply EvC.seq
    apply EvC.trd
    ·simp only [go_sem, decide_eq_false d1, decide_eq_false d2, decide_eq_true d3] <;> rfl
    ·simp
    refine EvC.cs ?_
    refine EvC.b ?_
    refine EvC.b ?_ (hok := by exact inI64_of (by omega) (by omega))
    exact ⟨[], (k + 1, decide (x = -1)), rfl, (by simp only [go_sem, Int.natCast_add, Int.natCast_one] <;> rfl), ⟨hkl, h2⟩, by simp only; omega⟩
   ·rw [if_pos (.inr (.inr ⟨rfl, d3⟩))] at h2
    apply EvC.seq
    apply EvC.trd
    ·simp only [go_sem, decide_eq_false d1, decide_eq_false d2, decide_eq_false d3] <;> rfl
    ·simp
    refine EvC.ct ?_
    refine EvC.a ?_
    refine EvC.rz ?_
    simp only [go_sem]
    rw [h2]
def sumT (L : List TR) : Nat := (L.map fun t => t.w.length).sum
def withinB (i o : Int) (L : List TR) : Bool := decide (i ≤ 16) && (decide (o ≤ 16) && (decide (L.length ≤ 1024) && (L.all (fun t => decide (t.w.length ≤ 256)) && decide (sumT L ≤ 65536))))
theorem sumT_next {L : List TR} {i : Nat} {t : TR} (h : L[i]? = some t) : sumT (L.take (i + 1)) = sumT (L.take i) + t.w.length := by
 obtain ⟨hi, he⟩ := List.getElem?_eq_some_iff.1 h
 rw [List.take_succ_eq_append_getElem hi, he]; simp [sumT]
theorem sumT_take (L : List TR) (i : Nat) : sumT (L.take i) ≤ sumT L := by
 have h : L.take i ++ L.drop i = L := List.take_append_drop i L
 have : sumT L = sumT (L.take i) + sumT (L.drop i) := by
  conv => lhs; rw [← h]
  simp only [sumT, List.map_append, List.sum_append]
 omega
structure LogSm (L : List TR) : Prop where
 len : L.length < 1000000
 w : ∀ t ∈ L, t.w.length < 1000000
 r : ∀ t ∈ L, t.r.length < 1000000
def logC (i o : Int) (ln : Bool) (L : List TR) : List AV := [.sc (.int .i64 i), .sc (.int .i64 o), .sl ln (L.map traceC) .unk]
theorem within98_is (i o : Int) (ln : Bool) (L : List TR) (hL : LogSm L) : PureIs prog 98 [.ag (logC i o ln L)] (.sc (.bool (withinB i o L))) := by
 have h1 := hL.len
 refine PureIs.of1 6 [7, 8, 9, 10, 30] func98 ntmps98 results98 fun _ => ?_
 refine EvC.a ?_ (by simp only [go_sem, logC] <;> rfl)
 refine EvC.z 0 ?_
 refine EvC.a ?_
 refine EvC.seq ?_
 refine EvC.a ?_ (by simp only [go_sem, List.length_map] <;> rfl)
 refine EvC.block ?_
 refine EvC.loopS (σ := Nat) (fun k => ⟨[(1, .ia [.sc (.int .i64 i), .sc (.int .i64 o), .sl ln (L.map traceC) .unk]), (3, .sc (.int .i64 (sumT (L.take k) : Nat))), (7, .sl ln (L.map traceC) .unk), (8, .sc (.int .i64 L.length)), (9, .sc (.int .i64 k))], [], [], 0⟩) (fun k => L.length - k) (fun k => k ≤ L.length ∧ k ≤ 1024 ∧ sumT (L.take k) ≤ 65536 ∧ ∀ t ∈ L.take k, t.w.length ≤ 256) [1, 3, 7, 8, 9] 0 ?_ ?_
 ·exact ⟨[], 0, rfl, (by simp only [go_sem, Int.natCast_zero, List.take_zero, sumT, List.map_nil, List.sum_nil] <;> rfl), Nat.zero_le _, Nat.zero_le _, Nat.zero_le _, fun t h => by cases h⟩
 rintro k ⟨h2, h3, h4, h5⟩
 refine EvC.a ?_
 refine EvC.seq ?_
 refine EvC.cond (by simp only [go_sem] <;> rfl) (fun hc => ?_) (fun hc => ?_)
 rotate_left
 ·refine EvC.exit ?_
  obtain rfl : k = L.length := by have : ¬ k < L.length := (by simpa using hc); omega
  rw [List.take_length] at h4 h5
  have hw : withinB i o L = (decide (i ≤ 16) && decide (o ≤ 16)) := by
   unfold withinB
   rw [decide_eq_true h3, decide_eq_true h4, List.all_eq_true.2 fun t ht => decide_eq_true (h5 t ht)]; simp
  by_cases c1 : i ≤ 16
  ·apply EvC.seq
   apply EvC.trd
   ·simp only [go_sem, decide_eq_true c1] <;> rfl
   ·simp
   refine EvC.rz ?_
   simp only [go_sem]
   rw [hw, decide_eq_true c1]; rfl
  ·apply EvC.seq
   apply EvC.trd
   ·simp only [go_sem, decide_eq_false c1] <;> rfl
   ·simp
   refine EvC.rz ?_
   simp only [go_sem]
   rw [hw, decide_eq_false c1]; rfl
 have hkl : k < L.length := by simpa using hc
 clear hc
 have he : L[k]? = some L[k] := List.getElem?_eq_getElem hkl
 have hm := List.getElem_mem hkl
 have htm : L.take (k + 1) = L.take k ++ [L[k]] := List.take_succ_eq_append_getElem hkl
 generalize L[k] = t at he hm htm
 have hwl := hL.w t hm
 have hs := sumT_next he
 have hle := sumT_take L (k + 1)
 obtain ⟨kZ, hkZ⟩ : ∃ z : Int, z = (k : Int) := ⟨_, rfl⟩
 have hkt : kZ.toNat = k := by omega
 have hsi : ((sumT (L.take k) : Nat) : Int) + (t.w.length : Int) = ((sumT (L.take (k + 1)) : Nat) : Int) := by omega
 have hI : inI64 ((sumT (L.take (k + 1)) : Nat) : Int) = true := inI64_of (by omega) (by omega)
 rw [← hkZ]
 refine EvC.skip ?_
 refine EvC.seq ?_
 refine EvC.block ?_
 refine EvC.a ?_ (by simp only [go_sem, he, hkt, traceC, List.length_map] <;> rfl) (by simp; try omega)
 refine EvC.z 4 ?_
 refine EvC.a ?_ (by simp only [go_sem, List.length_map, hsi] <;> rfl) (by simp [hI])
 have hno : ¬ withinB i o L = true → withinB i o L = false := fun h => Bool.eq_false_iff.2 h
 by_cases c1 : (1024 : Int) ≤ kZ
 ·apply EvC.seq
  apply EvC.trd
  ·simp only [go_sem, decide_eq_true c1, List.length_map] <;> rfl
  ·simp
  refine EvC.ct ?_
  refine EvC.a ?_
  refine EvC.rz ?_
  simp only [go_sem]
  rw [hno fun h => by simp only [withinB, Bool.and_eq_true, decide_eq_true_eq] at h; omega]
 by_cases c2 : (256 : Int) < t.w.length
 ·apply EvC.seq
  apply EvC.trd
  ·simp only [go_sem, decide_eq_false c1, decide_eq_true c2, List.length_map] <;> rfl
  ·simp
  refine EvC.ct ?_
  refine EvC.a ?_
  refine EvC.rz ?_
  simp only [go_sem]
  rw [hno fun h => by
   simp only [withinB, Bool.and_eq_true, decide_eq_true_eq, List.all_eq_true] at h
   have := h.2.2.2.1 t hm; omega]
 by_cases c3 : (65536 : Int) < ((sumT (L.take (k + 1)) : Nat) : Int)
 ·apply EvC.seq
  apply EvC.trd
  ·simp only [go_sem, decide_eq_false c1, decide_eq_false c2, decide_eq_true c3, List.length_map] <;> rfl
  ·simp
  refine EvC.ct ?_
  refine EvC.a ?_
  refine EvC.rz ?_
  simp only [go_sem]
  rw [hno fun h => by simp only [withinB, Bool.and_eq_true, decide_eq_true_eq] at h; omega]
 apply EvC.seq
 apply EvC.trd
 ·simp only [go_sem, decide_eq_false c1, decide_eq_false c2, decide_eq_false c3, List.length_map] <;> rfl
 ·simp
 refine EvC.cs ?_
 refine EvC.b ?_ (hok := by exact inI64_of (by omega) (by omega))
 refine ⟨[], k + 1, rfl, (by rw [hkZ]; simp only [go_sem, Int.natCast_add, Int.natCast_one] <;> rfl), ⟨hkl, by omega, by omega, fun u hu => ?_⟩, by omega⟩
 rw [htm] at hu
 rcases List.mem_append.1 hu with hu | hu
 ·exact h5 u hu
 ·rw [List.mem_singleton] at hu; subst hu; omega
def checkL (i o : Int) (L : List TR) : Int := if withinB i o L = false then 3 else if i < 1 ∨ o < 1 then 1 else if L.all (trOk i o) = true then 0 else 1
theorem check74_is (i o : Int) (ln : Bool) (L : List TR) (hL : LogSm L) : PureIs prog 74 [.ag (logC i o ln L)] (.sc (.int .i64 (checkL i o L))) := by
 have h1 := hL.len
 have hW := within98_is i o ln L hL
 unfold logC at hW
 unfold checkL
 refine PureIs.of1 3 [4, 7, 15, 17, 18, 19, 20, 29] func74 ntmps74 results74 fun _ => ?_
 refine EvC.a ?_ (by simp only [go_sem, logC] <;> rfl)
 refine EvC.z 0 ?_
 refine EvC.seq ?_
 apply EvC.s1
 ·apply Tr.run
  ·simp only [go_sem] <;> rfl
  ·simp
  apply Tr.cons
  ·exact .ca (hW)
  apply Tr.done
  ·simp only [go_sem] <;> rfl
  ·simp
 obtain hb | hb : withinB i o L = false ∨ withinB i o L = true := by cases withinB i o L <;> simp
 ·rw [if_pos hb]
  refine EvC.ct ?_ (by simp only [go_sem, hb] <;> rfl)
  refine EvC.a ?_
  refine EvC.rz ?_
  simp only [go_sem]
 rw [if_neg (show ¬ withinB i o L = false by rw [hb]; simp)]
 refine EvC.cs ?_ (by simp only [go_sem, hb] <;> rfl)
 refine EvC.seq ?_
 by_cases c1 : i < 1
 ·rw [if_pos (show i < 1 ∨ o < 1 from .inl c1)]
  apply EvC.seq
  apply EvC.trd
  ·simp only [go_sem, decide_eq_true c1] <;> rfl
  ·simp
  refine EvC.ct ?_
  refine EvC.a ?_
  refine EvC.rz ?_
  simp only [go_sem]
 by_cases c2 : o < 1
 ·rw [if_pos (show i < 1 ∨ o < 1 from .inr c2)]
  apply EvC.seq
  apply EvC.trd
  ·simp only [go_sem, decide_eq_false c1, decide_eq_true c2] <;> rfl
  ·simp
  refine EvC.ct ?_
  refine EvC.a ?_
  refine EvC.rz ?_
  simp only [go_sem]
 rw [if_neg (show ¬ (i < 1 ∨ o < 1) by omega)]
 apply EvC.seq
 apply EvC.trd
 ·simp only [go_sem, decide_eq_false c1, decide_eq_false c2] <;> rfl
 ·simp
 refine EvC.cs ?_
 refine EvC.seq ?_
 refine EvC.a ?_ (by simp only [go_sem, List.length_map] <;> rfl)
 refine EvC.block ?_
 refine EvC.loopS (σ := Nat) (fun k => ⟨[(1, .ia [.sc (.int .i64 i), .sc (.int .i64 o), .sl ln (L.map traceC) .unk]), (17, .sl ln (L.map traceC) .unk), (18, .sc (.int .i64 L.length)), (19, .sc (.int .i64 k))], [], [], 0⟩) (fun k => L.length - k) (fun k => k ≤ L.length ∧ L.all (trOk i o) = (L.drop k).all (trOk i o)) [1, 17, 18, 19] 0 ?_ ?_
 ·exact ⟨[], 0, rfl, (by simp only [go_sem, List.length_map, Int.natCast_zero] <;> rfl), Nat.zero_le _, rfl⟩
 rintro k ⟨h2, h3⟩
 refine EvC.a ?_
 refine EvC.seq ?_
 refine EvC.cond (by simp only [go_sem] <;> rfl) (fun hc => ?_) (fun hc => ?_)
 rotate_left
 ·refine EvC.exit ?_
  obtain rfl : k = L.length := by have : ¬ k < L.length := (by simpa using hc); omega
  rw [List.drop_length] at h3
  refine EvC.a ?_
  refine EvC.rz ?_
  simp only [go_sem]
  rw [h3]; rfl
 have hkl : k < L.length := by simpa using hc
 clear hc
 have he : L[k]? = some L[k] := List.getElem?_eq_getElem hkl
 have hd : L.drop k = L[k] :: L.drop (k + 1) := List.drop_eq_getElem_cons hkl
 have hm := List.getElem_mem hkl
 generalize L[k] = t at he hd hm
 rw [hd, List.all_cons] at h3
 have hV := trvalid_is t i o (hL.w t hm) (hL.r t hm)
 unfold traceC at hV
 have hkt : ((k : Int)).toNat = k := Int.toNat_natCast k
 refine EvC.skip ?_
 refine EvC.seq ?_
 refine EvC.block ?_
 refine EvC.a ?_ (by simp only [go_sem, he, hkt, traceC, List.length_map] <;> rfl) (by simp; try omega)
 refine EvC.z 3 ?_
 apply EvC.s1
 ·apply Tr.run
  ·simp only [go_sem] <;> rfl
  ·simp
  apply Tr.cons
  ·exact .ca (hV)
  apply Tr.done
  ·simp only [go_sem] <;> rfl
  ·simp
 obtain hx | hx : trOk i o t = false ∨ trOk i o t = true := by cases trOk i o t <;> simp
 ·refine EvC.ct ?_ (by simp only [go_sem, hx] <;> rfl)
  refine EvC.a ?_
  refine EvC.rz ?_
  simp only [go_sem]
  rw [h3, hx]; rfl
 refine EvC.cs ?_ (by simp only [go_sem, hx] <;> rfl)
 refine EvC.b ?_ (hok := by exact inI64_of (by omega) (by omega))
 exact ⟨[], k + 1, rfl, (by simp only [go_sem, Int.natCast_add, Int.natCast_one] <;> rfl), ⟨hkl, by rw [h3, hx]; rfl⟩, by omega⟩
theorem inputs69_is (nl : Bool) (w : List Int) (c : Cp) (n : Int) (hl : w.length < 1000000) : PureIs prog 69 [.sl nl (w.map intC) c, .sc (.int .i64 n)] (.sc (.bool (!badW n w))) := by
 refine PureIs.of1 2 [4, 5, 9, 24] func69 ntmps69 results69 fun _ => ?_
 refine EvC.a ?_
 refine EvC.seq ?_
 refine EvC.a ?_
 refine EvC.block ?_
 refine EvC.loopS (σ := Nat) (fun k => ⟨[(0, .sl nl (w.map intC) c), (1, .sc (.int .i64 n)), (5, .sc (.int .i64 k))], [], [], 0⟩) (fun k => w.length - k) (fun k => k ≤ w.length ∧ badW n w = badW n (w.drop k)) [0, 1, 5] 0 ?_ ?_
 ·exact ⟨[], 0, rfl, (by simp only [go_sem, Int.natCast_zero] <;> rfl), Nat.zero_le _, rfl⟩
 rintro k ⟨h1, h2⟩
 refine EvC.seq ?_
 refine EvC.a ?_ (by simp only [go_sem, List.length_map] <;> rfl)
 refine EvC.cond (by simp only [go_sem] <;> rfl) (fun hc => ?_) (fun hc => ?_)
 rotate_left
 ·refine EvC.exit ?_
  obtain rfl : k = w.length := by have : ¬ k < w.length := (by simpa using hc); omega
  rw [List.drop_length] at h2
  refine EvC.a ?_
  refine EvC.rz ?_
  simp only [go_sem]
  rw [h2]; rfl
 have hkl : k < w.length := by simpa using hc
 clear hc
 have he : w[k]? = some w[k] := List.getElem?_eq_getElem hkl
 have hd : w.drop k = w[k] :: w.drop (k + 1) := List.drop_eq_getElem_cons hkl
 generalize w[k] = x at he hd
 have h3 : badW n w = ((decide (x < 0) || decide (n ≤ x)) || badW n (w.drop (k + 1))) := by rw [h2, hd]; rfl
 have hkt : ((k : Int)).toNat = k := Int.toNat_natCast k
 refine EvC.skip ?_
 refine EvC.seq ?_
 refine EvC.block ?_
 by_cases d1 : x < 0
 ·apply EvC.seq
  apply EvC.trd
  ·simp only [go_sem, he, intC, hkt, List.length_map, decide_eq_true d1] <;> rfl
  ·simp; try omega
  refine EvC.ct ?_
  refine EvC.a ?_
  refine EvC.rz ?_
  simp only [go_sem]
  rw [h3, decide_eq_true d1]; rfl
 by_cases d2 : n ≤ x
 ·apply EvC.seq
  apply EvC.trd
  ·simp only [go_sem, he, intC, hkt, List.length_map, decide_eq_false d1, decide_eq_true d2] <;> rfl
  ·simp; try omega
  refine EvC.ct ?_
  refine EvC.a ?_
  refine EvC.rz ?_
  simp only [go_sem]
  rw [h3, decide_eq_true d2, Bool.or_true]; rfl
 apply EvC.seq
 apply EvC.trd
 ·simp only [go_sem, he, intC, hkt, List.length_map, decide_eq_false d1, decide_eq_false d2] <;> rfl
 ·simp; try omega
 refine EvC.cs ?_
 refine EvC.b ?_ (hok := by exact inI64_of (by omega) (by omega))
 exact ⟨[], k + 1, rfl, (by simp only [go_sem, Int.natCast_add, Int.natCast_one] <;> rfl), ⟨hkl, by rw [h3, decide_eq_false d1, decide_eq_false d2]; rfl⟩, by omega⟩
theorem within68_is (i o : Int) (ln : Bool) (L : List TR) (hL : LogSm L) : PureIs prog 68 [.ag (logC i o ln L)] (.sc (.bool (withinB i o L))) := by
 have h1 := hL.len
 refine PureIs.of1 5 [18, 23, 33] func68 ntmps68 results68 fun _ => ?_
 refine EvC.a ?_ (by simp only [go_sem, logC] <;> rfl)
 refine EvC.z 0 ?_
 refine EvC.a ?_
 have hno : ¬ withinB i o L = true → withinB i o L = false := fun h => Bool.eq_false_iff.2 h
 refine EvC.seq ?_
 by_cases c1 : 16 < i
 ·apply EvC.seq
  apply EvC.trd
  ·simp only [go_sem, decide_eq_true c1, List.length_map] <;> rfl
  ·simp
  refine EvC.ct ?_
  refine EvC.a ?_
  refine EvC.rz ?_
  simp only [go_sem]
  rw [hno fun h => by simp only [withinB, Bool.and_eq_true, decide_eq_true_eq] at h; omega]
 by_cases c2 : 16 < o
 ·apply EvC.seq
  apply EvC.trd
  ·simp only [go_sem, decide_eq_false c1, decide_eq_true c2, List.length_map] <;> rfl
  ·simp
  refine EvC.ct ?_
  refine EvC.a ?_
  refine EvC.rz ?_
  simp only [go_sem]
  rw [hno fun h => by simp only [withinB, Bool.and_eq_true, decide_eq_true_eq] at h; omega]
 by_cases c3 : (1024 : Int) < L.length
 ·apply EvC.seq
  apply EvC.trd
  ·simp only [go_sem, decide_eq_false c1, decide_eq_false c2, decide_eq_true c3, List.length_map] <;> rfl
  ·simp
  refine EvC.ct ?_
  refine EvC.a ?_
  refine EvC.rz ?_
  simp only [go_sem]
  rw [hno fun h => by simp only [withinB, Bool.and_eq_true, decide_eq_true_eq] at h; omega]
 apply EvC.seq
 apply EvC.trd
 ·simp only [go_sem, decide_eq_false c1, decide_eq_false c2, decide_eq_false c3, List.length_map] <;> rfl
 ·simp
 refine EvC.cs ?_
 refine EvC.seq ?_
 refine EvC.a ?_
 refine EvC.block ?_
 refine EvC.loopS (σ := Nat) (fun k => ⟨[(1, .ia [.sc (.int .i64 i), .sc (.int .i64 o), .sl ln (L.map traceC) .unk]), (3, .sc (.int .i64 (sumT (L.take k) : Nat))), (4, .sc (.int .i64 k))], [], [], 0⟩) (fun k => L.length - k) (fun k => k ≤ L.length ∧ sumT (L.take k) ≤ 256 * k ∧ ∀ t ∈ L.take k, t.w.length ≤ 256) [1, 3, 4] 0 ?_ ?_
 ·exact ⟨[], 0, rfl, (by simp only [go_sem, Int.natCast_zero, List.take_zero, sumT, List.map_nil, List.sum_nil] <;> rfl), Nat.zero_le _, Nat.zero_le _, fun t h => by cases h⟩
 rintro k ⟨h2, h4, h5⟩
 refine EvC.seq ?_
 refine EvC.a ?_ (by simp only [go_sem, List.length_map] <;> rfl)
 refine EvC.cond (by simp only [go_sem] <;> rfl) (fun hc => ?_) (fun hc => ?_)
 rotate_left
 ·refine EvC.exit ?_
  obtain rfl : k = L.length := by have : ¬ k < L.length := (by simpa using hc); omega
  rw [List.take_length] at h4 h5 ⊢
  have hw : withinB i o L = decide (((sumT L : Nat) : Int) ≤ 65536) := by
   unfold withinB
   rw [decide_eq_true (show i ≤ 16 by omega), decide_eq_true (show o ≤ 16 by omega), decide_eq_true (show L.length ≤ 1024 by omega), List.all_eq_true.2 fun t ht => decide_eq_true (h5 t ht)]
   simp only [Bool.true_and]
   by_cases h : sumT L ≤ 65536
   ·rw [decide_eq_true h, decide_eq_true (by omega)]
   ·rw [decide_eq_false h, decide_eq_false (by omega)]
  refine EvC.a ?_
  refine EvC.rz ?_
  simp only [go_sem]
  rw [hw]
 have hkl : k < L.length := by simpa using hc
 clear hc
 have he : L[k]? = some L[k] := List.getElem?_eq_getElem hkl
 have hm := List.getElem_mem hkl
 have htm : L.take (k + 1) = L.take k ++ [L[k]] := List.take_succ_eq_append_getElem hkl
 generalize L[k] = t at he hm htm
 have hwl := hL.w t hm
 have hs := sumT_next he
 obtain ⟨kZ, hkZ⟩ : ∃ z : Int, z = (k : Int) := ⟨_, rfl⟩
 have hkt : kZ.toNat = k := by omega
 rw [← hkZ]
 refine EvC.skip ?_
 refine EvC.seq ?_
 refine EvC.block ?_
 refine EvC.seq ?_
 refine EvC.a ?_ (by simp only [go_sem, he, hkt, traceC, List.length_map] <;> rfl) (by simp; try omega)
 by_cases d1 : (256 : Int) < t.w.length
 ·refine EvC.ct ?_ (by simp only [go_sem, decide_eq_true d1] <;> rfl)
  refine EvC.a ?_
  refine EvC.rz ?_
  simp only [go_sem]
  rw [hno fun h => by
   simp only [withinB, Bool.and_eq_true, decide_eq_true_eq, List.all_eq_true] at h
   have := h.2.2.2.1 t hm; omega]
 refine EvC.cs ?_ (by simp only [go_sem, decide_eq_false d1] <;> rfl)
 have hsi : ((sumT (L.take k) : Nat) : Int) + (t.w.length : Int) = ((sumT (L.take (k + 1)) : Nat) : Int) := by omega
 have hI : inI64 ((sumT (L.take (k + 1)) : Nat) : Int) = true := inI64_of (by omega) (by omega)
 refine EvC.b ?_ (by simp only [go_sem, he, hkt, traceC, List.length_map, hsi] <;> rfl) (by simp [hI]; try omega)
 refine EvC.b ?_ (hok := by exact inI64_of (by omega) (by omega))
 refine ⟨[], k + 1, rfl, (by rw [hkZ]; simp only [go_sem, Int.natCast_add, Int.natCast_one] <;> rfl), ⟨hkl, by omega, fun u hu => ?_⟩, by omega⟩
 rw [htm] at hu
 rcases List.mem_append.1 hu with hu | hu
 ·exact h5 u hu
 ·rw [List.mem_singleton] at hu; subst hu; omega
def endB (r : List Int) : Nat → Bool
 | 0 => false
 | k + 1 => decide (r.getD k 0 = -1)
set_option maxHeartbeats 4000000 in
theorem check29_is (i o : Int) (ln : Bool) (L : List TR) (hL : LogSm L) : PureIs prog 29 [.ag (logC i o ln L)] (.sc (.int .i64 (checkL i o L))) := by
 have h1 := hL.len
 have hW := within68_is i o ln L hL
 unfold logC at hW
 unfold checkL
 refine PureIs.of1 6 [8, 16, 21, 43, 48, 87] func29 ntmps29 results29 fun _ => ?_
 refine EvC.a ?_ (by simp only [go_sem, logC] <;> rfl)
 refine EvC.z 0 ?_
 refine EvC.seq ?_
 apply EvC.s1
 ·apply Tr.run
  ·simp only [go_sem] <;> rfl
  ·simp
  apply Tr.cons
  ·exact .ca (hW)
  apply Tr.done
  ·simp only [go_sem] <;> rfl
  ·simp
 obtain hb | hb : withinB i o L = false ∨ withinB i o L = true := by cases withinB i o L <;> simp
 ·rw [if_pos hb]
  refine EvC.ct ?_ (by simp only [go_sem, hb] <;> rfl)
  refine EvC.a ?_
  refine EvC.rz ?_
  simp only [go_sem]
 rw [if_neg (show ¬ withinB i o L = false by rw [hb]; simp)]
 refine EvC.cs ?_ (by simp only [go_sem, hb] <;> rfl)
 refine EvC.seq ?_
 by_cases c1 : i < 1
 ·rw [if_pos (show i < 1 ∨ o < 1 from .inl c1)]
  apply EvC.seq
  apply EvC.trd
  ·simp only [go_sem, decide_eq_true c1] <;> rfl
  ·simp
  refine EvC.ct ?_
  refine EvC.a ?_
  refine EvC.rz ?_
  simp only [go_sem]
 by_cases c2 : o < 1
 ·rw [if_pos (show i < 1 ∨ o < 1 from .inr c2)]
  apply EvC.seq
  apply EvC.trd
  ·simp only [go_sem, decide_eq_false c1, decide_eq_true c2] <;> rfl
  ·simp
  refine EvC.ct ?_
  refine EvC.a ?_
  refine EvC.rz ?_
  simp only [go_sem]
 rw [if_neg (show ¬ (i < 1 ∨ o < 1) by omega)]
 apply EvC.seq
 apply EvC.trd
 ·simp only [go_sem, decide_eq_false c1, decide_eq_false c2] <;> rfl
 ·simp
 refine EvC.cs ?_
 refine EvC.seq ?_
 refine EvC.a ?_ (by simp only [go_sem, List.length_map] <;> rfl)
 refine EvC.block ?_
 refine EvC.loopS (σ := Nat) (fun k => ⟨[(1, .ia [.sc (.int .i64 i), .sc (.int .i64 o), .sl ln (L.map traceC) .unk]), (3, .sc (.int .i64 k))], [], [], 0⟩) (fun k => L.length - k) (fun k => k ≤ L.length ∧ L.all (trOk i o) = (L.drop k).all (trOk i o)) [1, 3] 0 ?_ ?_
 ·exact ⟨[], 0, rfl, (by simp only [go_sem, List.length_map, Int.natCast_zero] <;> rfl), Nat.zero_le _, rfl⟩
 rintro k ⟨h2, h3⟩
 refine EvC.seq ?_
 refine EvC.a ?_ (by simp only [go_sem, List.length_map] <;> rfl)
 refine EvC.cond (by simp only [go_sem] <;> rfl) (fun hc => ?_) (fun hc => ?_)
 rotate_left
 ·refine EvC.exit ?_
  obtain rfl : k = L.length := by have : ¬ k < L.length := (by simpa using hc); omega
  rw [List.drop_length] at h3
  refine EvC.a ?_
  refine EvC.rz ?_
  simp only [go_sem]
  rw [h3]; rfl
 have hkl : k < L.length := by simpa using hc
 clear hc
 have he : L[k]? = some L[k] := List.getElem?_eq_getElem hkl
 have hd : L.drop k = L[k] :: L.drop (k + 1) := List.drop_eq_getElem_cons hkl
 have hm := List.getElem_mem hkl
 generalize L[k] = t at he hd hm
 rw [hd, List.all_cons] at h3
 have hwl := hL.w t hm
 have hrl := hL.r t hm
 obtain ⟨w, r, wn, rn⟩ := t
 simp only at hwl hrl
 have q := inputs69_is wn w .unk i hwl
 obtain ⟨kZ, hkZ⟩ : ∃ z : Int, z = (k : Int) := ⟨_, rfl⟩
 have hkt : kZ.toNat = k := by omega
 rw [← hkZ]
 have hbad : trOk i o ⟨w, r, wn, rn⟩ = false → L.all (trOk i o) = false := fun h => by rw [h3, h]; rfl
 refine EvC.skip ?_
 refine EvC.seq ?_
 refine EvC.block ?_
 refine EvC.a ?_ (by simp only [go_sem, he, hkt, traceC, List.length_map] <;> rfl) (by simp; try omega)
 refine EvC.z 10 ?_
 refine EvC.seq ?_
 obtain hbw | hbw : badW i w = true ∨ badW i w = false := by cases badW i w <;> simp
 ·apply EvC.s1
  ·apply Tr.run
   ·simp only [go_sem] <;> rfl
   ·simp
   apply Tr.cons
   ·exact .ca (q)
   apply Tr.done
   ·simp only [go_sem, List.length_map, hbw] <;> rfl
   ·simp
  refine EvC.ct ?_ (by simp only [go_sem, hbw] <;> rfl)
  refine EvC.a ?_
  refine EvC.rz ?_
  simp only [go_sem]
  rw [hbad (by unfold trOk; rw [hbw, Bool.not_true, Bool.false_and, Bool.and_false])]; rfl
 by_cases c3 : (r.length : Int) = w.length
 rotate_left
 ·apply EvC.s1
  ·apply Tr.run
   ·simp only [go_sem] <;> rfl
   ·simp
   apply Tr.cons
   ·exact .ca (q)
   apply Tr.done
   ·simp only [go_sem, List.length_map, hbw, decide_eq_false c3] <;> rfl
   ·simp
  refine EvC.ct ?_ (by simp only [go_sem, hbw, decide_eq_false c3] <;> rfl)
  refine EvC.a ?_
  refine EvC.rz ?_
  simp only [go_sem]
  rw [hbad (by unfold trOk; rw [decide_eq_false (show ¬ r.length = w.length by omega)]; rfl)]; rfl
 apply EvC.s1
 ·apply Tr.run
  ·simp only [go_sem] <;> rfl
  ·simp
  apply Tr.cons
  ·exact .ca (q)
  apply Tr.done
  ·simp only [go_sem, List.length_map, hbw, decide_eq_true c3] <;> rfl
  ·simp
 refine EvC.cf ?_ (by simp only [go_sem, hbw, decide_eq_true c3] <;> rfl)
 have c3' : r.length = w.length := by omega
 have hT : trOk i o ⟨w, r, wn, rn⟩ = respOk o false r := by
  unfold trOk
  rw [hbw, decide_eq_true c3']; rfl
 rw [hT] at h3 hbad
 refine EvC.skip ?_
 refine EvC.a ?_
 refine EvC.block ?_
 refine EvC.loopS (σ := Nat) (fun k => ⟨[(1, .ia [.sc (.int .i64 i), .sc (.int .i64 o), .sl ln (L.map traceC) .unk]), (3, .sc (.int .i64 kZ)), (4, .ia [.sl wn (w.map intC) .unk, .sl rn (r.map intC) .unk]), (5, .sc (.int .i64 k))], [], [], 0⟩) (fun k => r.length - k) (fun k => k ≤ r.length ∧ respOk o false r = respOk o (endB r k) (r.drop k)) [1, 3, 4, 5] 0 ?_ ?_
 ·exact ⟨[], 0, rfl, (by simp only [go_sem, Int.natCast_zero] <;> rfl), Nat.zero_le _, rfl⟩
 rintro j ⟨g1, g2⟩
 refine EvC.seq ?_
 refine EvC.a ?_ (by simp only [go_sem, List.length_map] <;> rfl)
 refine EvC.cond (by simp only [go_sem] <;> rfl) (fun hc => ?_) (fun hc => ?_)
 rotate_left
 ·refine EvC.exit ?_
  obtain rfl : j = r.length := by have : ¬ j < r.length := (by simpa using hc); omega
  rw [List.drop_length] at g2
  have g3 : respOk o false r = true := by rw [g2]; cases endB r r.length <;> rfl
  refine EvC.b ?_ (hok := by exact inI64_of (by omega) (by omega))
  exact ⟨[], k + 1, rfl, (by rw [hkZ]; simp only [go_sem, Int.natCast_add, Int.natCast_one] <;> rfl), ⟨hkl, by rw [h3, g3]; rfl⟩, by omega⟩
 have hjl : j < r.length := by simpa using hc
 clear hc
 have hre : r[j]? = some r[j] := List.getElem?_eq_getElem hjl
 have hrd : r.drop j = r[j] :: r.drop (j + 1) := List.drop_eq_getElem_cons hjl
 have hen : endB r (j + 1) = decide (r[j] = -1) := by
  rw [endB, List.getD_eq_getElem?_getD, hre]; rfl
 generalize r[j] = x at hre hrd hen
 rw [hrd, respOk] at g2
 obtain ⟨jZ, hjZ⟩ : ∃ z : Int, z = (j : Int) := ⟨_, rfl⟩
 have hjt : jZ.toNat = j := by omega
 rw [← hjZ]
 refine EvC.skip ?_
 refine EvC.seq ?_
 refine EvC.block ?_
 obtain ⟨y, hpv⟩ : ∃ y, r[(jZ - 1).toNat]? = some y := ⟨_, List.getElem?_eq_getElem (by omega)⟩
 have hey : endB r j = (decide (0 < jZ) && decide (y = -1)) := by
  cases j with
  | zero => rw [decide_eq_false (show ¬ 0 < jZ by omega)]; rfl
  | succ j =>
    rw [show (jZ - 1).toNat = j by omega] at hpv
    rw [decide_eq_true (show 0 < jZ by omega), endB, List.getD_eq_getElem?_getD, hpv]; rfl
 have hIj : inI64 (jZ - 1) = true := inI64_of (by omega) (by omega)
 by_cases d1 : x < -1
 ·rw [if_pos (.inl d1)] at g2
  apply EvC.seq
  apply EvC.drd mixed
  ·simp only [go_sem, decide_eq_true d1, hre, intC, hjt, hpv, List.length_map] <;> rfl
  ·simp [hIj]; try omega
  ·kernel_rfl
  refine EvC.ct ?_
  refine EvC.a ?_
  refine EvC.rz ?_
  simp only [go_sem]
  rw [hbad g2]; rfl
 by_cases d2 : o ≤ x
 ·rw [if_pos (.inr (.inl d2))] at g2
  apply EvC.seq
  apply EvC.drd mixed
  ·simp only [go_sem, decide_eq_false d1, decide_eq_true d2, hre, intC, hjt, hpv, List.length_map] <;> rfl
  ·simp [hIj]; try omega
  ·kernel_rfl
  refine EvC.ct ?_
  refine EvC.a ?_
  refine EvC.rz ?_
  simp only [go_sem]
  rw [hbad g2]; rfl
 by_cases d3 : 0 < jZ
 rotate_left
 ·have he0 : endB r j = false := by rw [hey, decide_eq_false d3]; rfl
  rw [he0] at g2
  apply EvC.seq
  apply EvC.drd mixed
  ·simp only [go_sem, decide_eq_false d1, decide_eq_false d2, decide_eq_false d3, decide_not, hre, intC, hjt, hpv, List.length_map] <;> rfl
  ·simp [hIj]; try omega
  ·kernel_rfl
  rw [if_neg (by simp; omega)] at g2
  refine EvC.cs ?_ (by simp only [go_sem, decide_eq_false d3] <;> rfl)
  refine EvC.b ?_ (hok := by exact inI64_of (by omega) (by omega))
  exact ⟨[], j + 1, rfl, (by rw [hjZ]; simp only [go_sem, Int.natCast_add, Int.natCast_one] <;> rfl), ⟨hjl, by rw [hen, ← g2]⟩, by omega⟩
 by_cases d4 : y = -1
 rotate_left
 ·have he0 : endB r j = false := by rw [hey, decide_eq_false d4, Bool.and_false]
  rw [he0] at g2
  apply EvC.seq
  apply EvC.drd mixed
  ·simp only [go_sem, decide_eq_false d1, decide_eq_false d2, decide_eq_true d3, decide_eq_false d4, decide_not, hre, intC, hjt, hpv, List.length_map] <;> rfl
  ·simp [hIj]; try omega
  ·kernel_rfl
  rw [if_neg (by simp; omega)] at g2
  refine EvC.cs ?_ (by simp only [go_sem, decide_eq_true d3, decide_eq_false d4] <;> rfl)
  refine EvC.b ?_ (hok := by exact inI64_of (by omega) (by omega))
  exact ⟨[], j + 1, rfl, (by rw [hjZ]; simp only [go_sem, Int.natCast_add, Int.natCast_one] <;> rfl), ⟨hjl, by rw [hen, ← g2]⟩, by omega⟩
 have he0 : endB r j = true := by rw [hey, decide_eq_true d3, decide_eq_true d4]; rfl
 rw [he0] at g2
 by_cases d5 : x = -1
 ·apply EvC.seq
  apply EvC.drd mixed
  ·simp only [go_sem, decide_eq_false d1, decide_eq_false d2, decide_eq_true d3, decide_eq_true d4, decide_eq_true d5, decide_not, hre, intC, hjt, hpv, List.length_map] <;> rfl
  ·simp [hIj]; try omega
  ·kernel_rfl
  rw [if_neg (by simp [d5]; omega)] at g2
  refine EvC.cs ?_ (by simp only [go_sem, decide_eq_true d3, decide_eq_true d4, decide_eq_true d5] <;> rfl)
  refine EvC.b ?_ (hok := by exact inI64_of (by omega) (by omega))
  exact ⟨[], j + 1, rfl, (by rw [hjZ]; simp only [go_sem, Int.natCast_add, Int.natCast_one] <;> rfl), ⟨hjl, by rw [hen, ← g2]⟩, by omega⟩
 rw [if_pos (.inr (.inr ⟨rfl, d5⟩))] at g2
 apply EvC.seq
 apply EvC.drd mixed
 ·simp only [go_sem, decide_eq_false d1, decide_eq_false d2, decide_eq_true d3, decide_eq_true d4, decide_eq_false d5, decide_not, hre, intC, hjt, hpv, List.length_map] <;> rfl
 ·simp [hIj]; try omega
 ·kernel_rfl
 refine EvC.ct ?_ (by simp only [go_sem, decide_eq_false d5] <;> rfl)
 refine EvC.a ?_
 refine EvC.rz ?_
 simp only [go_sem]
 rw [hbad g2]; rfl
theorem one_is (wn : Bool) (w : List Int) (wc : Cp) (rn : Bool) (r : List Int) (rc : Cp) : PureIs prog 41 [.sl wn (w.map intC) wc, .sl rn (r.map intC) rc] (.ag [.sc (.int .i64 2), .sc (.int .i64 2), .sl false [[.sl wn (w.map intC) wc, .sl rn (r.map intC) rc]] .full]) := by
 refine PureIs.of1 2 [4] func41 ntmps41 results41 fun _ => ?_
 refine EvC.a ?_
 refine EvC.a ?_
 refine EvC.rz ?_
 simp only [go_sem]
instance : DecidableEq FA := fun a b => decidable_of_iff (a.kind = b.kind ∧ a.state = b.state ∧ a.input = b.input ∧ a.to = b.to ∧ a.at' = b.at' ∧ a.out = b.out) ⟨fun h => by obtain ⟨a1, a2, a3, a4, a5, a6⟩ := a; obtain ⟨b1, b2, b3, b4, b5, b6⟩ := b; simp only at h; obtain ⟨rfl, rfl, rfl, rfl, rfl, rfl⟩ := h; rfl, fun h => by subst h; exact ⟨rfl, rfl, rfl, rfl, rfl, rfl⟩⟩
theorem eq_FA (x y : FA) : (decide (x.kind = y.kind) && (decide (x.state = y.state) && (decide (x.input = y.input) && (decide (x.to = y.to) && (decide (x.at' = y.at') && decide (x.out = y.out)))))) = decide (x = y) := by
 obtain ⟨a1, a2, a3, a4, a5, a6⟩ := x
 obtain ⟨b1, b2, b3, b4, b5, b6⟩ := y
 simp
theorem sameF_is (an : Bool) (a : List FA) (ac : Cp) (bn : Bool) (b : List FA) (bc : Cp) (hl : a.length < 1000000) : PureIs prog 13 [.sl an (a.map FA.cells) ac, .sl bn (b.map FA.cells) bc] (.sc (.bool (decide (a = b)))) := by
 refine PureIs.of1 2 [4, 5, 10, 14, 25] func13 ntmps13 results13 fun _ => ?_
 refine EvC.a ?_
 refine EvC.seq ?_
 refine EvC.a ?_ (by simp only [go_sem, List.length_map] <;> rfl)
 by_cases c1 : a.length = b.length
 rotate_left
 ·refine EvC.ct ?_ (by simp only [go_sem, decide_eq_false (show ¬ (a.length : Int) = b.length by omega)] <;> rfl)
  refine EvC.a ?_
  refine EvC.rz ?_
  simp only [go_sem]
  rw [decide_eq_false (fun e => c1 (by rw [e]))]
 refine EvC.cs ?_ (by simp only [go_sem, decide_eq_true (show (a.length : Int) = b.length by omega)] <;> rfl)
 refine EvC.seq ?_
 refine EvC.a ?_
 refine EvC.block ?_
 refine EvC.loopS (σ := Nat) (fun k => ⟨[(0, .sl an (a.map FA.cells) ac), (1, .sl bn (b.map FA.cells) bc), (5, .sc (.int .i64 k))], [], [], 0⟩) (fun k => a.length - k) (fun k => k ≤ a.length ∧ a.take k = b.take k) [0, 1, 5] 0 ?_ ?_
 ·exact ⟨[], 0, rfl, (by simp only [go_sem, Int.natCast_zero] <;> rfl), Nat.zero_le _, rfl⟩
 rintro k ⟨h1, h2⟩
 refine EvC.seq ?_
 refine EvC.a ?_ (by simp only [go_sem, List.length_map] <;> rfl)
 refine EvC.cond (by simp only [go_sem] <;> rfl) (fun hc => ?_) (fun hc => ?_)
 rotate_left
 ·refine EvC.exit ?_
  obtain rfl : k = a.length := by have : ¬ k < a.length := (by simpa using hc); omega
  rw [List.take_length, c1, List.take_length] at h2
  refine EvC.a ?_
  refine EvC.rz ?_
  simp only [go_sem]
  rw [decide_eq_true h2]
 have hkl : k < a.length := by simpa using hc
 clear hc
 have he : a[k]? = some a[k] := List.getElem?_eq_getElem hkl
 have hf : b[k]? = some b[k] := List.getElem?_eq_getElem (by omega)
 have hd : a.take (k + 1) = a.take k ++ [a[k]] := List.take_succ_eq_append_getElem hkl
 have hd2 : b.take (k + 1) = b.take k ++ [b[k]] := List.take_succ_eq_append_getElem (by omega)
 generalize a[k] = x at he hd
 generalize b[k] = y at hf hd2
 have hkt : ((k : Int)).toNat = k := Int.toNat_natCast k
 refine EvC.skip ?_
 refine EvC.seq ?_
 refine EvC.block ?_
 have heq := eq_FA x y
 apply EvC.seq
 apply EvC.drd mixed
 ·simp only [go_sem, he, hf, FA.cells, hkt, heq, List.length_map] <;> rfl
 ·simp; try omega
 ·kernel_rfl
 by_cases hxy : x = y
 rotate_left
 ·refine EvC.ct ?_ (by simp only [go_sem, heq, decide_eq_false hxy] <;> rfl)
  refine EvC.a ?_
  refine EvC.rz ?_
  simp only [go_sem]
  rw [decide_eq_false (fun e => hxy (by subst e; rw [he] at hf; exact Option.some.inj hf))]
 refine EvC.cs ?_ (by simp only [go_sem, heq, decide_eq_true hxy] <;> rfl)
 refine EvC.b ?_ (hok := by exact inI64_of (by omega) (by omega))
 exact ⟨[], k + 1, rfl, (by simp only [go_sem, Int.natCast_add, Int.natCast_one] <;> rfl), ⟨hkl, by rw [hd, hd2, h2, hxy]⟩, by omega⟩
def bit8 (x : Int) (k : Nat) : Bool := decide (shiftOf .shr .u8 x k % 2 = 1)
def kindR (x : Int) (k : Nat) : List Int := ((List.range k).filter (bit8 x)).map fun i : Nat => (i : Int)
structure LX where
 x : LM
 kinds : Int
 fN : Int
 none : Bool
 wn : Bool
 ws : List (Bool × List Int)
 wc : Cp
def LX.cells (g : LX) : List AV := [.sc (.int .u8 g.x.st), .sc (.int .u8 g.x.ins), .sc (.int .u8 g.x.outs), .sc (.bool g.x.part), .sl g.x.nl (g.x.es.map u16C) g.x.cap, .sc (.int .u8 g.kinds), .sc (.int .u16 g.fN), .sc (.bool g.none), .sl g.wn (g.ws.map wbR) g.wc]
structure LX.Ok (g : LX) : Prop where
 x : g.x.Ok
 kinds : 0 ≤ g.kinds ∧ g.kinds < 256
 fN : 0 ≤ g.fN ∧ g.fN < 65536
 ws : ∀ w ∈ g.ws, ∀ y ∈ w.2, 0 ≤ y ∧ y < 256
def LX.kl (g : LX) : List Int := kindR g.kinds 5
def LX.all (g : LX) : List FA := allF g.x.mach g.kl
theorem checkF_small {m : Mach} {f : FA} (h : faultB m f = true) (hm : m.rows.length < 64) : checkF m f = 0 := by
 unfold checkF; rw [if_pos h, if_neg (by omega)]
def agA (m : Mach) (i o : Int) (L : List TR) : AV :=
 if checkM m ≠ 0 then .tu [.ag [.sc (.int .i64 0), .sc (.int .i64 0)], .sc (.bool false), .sc (.int .i64 (checkM m))]
 else if checkL i o L ≠ 0 then .tu [.ag [.sc (.int .i64 0), .sc (.int .i64 0)], .sc (.bool false), .sc (.int .i64 (checkL i o L))]
 else if m.ins ≠ i then .tu [.ag [.sc (.int .i64 0), .sc (.int .i64 0)], .sc (.bool false), .sc (.int .i64 5)]
 else .tu [.ag [.sc (.int .i64 (agst m L 0).1), .sc (.int .i64 (agst m L 0).2.1)], .sc (.bool (!(agst m L 0).2.2)), .sc (.int .i64 0)]
theorem checkL_ok {i o : Int} {L : List TR} (h : checkL i o L = 0) : withinB i o L = true ∧ 1 ≤ i ∧ 1 ≤ o ∧ ∀ t ∈ L, trOk i o t = true := by
 unfold checkL at h
 split at h
 ·cases h
 ·rename_i h1
  split at h
  ·cases h
  ·rename_i h2
   split at h
   ·rename_i h3
    exact ⟨by simpa using h1, by omega, by omega, List.all_eq_true.1 h3⟩
   ·cases h
theorem trOk_ok {i o : Int} {t : TR} (h : trOk i o t = true) : t.r.length = t.w.length ∧ ∀ a ∈ t.w, 0 ≤ a ∧ a < i := by
 unfold trOk at h
 simp only [Bool.and_eq_true, decide_eq_true_eq, Bool.not_eq_true'] at h
 refine ⟨h.1, fun a ha => ?_⟩
 have h2 := h.2.1
 unfold badW at h2
 rw [List.any_eq_false] at h2
 have := h2 a ha
 simp at this; omega
theorem withinB_ok {i o : Int} {L : List TR} (h : withinB i o L = true) : i ≤ 16 ∧ o ≤ 16 ∧ L.length ≤ 1024 ∧ ∀ t ∈ L, t.w.length ≤ 256 := by
 simp only [withinB, Bool.and_eq_true, decide_eq_true_eq, List.all_eq_true] at h
 exact ⟨h.1, h.2.1, h.2.2.1, h.2.2.2.1⟩
set_option maxHeartbeats 4000000 in
theorem against37_is (m : Mach) (hm : ∀ r ∈ m.rows, r.2.length < 1000000) (i o : Int) (ln : Bool) (L : List TR) (hL : LogSm L) : PureIs prog 37 [.ag m.cells, .ag (logC i o ln L)] (agA m i o L) := by
 have h1 := hL.len
 have q0 := check_is m hm
 have q1 := check74_is i o ln L hL
 unfold logC at q1
 unfold agA
 refine PureIs.of1 12 [13, 14, 18, 24, 31, 34, 35, 36, 37, 48, 49, 50, 51, 61] func37 ntmps37 results37 fun _ => ?_
 refine EvC.a ?_ (by simp only [go_sem, Mach.cells, logC] <;> rfl)
 refine EvC.z 0 ?_
 refine EvC.z 1 ?_
 refine EvC.seq ?_
 apply EvC.s1
 ·apply Tr.run
  ·simp only [go_sem, Mach.cells] <;> rfl
  ·simp
  apply Tr.cons
  ·exact .ca (q0)
  apply Tr.done
  ·simp only [go_sem] <;> rfl
  ·simp
 refine EvC.a ?_
 by_cases c0 : checkM m = 0
 rotate_left
 ·rw [if_pos c0]
  refine EvC.ct ?_ (by simp only [go_sem, decide_eq_false c0] <;> rfl)
  refine EvC.a ?_
  refine EvC.rz ?_
  simp only [go_sem]
 rw [if_neg (show ¬ checkM m ≠ 0 from fun h => h c0)]
 have hv := Valid.of c0
 refine EvC.cs ?_ (by simp only [go_sem, decide_eq_true c0] <;> rfl)
 refine EvC.seq ?_
 apply EvC.s1
 ·apply Tr.run
  ·simp only [go_sem] <;> rfl
  ·simp
  apply Tr.cons
  ·exact .ca (q1)
  apply Tr.done
  ·simp only [go_sem] <;> rfl
  ·simp
 refine EvC.a ?_
 by_cases c1 : checkL i o L = 0
 rotate_left
 ·rw [if_pos c1]
  refine EvC.ct ?_ (by simp only [go_sem, decide_eq_false c1] <;> rfl)
  refine EvC.a ?_
  refine EvC.rz ?_
  simp only [go_sem]
 rw [if_neg (show ¬ checkL i o L ≠ 0 from fun h => h c1)]
 refine EvC.cs ?_ (by simp only [go_sem, decide_eq_true c1] <;> rfl)
 refine EvC.seq ?_
 refine EvC.a ?_ (by simp only [go_sem, Mach.cells] <;> rfl)
 by_cases c2 : m.ins = i
 rotate_left
 ·rw [if_pos c2]
  refine EvC.ct ?_ (by simp only [go_sem, decide_eq_false c2] <;> rfl)
  refine EvC.a ?_
  refine EvC.rz ?_
  simp only [go_sem]
 rw [if_neg (show ¬ m.ins ≠ i from fun h => h c2)]
 refine EvC.cs ?_ (by simp only [go_sem, decide_eq_true c2] <;> rfl)
 obtain ⟨hwi, _, _, hto⟩ := checkL_ok c1
 obtain ⟨w1, w2, w3, w4⟩ := withinB_ok hwi
 refine EvC.seq ?_
 refine EvC.a ?_ (by simp only [go_sem, List.length_map] <;> rfl)
 refine EvC.block ?_
 refine EvC.loopS (σ := Nat) (fun k => ⟨[(2, .ia m.cells), (4, .rf 0 0), (34, .sl ln (L.map traceC) .unk), (35, .sc (.int .i64 L.length)), (36, .sc (.int .i64 k))], [], [(0, .cells [.sc (.int .i64 0), .sc (.int .i64 0)])], 1⟩) (fun k => L.length - k) (fun k => k ≤ L.length ∧ agst m L 0 = agst m (L.drop k) k) [2, 4, 34, 35, 36] 1 ?_ ?_
 ·exact ⟨[(2, 0)], 0, rfl, (by simp only [go_sem, Mach.cells, Int.natCast_zero] <;> rfl), Nat.zero_le _, rfl⟩
 rintro k ⟨h2, h3⟩
 refine EvC.a ?_
 refine EvC.seq ?_
 refine EvC.cond (by simp only [go_sem] <;> rfl) (fun hc => ?_) (fun hc => ?_)
 rotate_left
 ·refine EvC.exit ?_
  obtain rfl : k = L.length := by have : ¬ k < L.length := (by simpa using hc); omega
  rw [List.drop_length, agst] at h3
  rw [h3]
  refine EvC.a ?_
  refine EvC.rz ?_
  simp only [go_sem]
 have hkl : k < L.length := by simpa using hc
 clear hc
 have he : L[k]? = some L[k] := List.getElem?_eq_getElem hkl
 have hm := List.getElem_mem hkl
 generalize L[k] = t at he hm
 have hag := agst_drop (m := m) he
 have htk := trOk_ok (hto t hm)
 have hw4 := w4 t hm
 obtain ⟨w, r, wn, rn⟩ := t
 simp only at htk hw4 hag
 obtain ⟨kZ, hkZ⟩ : ∃ z : Int, z = (k : Int) := ⟨_, rfl⟩
 have hkt : kZ.toNat = k := by omega
 have hins := hv.ins
 have hrw := hv.rows
 have q3 := run52_is hv 0 ⟨by omega, by omega⟩ wn w .unk (wordErr_of hins (by omega) fun a ha => by have := htk.2 a ha; omega) (by omega)
 have hxl := runR_len m 0 w
 generalize runR m 0 w = x at q3 hxl hag
 rw [← hkZ]
 refine EvC.skip ?_
 refine EvC.seq ?_
 refine EvC.block ?_
 refine EvC.a ?_ (by simp only [go_sem, he, hkt, traceC, List.length_map] <;> rfl) (by simp; try omega)
 refine EvC.z 5 ?_
 apply EvC.s1
 ·apply Tr.run
  ·simp only [go_sem, Mach.cells] <;> rfl
  ·simp
  apply Tr.cons
  ·exact .ca (q3)
  apply Tr.done
  ·simp only [go_sem] <;> rfl
  ·simp
 refine EvC.a ?_ (by simp only [go_sem, List.length_map] <;> rfl)
 refine EvC.block ?_
 refine EvC.loopS (σ := Nat) (fun j => ⟨[(2, .ia m.cells), (4, .rf 0 0), (9, .sc (.int .i64 kZ)), (10, .ia [.sl wn (w.map intC) .unk, .sl rn (r.map intC) .unk]), (34, .sl ln (L.map traceC) .unk), (35, .sc (.int .i64 L.length)), (36, .sc (.int .i64 kZ)), (48, .sl false (x.map intC) .unk), (49, .sc (.int .i64 x.length)), (50, .sc (.int .i64 j))], [], [(0, .cells [.sc (.int .i64 0), .sc (.int .i64 0)])], 1⟩) (fun j => x.length - j) (fun j => j ≤ x.length ∧ diffK x r 0 = diffK (x.drop j) (r.drop j) j) [2, 4, 9, 10, 34, 35, 36, 48, 49, 50] 1 ?_ ?_
 ·exact ⟨[(0, 0)], 0, rfl, (by simp only [go_sem, Mach.cells, List.length_map, Int.natCast_zero] <;> rfl), Nat.zero_le _, rfl⟩
 rintro j ⟨j1, j2⟩
 refine EvC.a ?_
 refine EvC.seq ?_
 refine EvC.cond (by simp only [go_sem] <;> rfl) (fun hc => ?_) (fun hc => ?_)
 rotate_left
 ·refine EvC.exit ?_
  obtain rfl : j = x.length := by have : ¬ j < x.length := (by simpa using hc); omega
  rw [List.drop_length] at j2
  have j2 : diffK x r 0 = none := by rw [j2]; cases r.drop x.length <;> rfl
  rw [j2] at hag
  simp only at hag
  refine EvC.b ?_ (hok := by exact inI64_of (by omega) (by omega))
  exact ⟨[(0, 0)], k + 1, rfl, (by rw [hkZ]; simp only [go_sem, Mach.cells, Int.natCast_add, Int.natCast_one] <;> rfl), ⟨hkl, by rw [h3, hag]⟩, by omega⟩
 have hjl : j < x.length := by simpa using hc
 clear hc
 have hjx : x[j]? = some x[j] := List.getElem?_eq_getElem hjl
 have hjr : r[j]? = some (r[j]'(by omega)) := List.getElem?_eq_getElem (by omega)
 generalize x[j] = a at hjx
 generalize r[j]'(by omega) = b at hjr
 have hdk := diffK_drop hjx hjr
 obtain ⟨jZ, hjZ⟩ : ∃ z : Int, z = (j : Int) := ⟨_, rfl⟩
 have hjt : jZ.toNat = j := by omega
 rw [← hjZ]
 refine EvC.skip ?_
 refine EvC.seq ?_
 refine EvC.block ?_
 refine EvC.a ?_ (by simp only [go_sem, hjx, intC, hjt, List.length_map] <;> rfl) (by simp; try omega)
 refine EvC.a ?_ (by simp only [go_sem, hjr, intC, hjt, List.length_map] <;> rfl) (by simp; try omega)
 by_cases hab : a = b
 ·rw [if_neg (fun h => h hab)] at hdk
  refine EvC.cs ?_ (by simp only [go_sem, decide_eq_true hab] <;> rfl)
  refine EvC.b ?_ (hok := by exact inI64_of (by omega) (by omega))
  exact ⟨[(0, 0)], j + 1, rfl, (by rw [hjZ]; simp only [go_sem, Mach.cells, Int.natCast_add, Int.natCast_one] <;> rfl), ⟨hjl, by rw [j2, hdk]⟩, by omega⟩
 ·rw [if_pos hab] at hdk
  rw [j2, hdk] at hag
  simp only at hag
  refine EvC.ct ?_ (by simp only [go_sem, decide_eq_false hab] <;> rfl)
  refine EvC.a ?_
  refine EvC.rz ?_
  simp only [go_sem]
  rw [h3, hag, hkZ, hjZ]; rfl
def fltT {α : Type} (p : α → Bool) (L : List α) (k : Nat) : List α := (L.take k).filter p
theorem fltT_yes {α : Type} {p : α → Bool} {L : List α} {k : Nat} {x : α} (h : L[k]? = some x) (hp : p x = true) : fltT p L k ++ [x] = fltT p L (k + 1) := by
 obtain ⟨hi, he⟩ := List.getElem?_eq_some_iff.1 h
 unfold fltT
 rw [List.take_succ_eq_append_getElem hi, he, List.filter_append]; simp [hp]
theorem fltT_no {α : Type} {p : α → Bool} {L : List α} {k : Nat} {x : α} (h : L[k]? = some x) (hp : p x = false) : fltT p L k = fltT p L (k + 1) := by
 obtain ⟨hi, he⟩ := List.getElem?_eq_some_iff.1 h
 unfold fltT
 rw [List.take_succ_eq_append_getElem hi, he, List.filter_append]; simp [hp]
theorem fltT_all {α : Type} (p : α → Bool) (L : List α) : fltT p L L.length = L.filter p := by rw [fltT, List.take_length]
theorem fltT_len {α : Type} (p : α → Bool) (L : List α) (k : Nat) : (fltT p L k).length ≤ L.length := by
 have h1 := List.length_filter_le p (L.take k)
 have h2 : (L.take k).length ≤ L.length := by simp; omega
 unfold fltT; omega
def agErr (m : Mach) (i o : Int) (L : List TR) : Int := if checkM m ≠ 0 then checkM m else if checkL i o L ≠ 0 then checkL i o L else if m.ins ≠ i then 5 else 0
theorem agA_ok {m : Mach} {i o : Int} {L : List TR} (h : agErr m i o L = 0) : checkM m = 0 ∧ checkL i o L = 0 ∧ m.ins = i := by
 unfold agErr at h
 split at h
 ·rename_i h1; exact absurd h h1
 ·rename_i h1
  split at h
  ·rename_i h2; exact absurd h h2
  ·rename_i h2
   split at h
   ·cases h
   ·rename_i h3; exact ⟨by simpa using h1, by simpa using h2, by simpa using h3⟩
theorem agA_err (m : Mach) (i o : Int) (L : List TR) : agA m i o L = .tu [.ag [.sc (.int .i64 (if agErr m i o L = 0 then (agst m L 0).1 else 0)), .sc (.int .i64 (if agErr m i o L = 0 then (agst m L 0).2.1 else 0))], .sc (.bool (decide (agErr m i o L = 0) && !(agst m L 0).2.2)), .sc (.int .i64 (agErr m i o L))] := by
 unfold agA agErr
 by_cases h1 : checkM m = 0
 ·by_cases h2 : checkL i o L = 0
  ·by_cases h3 : m.ins = i <;> simp [h1, h2, h3]
  ·simp [h1, h2]
 ·simp [h1]
def fitB2 (m : Mach) (L : List TR) (f : FA) : Bool := !(agst (mutF m f) L 0).2.2
def suspA (m : Mach) (ks : List Int) (i o : Int) (L : List TR) (most : Int) : AV :=
 if agErr m i o L ≠ 0 then .tu [.sl true [] .unk, .sc (.bool false), .sc (.int .i64 (agErr m i o L))]
 else if allR m ks most ≠ 0 then .tu [.sl true [] .unk, .sc (.bool false), .sc (.int .i64 (allR m ks most))]
 else .tu [.sl ((alF m ks).filter (fitB2 m L)).isEmpty (((alF m ks).filter (fitB2 m L)).map FA.cells) .full, .sc (.bool (!(agst m L 0).2.2)), .sc (.int .i64 0)]
theorem fas_norefs (l : List FA) : (l.map FA.cells).all AV.norefs = true := by simp [List.all_eq_true, FA.cells, AV.norefs, AV.noref]
theorem allR_ready {m : Mach} {ks : List Int} {most : Int} (h : allR m ks most = 0) : readyR m ks most = 0 := by
 unfold allR at h
 split at h
 ·rename_i h1; exact absurd h h1
 ·rename_i h1; simpa using h1
set_option maxHeartbeats 4000000 in
theorem suspects_is (m : Mach) (hm : ∀ r ∈ m.rows, r.2.length < 1000000) (hnn : NoNil m) (kn : Bool) (ks : List Int) (kc : Cp) (hks : ks.length < 1000) (i o : Int) (ln : Bool) (L : List TR) (hL : LogSm L) (most : Int) :
  PureIs prog 11 [.ag m.cells, .sl kn (ks.map intC) kc, .ag (logC i o ln L), .sc (.int .i64 most)] (suspA m ks i o L most) := by
 have q0 := against37_is m hm i o ln L hL
 rw [agA_err] at q0
 unfold logC at q0
 unfold suspA
 refine PureIs.of1 5 [6, 8, 9, 10, 12, 13, 14, 15, 17, 18, 19, 21, 31, 41, 43, 44, 45, 46, 56, 65] func11 ntmps11 results11 fun _ => ?_
 refine EvC.a ?_ (by simp only [go_sem, Mach.cells, logC] <;> rfl)
 refine EvC.z 0 ?_
 refine EvC.z 1 ?_
 apply EvC.s1
 ·apply Tr.run
  ·simp only [go_sem, Mach.cells] <;> rfl
  ·simp
  apply Tr.cons
  ·exact .ca (q0)
  apply Tr.done
  ·simp only [go_sem] <;> rfl
  ·simp
 refine EvC.seq ?_
 refine EvC.a ?_
 by_cases h0 : agErr m i o L = 0
 rotate_left
 ·rw [if_pos h0]
  refine EvC.ct ?_ (by simp only [go_sem, decide_eq_false h0] <;> rfl)
  refine EvC.a ?_
  refine EvC.rz ?_
  simp only [go_sem]
 rw [if_neg (show ¬ agErr m i o L ≠ 0 from fun h => h h0)]
 refine EvC.cs ?_ (by simp only [go_sem, decide_eq_true h0] <;> rfl)
 have q1 := allF_is m hm kn ks kc hks most
 unfold allA at q1
 by_cases h1 : allR m ks most = 0
 rotate_left
 ·rw [if_pos h1] at q1 ⊢
  apply EvC.s1
  ·apply Tr.run
   ·simp only [go_sem, Mach.cells] <;> rfl
   ·simp
   apply Tr.cons
   ·exact .ca (q1)
   apply Tr.done
   ·simp only [go_sem] <;> rfl
   ·simp
  refine EvC.seq ?_
  refine EvC.a ?_
  refine EvC.ct ?_ (by simp only [go_sem, decide_eq_false h1] <;> rfl)
  refine EvC.a ?_
  refine EvC.rz ?_
  simp only [go_sem]
 rw [if_neg (show ¬ allR m ks most ≠ 0 from fun h => h h1)] at q1 ⊢
 obtain ⟨c1, c2, c3⟩ := agA_ok h0
 have hv := Valid.of c1
 have hok := alF_ok (allR_ready h1)
 have hal := alF_len hv ks
 have hna := fas_norefs (alF m ks)
 have hla : ((alF m ks).map FA.cells).length = (alF m ks).length := List.length_map _
 have hal2 : (alF m ks).length < 300000000 := by
  have : ks.length * 262144 ≤ 1000 * 262144 := Nat.mul_le_mul_right _ (by omega)
  omega
 generalize alF m ks = A at q1 hok hal2 hna hla ⊢
 apply EvC.s1
 ·apply Tr.run
  ·simp only [go_sem, Mach.cells] <;> rfl
  ·simp
  apply Tr.cons
  ·exact .call rfl rfl (by simp only [go_sem] <;> rfl) (by simp only [go_sem] <;> rfl) (by simp only [go_sem] <;> rfl) (by simp only [go_sem, hna] <;> rfl) (by simp only [go_sem] <;> rfl) (q1)
  apply Tr.done
  ·simp only [go_sem, Mach.cells] <;> rfl
  ·simp
 refine EvC.seq ?_
 refine EvC.a ?_
 refine EvC.cs ?_
 refine EvC.a ?_
 refine EvC.seq ?_
 refine EvC.a ?_ (by simp only [go_sem, hla] <;> rfl)
 refine EvC.block ?_
 have hinn : (decide (agErr m i o L = 0) && !(agst m L 0).2.2) = !(agst m L 0).2.2 := by rw [decide_eq_true h0, Bool.true_and]
 rw [hinn]
 generalize (agst m L 0).2.2 = inn
 have hfl := fltT_len (fitB2 m L) A
 refine EvC.loopS (σ := Nat) (fun k => ⟨[(4, .ia m.cells), (6, .ia (logC i o ln L)), (12, .sc (.bool !inn)), (15, .tl 0 (fltT (fitB2 m L) A k).length (fltT (fitB2 m L) A k).isEmpty), (43, .sl A.isEmpty (A.map FA.cells) .full), (44, .sc (.int .i64 A.length)), (45, .sc (.int .i64 k))], [], [(0, .arr 6 ((fltT (fitB2 m L) A k).map FA.cells) true)], 1⟩) (fun k => A.length - k) (fun k => k ≤ A.length) [4, 6, 12, 15, 43, 44, 45] 1 ?_ ?_
 ·exact ⟨[(29, 0)], 0, rfl, (by simp only [go_sem, Mach.cells, logC, Int.natCast_zero, fltT, List.take_zero, List.filter_nil, List.map_nil, List.length_nil, List.isEmpty_nil] <;> rfl), Nat.zero_le _⟩
 intro k hk
 refine EvC.a ?_
 refine EvC.seq ?_
 refine EvC.cond (by simp only [go_sem] <;> rfl) (fun hc => ?_) (fun hc => ?_)
 rotate_left
 ·refine EvC.exit ?_
  obtain rfl : k = A.length := by have : ¬ k < A.length := (by simpa using hc); omega
  rw [fltT_all]
  have hn2 := fas_norefs (A.filter (fitB2 m L))
  have hl2 : ((A.filter (fitB2 m L)).map FA.cells).length = (A.filter (fitB2 m L)).length := List.length_map _
  have h6 := fa_six (A.filter (fitB2 m L))
  generalize A.filter (fitB2 m L) = S at hn2 hl2 h6 ⊢
  refine EvC.frz 0 (by simp only [go_sem, hn2, hl2] <;> rfl) ?_
  apply EvC.s1
  ·apply Tr.run
   ·simp only [go_sem, hl2] <;> rfl
   ·simp
   apply Tr.cons
   ·exact .ca (clipF_is _ _ _ h6)
   apply Tr.done
   ·simp only [go_sem] <;> rfl
   ·simp
  refine EvC.rz ?_
  simp only [go_sem]
 have hkl : k < A.length := by simpa using hc
 clear hc
 have he : A[k]? = some A[k] := List.getElem?_eq_getElem hkl
 have hf0 := hok _ (List.getElem_mem hkl)
 generalize A[k] = f at he hf0
 have q2 := apply71_is hv c1 hnn f
 rw [applyR, if_pos hf0] at q2
 have hmv := mutF_valid hv hf0
 obtain ⟨M, hM⟩ : ∃ M, M = mutF m f := ⟨_, rfl⟩
 have hMi : M.ins = m.ins := by rw [hM]; rfl
 rw [← hM] at q2 hmv
 have q3 := against37_is M hmv.small i o ln L hL
 unfold agA at q3
 rw [if_neg (show ¬ checkM M ≠ 0 from fun h => h (checkM_of hmv)), if_neg (show ¬ checkL i o L ≠ 0 from fun h => h c2), if_neg (show ¬ M.ins ≠ i from fun h => h (by rw [hMi, c3]))] at q3
 have hyes := fun h => fltT_yes (p := fitB2 m L) he h
 have hno := fun h => fltT_no (p := fitB2 m L) he h
 have hfb : fitB2 m L f = !(agst M L 0).2.2 := by rw [hM]; rfl
 have hfa := he
 obtain ⟨f1, f2, f3, f4, f5, f6⟩ := f
 have hfc : (A.map FA.cells)[k]? = some [.sc (.int .i64 f1), .sc (.int .i64 f2), .sc (.int .i64 f3), .sc (.int .i64 f4), .sc (.int .i64 f5), .sc (.int .i64 f6)] := by rw [List.getElem?_map, he]; rfl
 obtain ⟨kZ, hkZ⟩ : ∃ z : Int, z = (k : Int) := ⟨_, rfl⟩
 have hkt : kZ.toNat = k := by omega
 rw [← hkZ]
 refine EvC.skip ?_
 refine EvC.seq ?_
 refine EvC.block ?_
 refine EvC.a ?_ (by simp only [go_sem, hfc, hkt, hla] <;> rfl) (by simp; try omega)
 have hMn := norefs_mcells M
 apply EvC.s1
 ·apply Tr.run
  ·simp only [go_sem, Mach.cells, FA.cells] <;> rfl
  ·simp
  apply Tr.cons
  ·exact .ca (q2)
  apply Tr.done
  ·simp only [go_sem, Mach.cells] <;> rfl
  ·simp
 refine EvC.z 12 ?_
 refine EvC.seq ?_
 refine EvC.a ?_
 refine EvC.cs ?_
 unfold logC at q3
 apply EvC.s1
 ·apply Tr.run
  ·simp only [go_sem, Mach.cells, logC] <;> rfl
  ·simp
  apply Tr.cons
  ·exact .ca (q3)
  apply Tr.done
  ·simp only [go_sem] <;> rfl
  ·simp
 refine EvC.a ?_
 obtain ⟨T, hT⟩ : ∃ T, T = fltT (fitB2 m L) A (k + 1) := ⟨_, rfl⟩
 have hfl1 := hfl (k + 1)
 rw [← hT] at hyes hno hfl1
 obtain ⟨b, hb⟩ : ∃ b, (agst M L 0).2.2 = b := ⟨_, rfl⟩
 rw [hb] at hfb ⊢
 cases b
 ·have hy := hyes hfb
  generalize fltT (fitB2 m L) A k = T0 at hy ⊢
  have hl1 : (T0.map FA.cells).length = T0.length := List.length_map _
  have hsn : T0.map FA.cells ++ [[.sc (.int .i64 f1), .sc (.int .i64 f2), .sc (.int .i64 f3), .sc (.int .i64 f4), .sc (.int .i64 f5), .sc (.int .i64 f6)]] = T.map FA.cells := by rw [← hy]; simp [FA.cells]
  have hTl : T.length = T0.length + 1 := by rw [← hy]; simp
  have hTe : T.isEmpty = false := by rw [← hy]; simp
  have hTm : (T.map FA.cells).length = T.length := List.length_map _
  have hTn := fas_norefs T
  have hr : room (T0.length + 1) 48 = true := by simp only [room_eq, decide_eq_true_eq]; omega
  refine EvC.ct ?_
  refine EvC.b ?_ (by simp only [go_sem, hl1, hsn] <;> rfl) (by simp [hr])
  refine EvC.b ?_ (hok := by exact inI64_of (by omega) (by omega))
  exact ⟨[(0, 0)], k + 1, rfl, (by rw [hkZ, ← hT]; simp only [go_sem, hTm, hTe, hTn, Mach.cells, logC, Int.natCast_add, Int.natCast_one] <;> rfl), hkl, by omega⟩
 ·have hy := hno hfb
  rw [hy]
  refine EvC.cs ?_
  refine EvC.b ?_ (hok := by exact inI64_of (by omega) (by omega))
  exact ⟨[(0, 0)], k + 1, rfl, (by rw [hkZ, ← hT]; simp only [go_sem, Mach.cells, logC, Int.natCast_add, Int.natCast_one] <;> rfl), hkl, by omega⟩
section
variable {κ : Type} {e : Nat} {o1 : RObj} {ps : List (κ × List Int)} {M : Mem}
end
set_option maxRecDepth 100000
theorem tog_noNil : NoNil togM := fun r hr h => by
 simp only [togM, List.mem_cons, List.not_mem_nil, or_false] at hr
 rcases hr with rfl | rfl <;> cases h
def exL : List FA := [⟨0, 0, 0, 0, 0, 1⟩, ⟨0, 0, 1, 0, 0, 1⟩, ⟨0, 1, 0, 0, 0, 0⟩, ⟨0, 1, 1, 0, 0, 1⟩]
theorem ex_susp1 : suspA togM [0] 2 2 [⟨[0, 0], [0, 0], false, false⟩] 4 = .tu [.sl false ([⟨0, 1, 0, 0, 0, 0⟩].map FA.cells) .full, .sc (.bool false), .sc (.int .i64 0)] := by kernel_rfl
theorem ex_susp2 : suspA togM [0] 2 2 [⟨[0], [0], false, false⟩] 4 = .tu [.sl false ((exL.drop 1).map FA.cells) .full, .sc (.bool true), .sc (.int .i64 0)] := by kernel_rfl
theorem ex_next : nextA togM exL 2 = .tu [.sl false ([0, 0].map intC) .full, .sc (.int .i64 2), .sc (.int .i64 0)] := by kernel_rfl
def liT : List Nd := [⟨[0, 1, 2, 3], [0], [([1], 1), ([0], 2)]⟩, ⟨[0], [], []⟩, ⟨[1, 2, 3], [1], [([1], 3), ([0], 4)]⟩, ⟨[1], [], []⟩, ⟨[2, 3], [0, 0], [([0, 0], 5), ([0, 1], 6)]⟩, ⟨[2], [], []⟩, ⟨[3], [], []⟩]
theorem ex_diag : diagL (exL.map (mutF togM)) 4 = liT := by kernel_rfl
theorem ex_diagA : diagA togM exL = .tu [.sl false (liT.map ndC) .full, .sc (.int .i64 0)] := by
 have h1 : mutErr togM exL = 0 := by kernel_rfl
 rw [diagA, if_neg (by simp [h1]), if_neg (by simp [exL]), show exL.length = 4 from rfl, ex_diag]
theorem ex_cls : clsA togM [⟨1, 1, 1, 1, 0, 0⟩] = .tu [.sl true [] .unk, .sc (.int .i64 1)] := by kernel_rfl
set_option maxRecDepth 10000
abbrev fA (a b c d e f : Int) : List AV := [.sc (.int .i64 a), .sc (.int .i64 b), .sc (.int .i64 c), .sc (.int .i64 d), .sc (.int .i64 e), .sc (.int .i64 f)]
def togRs : List (List AV) := togM.rows.map rowC
abbrev togC : List AV := [.sc (.int .i64 2), .sc (.int .i64 2), .sl false togRs .unk]
theorem ex_tog_is : PureIs prog 32 [] (.ag togC) := toggle_is
abbrev iA (a : Int) : List AV := [.sc (.int .i64 a)]
abbrev exA : AV := .sl false [fA 0 0 0 0 0 1, fA 0 0 1 0 0 1, fA 0 1 0 0 0 0, fA 0 1 1 0 0 1] .full
theorem ex_one1_is : PureIs prog 41 [.sl false [iA 0, iA 0] .full, .sl false [iA 0, iA 0] .full] (.ag [.sc (.int .i64 2), .sc (.int .i64 2), .sl false [[.sl false [iA 0, iA 0] .unk, .sl false [iA 0, iA 0] .unk]] .unk]) :=
 (one_is false [0, 0] .full false [0, 0] .full).weakR
theorem ex_one2_is : PureIs prog 41 [.sl false [iA 0] .full, .sl false [iA 0] .full] (.ag [.sc (.int .i64 2), .sc (.int .i64 2), .sl false [[.sl false [iA 0] .unk, .sl false [iA 0] .unk]] .unk]) :=
 (one_is false [0] .full false [0] .full).weakR
theorem tog_rows : ∀ r ∈ togM.rows, r.2.length < 1000000 := by decide
theorem ex_susp1_is : PureIs prog 11 [.ag togC, .sl false [iA 0] .full, .ag [.sc (.int .i64 2), .sc (.int .i64 2), .sl false [[.sl false [iA 0, iA 0] .unk, .sl false [iA 0, iA 0] .unk]] .unk], .sc (.int .i64 4)] (.tu [.sl false [fA 0 1 0 0 0 0] .full, .sc (.bool false), .sc (.int .i64 0)]) := by
 have q := suspects_is togM tog_rows tog_noNil false [0] .unk (by decide) 2 2 false [⟨[0, 0], [0, 0], false, false⟩] ⟨by decide, by decide, by decide⟩ 4
 rw [ex_susp1] at q
 exact .weak q
theorem ex_susp2_is : PureIs prog 11 [.ag togC, .sl false [iA 0] .full, .ag [.sc (.int .i64 2), .sc (.int .i64 2), .sl false [[.sl false [iA 0] .unk, .sl false [iA 0] .unk]] .unk], .sc (.int .i64 4)] (.tu [.sl false [fA 0 0 1 0 0 1, fA 0 1 0 0 0 0, fA 0 1 1 0 0 1] .full, .sc (.bool true), .sc (.int .i64 0)]) := by
 have q := suspects_is togM tog_rows tog_noNil false [0] .unk (by decide) 2 2 false [⟨[0], [0], false, false⟩] ⟨by decide, by decide, by decide⟩ 4
 rw [ex_susp2] at q
 exact .weak q
theorem ex_next_is : PureIs prog 19 [.ag togC, exA, .sc (.int .i64 2)] (.tu [.sl false [iA 0, iA 0] .full, .sc (.int .i64 2), .sc (.int .i64 0)]) := by
 have q := next_is togM tog_rows tog_noNil false exL .unk (by decide) 2
 rw [ex_next] at q
 exact .weak q
theorem ex_diag_is : PureIs prog 22 [.ag togC, exA] (.tu [.sl false (liT.map ndC) .full, .sc (.int .i64 0)]) := by
 have q := diagnose_is togM tog_rows tog_noNil false exL .unk (by decide)
 rw [ex_diagA] at q
 exact .weak q
theorem ex_cls_is : PureIs prog 16 [.ag togC, .sl false [fA 1 1 1 1 0 0] .full] (.tu [.sl true [] .unk, .sc (.int .i64 1)]) := by
 have q := classes_is togM tog_rows tog_noNil false [⟨1, 1, 1, 1, 0, 0⟩] .unk (by decide)
 rw [ex_cls] at q
 exact .weak q
theorem ex_walk : walkA (liT.map ndG) togM = .tu [.sl false ([3].map intC) .full, .sl false ([[0], [1], [0, 0]].map askC) .full, .sc (.int .i64 0)] := by kernel_rfl
theorem ex_walk_is : PureIs prog 24 [.sl false (liT.map ndC) .full, .ag togC] (.tu [.sl false [iA 3] .full, .sl false [[.sl false [iA 0] .full], [.sl false [iA 1] .full], [.sl false [iA 0, iA 0] .full]] .full, .sc (.int .i64 0)]) := by
 have q := walk_is false (liT.map ndG) .full togM tog_rows (by
  intro d hd
  obtain ⟨x, hx, rfl⟩ := List.mem_map.1 hd
  have h1 : ∀ x ∈ liT, x.sus.length < 1000000 ∧ x.word.length < 1000000 ∧ x.br.length < 1000000 ∧ ∀ b ∈ x.br, b.1.length < 1000000 := by decide
  obtain ⟨g1, g2, g3, g4⟩ := h1 x hx
  refine ⟨⟨g1, g2, by show (x.br.map _).length < 1000000; rw [List.length_map]; exact g3, fun b hb => ?_⟩, ⟨(fun h => by cases h), fun h => ?_⟩⟩
  ·obtain ⟨y, hy, rfl⟩ := List.mem_map.1 hb
   exact g4 y hy
  ·exact List.isEmpty_iff.1 h) (by decide)
 rw [ex_walk, List.map_map, show ngC ∘ ndG = ndC from funext ndG_cells] at q
 exact q
theorem ex_same_is (na nb : Bool) (ca cb : Cp) (a : List Int) (hl : a.length < 1000000) : PureIs prog 21 [.sl na (a.map intC) ca, .sl nb (a.map intC) cb] (.sc (.bool true)) := by
 have q := same_is na a ca nb a cb hl
 rwa [decide_eq_true rfl] at q
theorem ex_sameF1_is : PureIs prog 13 [.sl false [fA 0 1 0 0 0 0] .full, .sl false [fA 0 1 0 0 0 0] .unk] (.sc (.bool true)) := by
 have q := sameF_is false [⟨0, 1, 0, 0, 0, 0⟩] .full false [⟨0, 1, 0, 0, 0, 0⟩] .unk (by decide)
 rwa [decide_eq_true rfl] at q
theorem ex_sameF2_is : PureIs prog 13 [.sl false [fA 0 0 1 0 0 1, fA 0 1 0 0 0 0, fA 0 1 1 0 0 1] .full, .sl false [fA 0 0 1 0 0 1, fA 0 1 0 0 0 0, fA 0 1 1 0 0 1] .full] (.sc (.bool true)) := by
 have q := sameF_is false [⟨0, 0, 1, 0, 0, 1⟩, ⟨0, 1, 0, 0, 0, 0⟩, ⟨0, 1, 1, 0, 0, 1⟩] .full false [⟨0, 0, 1, 0, 0, 1⟩, ⟨0, 1, 0, 0, 0, 0⟩, ⟨0, 1, 1, 0, 0, 1⟩] .full (by decide)
 rwa [decide_eq_true rfl] at q
set_option maxHeartbeats 4000000 in
theorem lives_is : PureIs prog 14 [] (.sc (.bool true)) := by
 refine PureIs.of1 16 [104, 165] func14 ntmps14 results14 fun _ => ?_
 refine EvC.a ?_
 apply EvC.s1
 ·apply Tr.run
  ·simp only [go_sem] <;> rfl
  ·simp
  apply Tr.cons
  ·exact .ca (ex_tog_is)
  apply Tr.done
  ·simp only [go_sem] <;> rfl
  ·simp
 refine EvC.z 2 ?_
 refine EvC.a ?_
 apply EvC.seq
 apply EvC.drw mixed
 ·apply Tr.run
  ·simp only [go_sem] <;> rfl
  ·simp
  apply Tr.cons
  ·exact .ca (ex_one1_is)
  apply Tr.run
  ·simp only [go_sem] <;> rfl
  ·simp
  apply Tr.cons
  ·exact .ca (ex_susp1_is)
  apply Tr.done
  ·simp only [go_sem] <;> rfl
  ·simp
 ·kernel_rfl
 apply EvC.seq
 apply EvC.drw mixed
 ·apply Tr.run
  ·simp only [go_sem] <;> rfl
  ·simp
  apply Tr.cons
  ·exact .ca (ex_one2_is)
  apply Tr.run
  ·simp only [go_sem] <;> rfl
  ·simp
  apply Tr.cons
  ·exact .ca (ex_susp2_is)
  apply Tr.done
  ·simp only [go_sem] <;> rfl
  ·simp
 ·kernel_rfl
 apply EvC.s1
 ·apply Tr.run
  ·simp only [go_sem] <;> rfl
  ·simp
  apply Tr.cons
  ·exact .ca (ex_next_is)
  apply Tr.done
  ·simp only [go_sem] <;> rfl
  ·simp
 have qd := ex_diag_is
 have qw := ex_walk_is
 have hTl : (liT.map ndC).length = 7 := rfl
 have hTn : (liT.map ndC).all AV.norefs = true := by decide
 have t0 : (liT.map ndC)[0]? = some [.sl false [iA 0, iA 1, iA 2, iA 3] .full, .sl false [iA 0] .full, bAV [([1], 1), ([0], 2)]] := rfl
 have t1 : (liT.map ndC)[1]? = some [.sl false [iA 0] .full, .sl true [] .zer, bAV []] := rfl
 have t2 : (liT.map ndC)[2]? = some [.sl false [iA 1, iA 2, iA 3] .full, .sl false [iA 1] .full, bAV [([1], 3), ([0], 4)]] := rfl
 have t3 : (liT.map ndC)[3]? = some [.sl false [iA 1] .full, .sl true [] .zer, bAV []] := rfl
 have t4 : (liT.map ndC)[4]? = some [.sl false [iA 2, iA 3] .full, .sl false [iA 0, iA 0] .full, bAV [([0, 0], 5), ([0, 1], 6)]] := rfl
 have t5 : (liT.map ndC)[5]? = some [.sl false [iA 2] .full, .sl true [] .zer, bAV []] := rfl
 have t6 : (liT.map ndC)[6]? = some [.sl false [iA 3] .full, .sl true [] .zer, bAV []] := rfl
 generalize liT.map ndC = T at qd qw hTl hTn t0 t1 t2 t3 t4 t5 t6
 apply EvC.s1
 ·apply Tr.run
  ·simp only [go_sem] <;> rfl
  ·simp
  apply Tr.cons
  ·exact .ca (qd)
  apply Tr.done
  ·simp only [go_sem] <;> rfl
  ·simp
 refine EvC.seq ?_
 apply EvC.s1
 ·apply Tr.run
  ·simp only [go_sem, hTl] <;> rfl
  ·simp
  apply Tr.cons
  ·exact .cg (ex_sameF1_is)
  apply Tr.run
  ·simp only [go_sem, hTl] <;> rfl
  ·simp
  apply Tr.cons
  ·exact .cg (ex_sameF2_is)
  apply Tr.run
  ·simp only [go_sem, hTl] <;> rfl
  ·simp
  apply Tr.cons
  ·exact .cg (ex_same_is false false .full .full [0, 0] (by decide))
  apply Tr.done
  ·simp only [go_sem] <;> rfl
  ·simp
 refine EvC.cs ?_ (by simp only [go_sem, hTl] <;> rfl)
 refine EvC.seq ?_
 apply EvC.s1
 ·apply Tr.run
  ·simp only [go_sem, hTl, t0, t1, t2, t3, t4, t5, t6] <;> rfl
  ·simp [hTl]
  apply Tr.cons
  ·exact .ca (ex_same_is false false .full .full [0] (by decide))
  apply Tr.run
  ·simp only [go_sem, hTl, t0, t1, t2, t3, t4, t5, t6] <;> rfl
  ·simp [hTl]
  apply Tr.cons
  ·exact .cg (ex_same_is false false .full .full [1] (by decide))
  apply Tr.run
  ·simp only [go_sem, hTl, t0, t1, t2, t3, t4, t5, t6] <;> rfl
  ·simp [hTl]
  apply Tr.cons
  ·exact .cg (ex_same_is false false .full .full [0, 0] (by decide))
  apply Tr.run
  ·simp only [go_sem, hTl, t0, t1, t2, t3, t4, t5, t6] <;> rfl
  ·simp [hTl]
  apply Tr.cons
  ·exact .cg (ex_same_is false false .full .full [0] (by decide))
  apply Tr.run
  ·simp only [go_sem, hTl, t0, t1, t2, t3, t4, t5, t6] <;> rfl
  ·simp [hTl]
  apply Tr.cons
  ·exact .cg (ex_same_is false false .full .full [1] (by decide))
  apply Tr.run
  ·simp only [go_sem, hTl, t0, t1, t2, t3, t4, t5, t6] <;> rfl
  ·simp [hTl]
  apply Tr.cons
  ·exact .cg (ex_same_is false false .full .full [2] (by decide))
  apply Tr.run
  ·simp only [go_sem, hTl, t0, t1, t2, t3, t4, t5, t6] <;> rfl
  ·simp [hTl]
  apply Tr.cons
  ·exact .cg (ex_same_is false false .full .full [3] (by decide))
  apply Tr.done
  ·simp only [go_sem] <;> rfl
  ·simp
 refine EvC.cs ?_
 apply EvC.s1
 ·apply Tr.run
  ·simp only [go_sem] <;> rfl
  ·simp
  apply Tr.cons
  ·exact .ca (qw)
  apply Tr.done
  ·simp only [go_sem] <;> rfl
  ·simp
 apply EvC.s1
 ·apply Tr.run
  ·simp only [go_sem] <;> rfl
  ·simp
  apply Tr.cons
  ·exact .ca (ex_cls_is)
  apply Tr.done
  ·simp only [go_sem] <;> rfl
  ·simp
 have qs : PureIs prog 17 [.sl false [[.sl false [iA 0] .full], [.sl false [iA 1] .full], [.sl false [iA 0, iA 0] .full]] .full, .sl false [[.sl false [iA 0] .full], [.sl false [iA 1] .full], [.sl false [iA 0, iA 0] .full]] .full] (.sc (.bool true)) := by
  have q := same37_is false false [(false, [0], .full), (false, [1], .full), (false, [0, 0], .full)] [(false, [0], .full), (false, [1], .full), (false, [0, 0], .full)] .full .full (by decide) (by decide)
  rw [sameW_refl] at q
  exact q
 apply EvC.s1
 ·apply Tr.run
  ·simp only [go_sem] <;> rfl
  ·simp
  apply Tr.cons
  ·exact .cg (ex_same_is false false .full .full [3] (by decide))
  apply Tr.run
  ·simp only [go_sem] <;> rfl
  ·simp
  apply Tr.cons
  ·exact .cg (qs)
  apply Tr.done
  ·simp only [go_sem] <;> rfl
  ·simp
 refine EvC.rz ?_
 simp only [go_sem]
theorem LM.small {x : LM} (h : x.Ok) : x.mach.rows.length ≤ 6 ∧ x.mach.ins ≤ 3 := by
 obtain ⟨b1, b2, b3, b4, b5, b6, -, -⟩ := LM.bounds h
 rw [show x.mach.rows.length = x.n by simp [LM.mach]]
 exact ⟨b2, by show (x.i : Int) ≤ 3; omega⟩
structure LogGood (m : Mach) (L : List TR) : Prop where
 len : L.length ≤ 8
 w : ∀ t ∈ L, t.w.length ≤ 8
 a : ∀ t ∈ L, ∀ a ∈ t.w, 0 ≤ a ∧ a < m.ins
 r : ∀ t ∈ L, t.r.length = t.w.length
 c : checkL m.ins m.outs L = 0
theorem errFs_ok {m : Mach} : ∀ {fs : List FA}, (∀ f ∈ fs, checkF m f = 0) → errFs m fs = 0
 | [], _ => rfl
 | f :: fs, h => by rw [errFs, if_pos (h f List.mem_cons_self)]; exact errFs_ok fun g hg => h g (List.mem_cons_of_mem _ hg)
theorem errFs_one {m : Mach} (hm : m.rows.length < 64) : ∀ {fs : List FA}, (∃ f ∈ fs, faultB m f = false) → errFs m fs = 1
 | [], h => by obtain ⟨f, h, _⟩ := h; cases h
 | g :: fs, h => by
   rw [errFs]
   by_cases hg : faultB m g = true
   ·rw [if_pos (checkF_small hg hm)]
    obtain ⟨f, h1, h2⟩ := h
    rcases List.mem_cons.1 h1 with rfl | h1
    ·rw [hg] at h2; cases h2
    ·exact errFs_one hm ⟨f, h1, h2⟩
   ·have : checkF m g = 1 := by unfold checkF; rw [if_neg hg]
    rw [if_neg (by rw [this]; decide), this]
def suspE (m : Mach) (ks : List Int) (i o : Int) (L : List TR) (most : Int) : Int := if agErr m i o L ≠ 0 then agErr m i o L else allR m ks most
theorem suspA_cases (m : Mach) (ks : List Int) (i o : Int) (L : List TR) (most : Int) : (suspE m ks i o L most ≠ 0 ∧ suspA m ks i o L most = .tu [.sl true [] .unk, .sc (.bool false), .sc (.int .i64 (suspE m ks i o L most))]) ∨
  (suspE m ks i o L most = 0 ∧ ∃ (b : Bool) (S : List FA) (inn : Bool), suspA m ks i o L most = .tu [.sl b (S.map FA.cells) .full, .sc (.bool inn), .sc (.int .i64 0)]) := by
 unfold suspE suspA
 by_cases h1 : agErr m i o L = 0
 ·rw [if_neg (fun h => h h1), if_neg (fun h => h h1)]
  by_cases h2 : allR m ks most = 0
  ·exact .inr ⟨h2, ((alF m ks).filter (fitB2 m L)).isEmpty, (alF m ks).filter (fitB2 m L), !(agst m L 0).2.2, by rw [if_neg (fun h => h h2)]⟩
  ·exact .inl ⟨h2, by rw [if_pos h2]⟩
 ·exact .inl ⟨by rw [if_pos h1]; exact h1, by rw [if_pos h1, if_pos h1]⟩
theorem fewN_false {K r n : Nat} (h : 4096 < n * K) : fewN K (r + 1) n = false := by rw [fewN, if_pos h]
set_option maxHeartbeats 16000000 in
theorem culpritsErrors_is (m : Mach) (hnn : NoNil m) (i o : Int) (ln : Bool) (L : List TR) (kn : Bool) (ks : List Int) (fn : Bool) (fs : List FA) (most : Int) :
  PureIs prog 8 [.ag m.cells, .ag (logC i o ln L), .ag [.sl kn (ks.map intC) .unk, .sl fn (fs.map FA.cells) .unk, .sc (.int .i64 most)]] (.sc (.bool true)) := by
 have q9 := lives_is
 have hfl2 : (fs.map FA.cells).length = fs.length := List.length_map _
 have hn := fas_norefs fs
 refine PureIs.of1 18 [19, 20, 21, 22, 23, 24, 46, 51, 60, 65, 85, 90, 101, 103, 138, 147, 157, 183, 224, 232, 240] func8 ntmps8 results8 fun _ => ?_
 refine EvC.a ?_ (by simp only [go_sem, Mach.cells, logC] <;> rfl)
 refine EvC.z 0 ?_
 refine EvC.z 1 ?_
 refine EvC.z 2 ?_
 refine EvC.seq ?_
 have hRl : (m.rows.map rowC).length = m.rows.length := List.length_map _
 have hLl : (L.map traceC).length = L.length := List.length_map _
 have hKl : (ks.map intC).length = ks.length := List.length_map _
 by_cases c1 : (8 : Int) < m.rows.length
 ·apply EvC.seq
  apply EvC.trd
  ·simp only [go_sem, hRl, hLl, hKl, hfl2, decide_eq_true c1] <;> rfl
  ·simp
  refine EvC.ct ?_
  refine EvC.a ?_
  refine EvC.rz ?_
  simp only [go_sem]
 by_cases c2 : (10 : Int) < L.length
 ·apply EvC.seq
  apply EvC.trd
  ·simp only [go_sem, hRl, hLl, hKl, hfl2, decide_eq_false c1, decide_eq_true c2] <;> rfl
  ·simp
  refine EvC.ct ?_
  refine EvC.a ?_
  refine EvC.rz ?_
  simp only [go_sem]
 by_cases c3 : (10 : Int) < ks.length
 ·apply EvC.seq
  apply EvC.trd
  ·simp only [go_sem, hRl, hLl, hKl, hfl2, decide_eq_false c1, decide_eq_false c2, decide_eq_true c3] <;> rfl
  ·simp
  refine EvC.ct ?_
  refine EvC.a ?_
  refine EvC.rz ?_
  simp only [go_sem]
 by_cases c4 : (10 : Int) < fs.length
 ·apply EvC.seq
  apply EvC.trd
  ·simp only [go_sem, hRl, hLl, hKl, hfl2, decide_eq_false c1, decide_eq_false c2, decide_eq_false c3, decide_eq_true c4] <;> rfl
  ·simp
  refine EvC.ct ?_
  refine EvC.a ?_
  refine EvC.rz ?_
  simp only [go_sem]
 apply EvC.seq
 apply EvC.trd
 ·simp only [go_sem, hRl, hLl, hKl, hfl2, decide_eq_false c1, decide_eq_false c2, decide_eq_false c3, decide_eq_false c4] <;> rfl
 ·simp
 refine EvC.cs ?_
 refine EvC.seq ?_
 refine EvC.a ?_
 refine EvC.block ?_
 refine EvC.loopS (σ := Nat) (fun k => ⟨[(3, .ia m.cells), (4, .ia [.sc (.int .i64 i), .sc (.int .i64 o), .sl ln (L.map traceC) .unk]), (5, .ia [.sl kn (ks.map intC) .unk, .sl fn (fs.map FA.cells) .unk, .sc (.int .i64 most)]), (7, .sc (.int .i64 k))], [], [], 0⟩) (fun k => m.rows.length - k) (fun k => k ≤ m.rows.length ∧ ∀ r ∈ m.rows.take k, r.2.length ≤ 8) [3, 4, 5, 7] 0 ?_ ?_
 ·exact ⟨[], 0, rfl, (by simp only [go_sem, Int.natCast_zero, Mach.cells] <;> rfl), Nat.zero_le _, fun d h => by cases h⟩
 rintro k ⟨k1, k2⟩
 refine EvC.seq ?_
 refine EvC.a ?_ (by simp only [go_sem, Mach.cells, hRl] <;> rfl)
 by_cases hkl : k < m.rows.length
 ·have hke := List.getElem?_eq_getElem hkl
  have htk : m.rows.take (k + 1) = m.rows.take k ++ [m.rows[k]] := List.take_succ_eq_append_getElem hkl
  generalize m.rows[k] = r at hke htk
  obtain ⟨rn, rs⟩ := r
  have hrg : (m.rows.map rowC)[k]? = some [.sl rn (rs.map edgeC) .unk] := by rw [List.getElem?_map, hke]; rfl
  obtain ⟨kZ, hkZ⟩ : ∃ z : Int, z = (k : Int) := ⟨_, rfl⟩
  have hkt : kZ.toNat = k := by omega
  rw [← hkZ]
  refine EvC.cr ?_ (by simp only [go_sem, decide_eq_true (show kZ < (m.rows.length : Int) by omega)] <;> rfl)
  refine EvC.seq ?_
  refine EvC.block ?_
  refine EvC.a ?_ (by simp only [go_sem, Mach.cells, hrg, hkt, hRl, List.length_map] <;> rfl) (by simp [hRl]; try omega)
  by_cases d1 : (8 : Int) < rs.length
  ·refine EvC.ct ?_ (by simp only [go_sem, decide_eq_true d1] <;> rfl)
   refine EvC.a ?_
   refine EvC.rz ?_
   simp only [go_sem]
  refine EvC.cs ?_ (by simp only [go_sem, decide_eq_false d1] <;> rfl)
  refine EvC.b ?_ (hok := by exact inI64_of (by omega) (by omega))
  refine ⟨[], k + 1, rfl, (by rw [hkZ]; simp only [go_sem, Int.natCast_add, Int.natCast_one, Mach.cells] <;> rfl), ⟨hkl, fun q hq => ?_⟩, by omega⟩
  rw [htk] at hq
  rcases List.mem_append.1 hq with hq | hq
  ·exact k2 q hq
  ·rw [List.mem_singleton] at hq; subst hq; simp only; omega
 refine EvC.cf ?_ (by simp only [go_sem, decide_eq_false (show ¬ (k : Int) < m.rows.length by omega)] <;> rfl)
 refine EvC.exit ?_
 obtain rfl : k = m.rows.length := by omega
 rw [List.take_length] at k2
 have hm : ∀ r ∈ m.rows, r.2.length < 1000000 := fun r hr => by have := k2 r hr; omega
 refine EvC.seq ?_
 refine EvC.a ?_
 refine EvC.block ?_
 refine EvC.loopS (σ := Nat) (fun k => ⟨[(3, .ia m.cells), (4, .ia [.sc (.int .i64 i), .sc (.int .i64 o), .sl ln (L.map traceC) .unk]), (5, .ia [.sl kn (ks.map intC) .unk, .sl fn (fs.map FA.cells) .unk, .sc (.int .i64 most)]), (8, .sc (.int .i64 k))], [], [], 0⟩) (fun k => L.length - k) (fun k => k ≤ L.length ∧ ∀ t ∈ L.take k, t.w.length ≤ 20 ∧ t.r.length ≤ 20) [3, 4, 5, 8] 0 ?_ ?_
 ·exact ⟨[], 0, rfl, (by simp only [go_sem, Int.natCast_zero, Mach.cells] <;> rfl), Nat.zero_le _, fun d h => by cases h⟩
 rintro k ⟨k1, k3⟩
 refine EvC.seq ?_
 refine EvC.a ?_ (by simp only [go_sem, hLl] <;> rfl)
 by_cases hkl : k < L.length
 ·have hke := List.getElem?_eq_getElem hkl
  have htk : L.take (k + 1) = L.take k ++ [L[k]] := List.take_succ_eq_append_getElem hkl
  generalize L[k] = t at hke htk
  obtain ⟨w, r, wn, rn⟩ := t
  have hrg : (L.map traceC)[k]? = some [.sl wn (w.map intC) .unk, .sl rn (r.map intC) .unk] := by rw [List.getElem?_map, hke]; rfl
  obtain ⟨kZ, hkZ⟩ : ∃ z : Int, z = (k : Int) := ⟨_, rfl⟩
  have hkt : kZ.toNat = k := by omega
  rw [← hkZ]
  refine EvC.cr ?_ (by simp only [go_sem, decide_eq_true (show kZ < (L.length : Int) by omega)] <;> rfl)
  refine EvC.seq ?_
  refine EvC.block ?_
  by_cases d1 : (20 : Int) < w.length
  ·apply EvC.seq
   apply EvC.trd
   ·simp only [go_sem, hrg, hkt, hLl, List.length_map, decide_eq_true d1] <;> rfl
   ·simp [hLl]; try omega
   refine EvC.ct ?_
   refine EvC.a ?_
   refine EvC.rz ?_
   simp only [go_sem]
  by_cases d2 : (20 : Int) < r.length
  ·apply EvC.seq
   apply EvC.trd
   ·simp only [go_sem, hrg, hkt, hLl, List.length_map, decide_eq_false d1, decide_eq_true d2] <;> rfl
   ·simp [hLl]; try omega
   refine EvC.ct ?_
   refine EvC.a ?_
   refine EvC.rz ?_
   simp only [go_sem]
  apply EvC.seq
  apply EvC.trd
  ·simp only [go_sem, hrg, hkt, hLl, List.length_map, decide_eq_false d1, decide_eq_false d2] <;> rfl
  ·simp [hLl]; try omega
  refine EvC.cs ?_
  refine EvC.b ?_ (hok := by exact inI64_of (by omega) (by omega))
  refine ⟨[], k + 1, rfl, (by rw [hkZ]; simp only [go_sem, Int.natCast_add, Int.natCast_one, Mach.cells] <;> rfl), ⟨hkl, fun q hq => ?_⟩, by omega⟩
  rw [htk] at hq
  rcases List.mem_append.1 hq with hq | hq
  ·exact k3 q hq
  ·rw [List.mem_singleton] at hq; subst hq; simp only; omega
 refine EvC.cf ?_ (by simp only [go_sem, decide_eq_false (show ¬ (k : Int) < L.length by omega)] <;> rfl)
 refine EvC.exit ?_
 obtain rfl : k = L.length := by omega
 rw [List.take_length] at k3
 have hL : LogSm L := ⟨by omega, fun t ht => by have := k3 t ht; omega, fun t ht => by have := k3 t ht; omega⟩
 have q0 := refcheck28_is m hm
 have q1 := check29_is i o ln L hL
 have q2 := allF_is m hm kn ks .unk (by omega) most
 have q3 := suspects_is m hm hnn kn ks .unk (by omega) i o ln L hL most
 rw [logC] at q1 q3
 rw [Mach.cells] at q0 q2 q3
 apply EvC.s1
 ·apply Tr.run
  ·simp only [go_sem, Mach.cells] <;> rfl
  ·simp
  apply Tr.cons
  ·exact .ca (q0)
  apply Tr.done
  ·simp only [go_sem] <;> rfl
  ·simp
 refine EvC.a ?_
 have hz0 : ∀ z : Int, ¬ z = 0 → decide (z = 0) = false := fun z h => decide_eq_false h
 refine EvC.mergeS (α := Int) (fun z => ⟨[(3, .ia m.cells), (4, .ia [.sc (.int .i64 i), .sc (.int .i64 o), .sl ln (L.map traceC) .unk]), (5, .ia [.sl kn (ks.map intC) .unk, .sl fn (fs.map FA.cells) .unk, .sc (.int .i64 most)]), (9, .sc (.int .i64 (checkM m))), (10, .sc (.int .i64 z))], [], [], 0⟩) (fun z => z = if checkM m ≠ 0 then checkM m else checkL i o L) [3, 4, 5, 9, 10] 0 ?_ ?_
 ·refine EvC.a ?_
  by_cases e1 : checkM m = 0
  ·refine EvC.ct ?_ (by simp only [go_sem, decide_eq_true e1] <;> rfl)
   apply EvC.tr
   ·apply Tr.run
    ·simp only [go_sem] <;> rfl
    ·simp
    apply Tr.cons
    ·exact .ca (q1)
    apply Tr.done
    ·simp only [go_sem] <;> rfl
    ·simp
   exact ⟨rfl, [], checkL i o L, rfl, (by simp only [go_sem, Mach.cells] <;> rfl), by rw [if_neg (fun h => h e1)]⟩
  ·refine EvC.cs ?_ (by simp only [go_sem, decide_eq_false e1] <;> rfl)
   exact ⟨rfl, [], checkM m, rfl, (by simp only [go_sem, Mach.cells] <;> rfl), by rw [if_pos e1]⟩
 intro z hz
 refine EvC.mergeS (α := Int) (fun z => ⟨[(3, .ia m.cells), (4, .ia [.sc (.int .i64 i), .sc (.int .i64 o), .sl ln (L.map traceC) .unk]), (5, .ia [.sl kn (ks.map intC) .unk, .sl fn (fs.map FA.cells) .unk, .sc (.int .i64 most)]), (9, .sc (.int .i64 (checkM m))), (10, .sc (.int .i64 z))], [], [], 0⟩) (fun z => z = agErr m i o L) [3, 4, 5, 9, 10] 0 ?_ ?_
 ·by_cases e1 : z = 0
  ·subst e1
   have h1 : checkM m = 0 := by
    by_cases h : checkM m = 0
    ·exact h
    ·rw [if_pos h] at hz; exact absurd hz.symm h
   rw [if_neg (fun h => h h1)] at hz
   by_cases e2 : i = m.ins
   ·apply EvC.seq
    apply EvC.trd
    ·simp only [go_sem, Mach.cells, decide_eq_true e2] <;> rfl
    ·simp
    refine EvC.cs ?_ (by simp only [go_sem, decide_eq_true e2] <;> rfl)
    exact ⟨rfl, [], 0, rfl, (by simp only [go_sem, Mach.cells] <;> rfl), by unfold agErr; rw [if_neg (fun h => h h1), if_neg (fun h => h hz.symm), if_neg (fun h => h e2.symm)]⟩
   ·apply EvC.seq
    apply EvC.trd
    ·simp only [go_sem, Mach.cells, decide_eq_false e2] <;> rfl
    ·simp
    refine EvC.ct ?_ (by simp only [go_sem, decide_eq_false e2] <;> rfl)
    refine EvC.b ?_
    exact ⟨rfl, [], 5, rfl, (by simp only [go_sem, Mach.cells] <;> rfl), by unfold agErr; rw [if_neg (fun h => h h1), if_neg (fun h => h hz.symm), if_pos (fun h => e2 h.symm)]⟩
  ·apply EvC.seq
   apply EvC.trd
   ·simp only [go_sem, Mach.cells, decide_eq_false e1] <;> rfl
   ·simp
   refine EvC.cs ?_
   refine ⟨rfl, [], z, rfl, (by simp only [go_sem, Mach.cells] <;> rfl), ?_⟩
   unfold agErr
   by_cases h : checkM m = 0
   ·rw [if_neg (fun g => g h)] at hz ⊢
    rw [if_pos (by rw [← hz]; exact e1), hz]
   ·rw [if_pos h] at hz ⊢; exact hz
 rintro z rfl
 refine EvC.mergeS (α := Unit) (fun _ => ⟨[(3, .ia m.cells), (4, .ia [.sc (.int .i64 i), .sc (.int .i64 o), .sl ln (L.map traceC) .unk]), (5, .ia [.sl kn (ks.map intC) .unk, .sl fn (fs.map FA.cells) .unk, .sc (.int .i64 most)]), (9, .sc (.int .i64 (checkM m))), (10, .sc (.int .i64 (suspE m ks i o L most)))], [], [], 0⟩) (fun _ => True) [3, 4, 5, 9, 10] 0 ?_ ?_
 ·refine EvC.a ?_
  by_cases e1 : agErr m i o L = 0
  ·refine EvC.ct ?_ (by simp only [go_sem, decide_eq_true e1] <;> rfl)
   have hS : suspE m ks i o L most = allR m ks most := by unfold suspE; rw [if_neg (fun h => h e1)]
   unfold allA at q2
   by_cases e2 : allR m ks most = 0
   ·rw [if_neg (fun h => h e2)] at q2
    have hn2 := fas_norefs (alF m ks)
    apply EvC.tr
    ·apply Tr.run
     ·simp only [go_sem, Mach.cells] <;> rfl
     ·simp
     apply Tr.cons
     ·exact .ca (q2)
     apply Tr.done
     ·simp only [go_sem] <;> rfl
     ·simp
    exact ⟨rfl, [], (), rfl, (by rw [hS, e2]; simp only [go_sem, Mach.cells] <;> rfl), trivial⟩
   ·rw [if_pos e2] at q2
    apply EvC.tr
    ·apply Tr.run
     ·simp only [go_sem, Mach.cells] <;> rfl
     ·simp
     apply Tr.cons
     ·exact .ca (q2)
     apply Tr.done
     ·simp only [go_sem] <;> rfl
     ·simp
    exact ⟨rfl, [], (), rfl, (by rw [hS]; simp only [go_sem, Mach.cells] <;> rfl), trivial⟩
  ·refine EvC.cs ?_ (by simp only [go_sem, decide_eq_false e1] <;> rfl)
   exact ⟨rfl, [], (), rfl, (by rw [show suspE m ks i o L most = agErr m i o L by unfold suspE; rw [if_pos e1]]; simp only [go_sem, Mach.cells] <;> rfl), trivial⟩
 rintro ⟨⟩ -
 obtain ⟨b3, S3, inn, q3u, hSE⟩ : ∃ (b3 : Bool) (S3 : List FA) (inn : Bool), PureIs prog 11 [.ag [.sc (.int .i64 m.ins), .sc (.int .i64 m.outs), .sl m.nl (m.rows.map rowC) .unk], .sl kn (ks.map intC) .unk, .ag [.sc (.int .i64 i), .sc (.int .i64 o), .sl ln (L.map traceC) .unk], .sc (.int .i64 most)] (.tu [.sl b3 (S3.map FA.cells) .unk, .sc (.bool inn), .sc (.int .i64 (suspE m ks i o L most))]) ∧ (suspE m ks i o L most ≠ 0 → inn = false ∧ S3 = []) := by
  rcases suspA_cases m ks i o L most with ⟨e1, e2⟩ | ⟨e1, b, S, inn, e2⟩
  ·rw [e2] at q3
   exact ⟨true, [], false, q3, fun _ => ⟨rfl, rfl⟩⟩
  ·rw [e2] at q3
   have q := q3.weakR
   have hu : AV.unkss (S.map FA.cells) = S.map FA.cells := unkss_map FA.cells (fun _ => rfl) S
   rw [e1]
   refine ⟨b, S, inn, ?_, fun h => absurd rfl h⟩
   have hq : AV.unk (.tu [.sl b (S.map FA.cells) .full, .sc (.bool inn), .sc (.int .i64 0)]) = .tu [.sl b (S.map FA.cells) .unk, .sc (.bool inn), .sc (.int .i64 0)] := by
    simp only [AV.unk, AV.unks, hu]
   rw [hq] at q
   exact q
 generalize suspE m ks i o L most = E at q3u hSE
 have hn3 := fas_norefs S3
 have hS3l : (S3.map FA.cells).length = S3.length := List.length_map _
 generalize S3.map FA.cells = T3 at q3u hn3 hS3l
 apply EvC.s1
 ·apply Tr.run
  ·simp only [go_sem, Mach.cells] <;> rfl
  ·simp
  apply Tr.cons
  ·exact .ca (q3u)
  apply Tr.done
  ·simp only [go_sem, Mach.cells] <;> rfl
  ·simp [hn3]
 have hEE : decide (E = E) = true := decide_eq_true rfl
 refine EvC.mergeS (α := Unit) (fun _ => ⟨[(3, .ia m.cells), (5, .ia [.sl kn (ks.map intC) .unk, .sl fn (fs.map FA.cells) .unk, .sc (.int .i64 most)]), (9, .sc (.int .i64 (checkM m)))], [], [], 0⟩) (fun _ => True) [3, 5, 9] 0 ?_ ?_
 ·by_cases e1 : E = 0
  ·subst e1
   apply EvC.seq
   apply EvC.trd
   ·simp only [go_sem, hEE, Mach.cells] <;> rfl
   ·simp
   refine EvC.cs ?_
   exact ⟨rfl, [], (), rfl, (by simp only [go_sem, Mach.cells] <;> rfl), trivial⟩
  ·obtain ⟨rfl, rfl⟩ := hSE e1
   apply EvC.seq
   apply EvC.trd
   ·simp only [go_sem, hEE, decide_eq_false e1, hS3l, List.length_nil, Int.natCast_zero, Mach.cells] <;> rfl
   ·simp
   refine EvC.cs ?_
   exact ⟨rfl, [], (), rfl, (by simp only [go_sem, Mach.cells] <;> rfl), trivial⟩
 rintro ⟨⟩ -
 clear q0 q1 q2 q3 q3u hSE hn3 hS3l hEE
 refine EvC.seq ?_
 refine EvC.a ?_
 refine EvC.block ?_
 have hfg : ∀ (k : Nat) (f : FA), fs[k]? = some f → (fs.map FA.cells)[k]? = some f.cells := fun k f h => by rw [List.getElem?_map, h]; rfl
 have q4 := classes_is m hm hnn fn fs .unk (by omega)
 have q5 := next_is m hm hnn fn fs .unk (by omega) most
 have q6 := diagnose_is m hm hnn fn fs .unk (by omega)
 generalize hFS : fs.map FA.cells = FS at hfl2 hn hfg q4 q5 q6
 refine EvC.loopS (σ := Nat × Int) (fun g => ⟨[(3, .ia m.cells), (5, .ia [.sl kn (ks.map intC) .unk, .sl fn FS .unk, .sc (.int .i64 most)]), (9, .sc (.int .i64 g.2)), (14, .sc (.int .i64 g.1))], [], [], 0⟩) (fun g => fs.length - g.1) (fun g => g.1 ≤ fs.length ∧ ((checkM m ≠ 0 ∧ g.2 = checkM m) ∨ (checkM m = 0 ∧ g.2 = 0 ∧ ∀ f ∈ fs.take g.1, faultB m f = true) ∨ (checkM m = 0 ∧ g.2 = 1 ∧ ∃ f ∈ fs, faultB m f = false))) [3, 5, 9, 14] 0 ?_ ?_
 ·refine ⟨[], (0, checkM m), rfl, (by simp only [go_sem, Int.natCast_zero, Mach.cells] <;> rfl), Nat.zero_le _, ?_⟩
  by_cases h : checkM m = 0
  ·exact .inr (.inl ⟨h, h, fun f hf => by cases hf⟩)
  ·exact .inl ⟨h, rfl⟩
 rintro ⟨k, z⟩ ⟨g1, g2⟩
 simp only at g1 g2 ⊢
 refine EvC.seq ?_
 by_cases hgo : k < fs.length ∧ z = 0
 ·obtain ⟨hkl, rfl⟩ := hgo
  have hc0 : checkM m = 0 ∧ ∀ f ∈ fs.take k, faultB m f = true := by
   rcases g2 with ⟨h, e⟩ | ⟨h, _, h2⟩ | ⟨_, e, _⟩
   ·exact absurd e.symm h
   ·exact ⟨h, h2⟩
   ·cases e
  have hv := Valid.of hc0.1
  have hke := List.getElem?_eq_getElem hkl
  have hkm := List.getElem_mem hkl
  have htk : fs.take (k + 1) = fs.take k ++ [fs[k]] := List.take_succ_eq_append_getElem hkl
  generalize fs[k] = f at hke hkm htk
  have hfk := hfg k f hke
  have q7 := is40_is hv f
  rw [Mach.cells] at q7
  rw [FA.cells] at hfk q7
  obtain ⟨kZ, hkZ⟩ : ∃ z : Int, z = (k : Int) := ⟨_, rfl⟩
  have hkt : kZ.toNat = k := by omega
  rw [← hkZ]
  have d1 := decide_eq_true (show kZ < (fs.length : Int) by omega)
  apply EvC.seq
  apply EvC.trd
  ·simp only [go_sem, hfl2, d1] <;> rfl
  ·simp
  refine EvC.cr ?_
  refine EvC.seq ?_
  refine EvC.block ?_
  apply EvC.seq
  apply EvC.drw mixed
  ·apply Tr.run
   ·simp only [go_sem, Mach.cells, hfk, hkt, hfl2, hn] <;> rfl
   ·simp [hfl2]; omega
   apply Tr.cons
   ·exact .ca (q7)
   apply Tr.done
   ·simp only [go_sem] <;> rfl
   ·simp
  ·kernel_rfl
  cases hfb : faultB m f with
  | true =>
    refine EvC.cs ?_ (by simp only [go_sem, hfb] <;> rfl)
    refine EvC.b ?_ (hok := by exact inI64_of (by omega) (by omega))
    refine ⟨[], (k + 1, 0), rfl, (by rw [hkZ]; simp only [go_sem, Int.natCast_add, Int.natCast_one, Mach.cells] <;> rfl), ⟨hkl, .inr (.inl ⟨hc0.1, rfl, fun q hq => ?_⟩)⟩, by simp only; omega⟩
    simp only at hq
    rw [htk] at hq
    rcases List.mem_append.1 hq with hq | hq
    ·exact hc0.2 q hq
    ·rw [List.mem_singleton] at hq; subst hq; exact hfb
  | false =>
    refine EvC.ct ?_ (by simp only [go_sem, hfb] <;> rfl)
    refine EvC.b ?_
    refine EvC.b ?_ (hok := by exact inI64_of (by omega) (by omega))
    exact ⟨[], (k + 1, 1), rfl, (by rw [hkZ]; simp only [go_sem, Int.natCast_add, Int.natCast_one, Mach.cells] <;> rfl), ⟨hkl, .inr (.inr ⟨hc0.1, rfl, f, hkm, hfb⟩)⟩, by simp only; omega⟩
 have hz : z = mutErr m fs := by
  unfold mutErr
  rcases g2 with ⟨h, e⟩ | ⟨h, e, h2⟩ | ⟨h, e, h2⟩
  ·rw [if_pos h, e]
  ·rw [if_neg (fun g => g h), if_neg (by omega)]
   have : k = fs.length := by omega
   subst this
   rw [List.take_length] at h2
   rw [errFs_ok fun f hf => checkF_small (h2 f hf) (by omega), e]
  ·rw [if_neg (fun g => g h), if_neg (by omega), errFs_one (by omega) h2, e]
 have hcf : (if decide ((k : Int) < fs.length) = true then decide (z = 0) else false) = false := by
  by_cases h : k < fs.length
  ·rw [decide_eq_true (show (k : Int) < fs.length by omega), if_pos rfl]; exact decide_eq_false (by omega)
  ·rw [decide_eq_false (show ¬ (k : Int) < fs.length by omega)]; rfl
 apply EvC.seq
 apply EvC.trd
 ·simp only [go_sem, hfl2] <;> rfl
 ·simp
 refine EvC.cf ?_ (by simp only [go_sem, hcf] <;> rfl)
 refine EvC.exit ?_
 rw [clsA] at q4
 rw [nextA, ← hz] at q5
 rw [diagA, ← hz] at q6
 rw [← hz] at q4
 clear hcf g1
 rw [Mach.cells] at q4 q5 q6
 by_cases h0 : z = 0
 rotate_left
 ·rw [if_neg h0] at q4
  rw [if_pos h0] at q5 q6
  apply EvC.s1
  ·apply Tr.run
   ·simp only [go_sem, Mach.cells] <;> rfl
   ·simp
   apply Tr.cons
   ·exact .ca (q4)
   apply Tr.done
   ·simp only [go_sem, Mach.cells, hn] <;> rfl
   ·simp [hn]
  apply EvC.s1
  ·apply Tr.run
   ·simp only [go_sem, Mach.cells] <;> rfl
   ·simp
   apply Tr.cons
   ·exact .ca (q5)
   apply Tr.done
   ·simp only [go_sem, Mach.cells, hn] <;> rfl
   ·simp [hn]
  apply EvC.s1
  ·apply Tr.run
   ·simp only [go_sem, Mach.cells] <;> rfl
   ·simp
   apply Tr.cons
   ·exact .ca (q6)
   apply Tr.done
   ·simp only [go_sem, Mach.cells, hn] <;> rfl
   ·simp [hn]
  refine EvC.seq ?_
  refine EvC.a ?_
  refine EvC.ct ?_ (by simp only [go_sem, decide_eq_false h0] <;> rfl)
  apply EvC.s1
  ·apply Tr.run
   ·simp only [go_sem, decide_eq_true (show z = z from rfl)] <;> rfl
   ·(simp only [Bool.and_eq_true]; exact ⟨inI64_of (by decide) (by decide), inI64_of (by decide) (by decide)⟩)
   apply Tr.cons
   ·exact .cg (q9)
   apply Tr.done
   ·simp only [go_sem] <;> rfl
   ·simp
  refine EvC.rz ?_
  simp only [go_sem]
 subst h0
 rw [if_pos rfl] at q4
 rw [if_neg (fun h => h rfl)] at q5 q6
 have hc0 : checkM m = 0 ∧ ∀ f ∈ fs, checkF m f = 0 := by
  obtain ⟨h1, h2, h3⟩ := mutErr_ok hz.symm
  exact ⟨h1, errFs_zero h3⟩
 have hv := Valid.of hc0.1
 have hins := hv.ins
 have hCn : (classL (fs.map (mutF m)) fs.length).map (fun l => ([AV.sl false (l.map intC) .full] : List AV)) = (classL (fs.map (mutF m)) fs.length).map askC := rfl
 rw [hCn] at q4
 have hCn2 := norefs_ask (classL (fs.map (mutF m)) fs.length)
 generalize (classL (fs.map (mutF m)) fs.length).map askC = C1 at q4 hCn2
 apply EvC.s1
 ·apply Tr.run
  ·simp only [go_sem, Mach.cells] <;> rfl
  ·simp
  apply Tr.cons
  ·exact .ca (q4)
  apply Tr.done
  ·simp only [go_sem, Mach.cells, hn] <;> rfl
  ·simp [hn, hCn2]
 have hkn : m.ins.toNat ≤ 16 ∧ 1 ≤ m.ins.toNat ∧ ((m.ins.toNat : Nat) : Int) = m.ins := by omega
 obtain ⟨nx, hnx⟩ : ∃ nx : Int, nx = if most < 1 ∨ 256 < most ∨ fs.length = 0 then 1 else if fewN m.ins.toNat most.toNat 1 = false then 3 else 0 := ⟨_, rfl⟩
 obtain ⟨b5, W5, c5, l5, q5u, hW5⟩ : ∃ (b5 : Bool) (W5 : List Int) (c5 : Cp) (l5 : Int), PureIs prog 19 [.ag [.sc (.int .i64 m.ins), .sc (.int .i64 m.outs), .sl m.nl (m.rows.map rowC) .unk], .sl fn FS .unk, .sc (.int .i64 most)] (.tu [.sl b5 (W5.map intC) c5, .sc (.int .i64 l5), .sc (.int .i64 nx)]) ∧ (nx ≠ 0 → W5 = []) := by
  by_cases a1 : most < 1 ∨ 256 < most ∨ fs.length = 0
  ·rw [if_pos a1] at q5 hnx
   rw [hnx]
   exact ⟨true, [], .unk, 0, q5, fun _ => rfl⟩
  ·rw [if_neg a1] at q5 hnx
   by_cases a2 : fewN m.ins.toNat most.toNat 1 = false
   ·rw [if_pos a2] at q5 hnx
    rw [hnx]
    exact ⟨true, [], .unk, 0, q5, fun _ => rfl⟩
   ·rw [if_neg a2] at q5 hnx
    rw [hnx]
    exact ⟨_, _, _, _, q5, fun h => absurd rfl h⟩
 obtain ⟨b6, T6, c6, q6u, hT6⟩ : ∃ (b6 : Bool) (T6 : List (List AV)) (c6 : Cp), PureIs prog 22 [.ag [.sc (.int .i64 m.ins), .sc (.int .i64 m.outs), .sl m.nl (m.rows.map rowC) .unk], .sl fn FS .unk] (.tu [.sl b6 T6 c6, .sc (.int .i64 (if fs.length = 0 then 1 else 0))]) ∧ T6.all AV.norefs = true := by
  by_cases a1 : fs.length = 0
  ·rw [if_pos a1] at q6 ⊢
   exact ⟨true, [], .unk, q6, rfl⟩
  ·rw [if_neg a1] at q6 ⊢
   refine ⟨_, _, _, q6, ?_⟩
   rw [show ndC = ngC ∘ ndG from (funext ndG_cells).symm, ← List.map_map]
   exact norefs_ngs _
 have hWn := norefs_intC W5
 have hWl : (W5.map intC).length = W5.length := List.length_map _
 generalize W5.map intC = WC at q5u hWn hWl
 apply EvC.s1
 ·apply Tr.run
  ·simp only [go_sem, Mach.cells] <;> rfl
  ·simp
  apply Tr.cons
  ·exact .ca (q5u)
  apply Tr.done
  ·simp only [go_sem, Mach.cells, hn] <;> rfl
  ·simp [hn, hWn]
 apply EvC.s1
 ·apply Tr.run
  ·simp only [go_sem, Mach.cells] <;> rfl
  ·simp
  apply Tr.cons
  ·exact .ca (q6u)
  apply Tr.done
  ·simp only [go_sem, Mach.cells, hn] <;> rfl
  ·simp [hn, hT6]
 clear q4 q5 q6 q5u q6u
 refine EvC.seq ?_
 refine EvC.a ?_
 refine EvC.cs ?_
 refine EvC.a ?_
 obtain ⟨hE, hhE⟩ : ∃ hE : Int, hE = if fs.length = 0 then 1 else 0 := ⟨_, rfl⟩
 rw [← hhE]
 refine EvC.mergeS (α := Int) (fun z => ⟨[(3, .ia m.cells), (5, .ia [.sl kn (ks.map intC) .unk, .sl fn FS .unk, .sc (.int .i64 most)]), (16, .sc (.int .i64 0)), (17, .sl b5 WC c5), (19, .sc (.int .i64 nx)), (21, .sc (.int .i64 hE)), (22, .sc (.int .i64 z))], [], [], 0⟩) (fun z => z = if most < 1 ∨ 256 < most ∨ fs.length = 0 then 1 else 0) [3, 5, 16, 17, 19, 21, 22] 0 ?_ ?_
 ·by_cases a1 : most < 1
  ·apply EvC.seq
   apply EvC.trd
   ·simp only [go_sem, hfl2, decide_eq_true a1] <;> rfl
   ·simp
   refine EvC.ct ?_
   refine EvC.b ?_
   exact ⟨rfl, [], 1, rfl, (by simp only [go_sem, Mach.cells] <;> rfl), by rw [if_pos (.inl a1)]⟩
  by_cases a2 : 256 < most
  ·apply EvC.seq
   apply EvC.trd
   ·simp only [go_sem, hfl2, decide_eq_false a1, decide_eq_true a2] <;> rfl
   ·simp
   refine EvC.ct ?_
   refine EvC.b ?_
   exact ⟨rfl, [], 1, rfl, (by simp only [go_sem, Mach.cells] <;> rfl), by rw [if_pos (.inr (.inl a2))]⟩
  by_cases a3 : (fs.length : Int) = 0
  ·apply EvC.seq
   apply EvC.trd
   ·simp only [go_sem, hfl2, decide_eq_false a1, decide_eq_false a2, decide_eq_true a3] <;> rfl
   ·simp
   refine EvC.ct ?_ (by simp only [go_sem, decide_eq_true a3] <;> rfl)
   refine EvC.b ?_
   exact ⟨rfl, [], 1, rfl, (by simp only [go_sem, Mach.cells] <;> rfl), by rw [if_pos (.inr (.inr (by omega)))]⟩
  apply EvC.seq
  apply EvC.trd
  ·simp only [go_sem, hfl2, decide_eq_false a1, decide_eq_false a2, decide_eq_false a3] <;> rfl
  ·simp
  refine EvC.cs ?_ (by simp only [go_sem, decide_eq_false a3] <;> rfl)
  exact ⟨rfl, [], 0, rfl, (by simp only [go_sem, Mach.cells] <;> rfl), by rw [if_neg (by omega)]⟩
 intro z1 hz1
 refine EvC.a ?_
 refine EvC.seq ?_
 refine EvC.a ?_
 refine EvC.block ?_
 obtain ⟨K, hK⟩ : ∃ K : Nat, K = m.ins.toNat := ⟨_, rfl⟩
 have hKi : (K : Int) = m.ins := by omega
 refine EvC.loopS (σ := Nat × Int × Int) (fun g => ⟨[(3, .ia m.cells), (5, .ia [.sl kn (ks.map intC) .unk, .sl fn FS .unk, .sc (.int .i64 most)]), (16, .sc (.int .i64 0)), (17, .sl b5 WC c5), (19, .sc (.int .i64 nx)), (21, .sc (.int .i64 hE)), (22, .sc (.int .i64 g.2.2)), (23, .sc (.int .i64 g.2.1)), (24, .sc (.int .i64 g.1))], [], [], 0⟩) (fun g => most.toNat - g.1) (fun g => (g.2.2 = 1 ∧ (most < 1 ∨ 256 < most ∨ fs.length = 0)) ∨ (¬ (most < 1 ∨ 256 < most ∨ fs.length = 0) ∧ ((g.2.2 = 3 ∧ fewN K most.toNat 1 = false) ∨ (g.2.2 = 0 ∧ (g.1 : Int) ≤ most ∧ ∃ N : Nat, g.2.1 = N ∧ N ≤ 4096 ∧ fewN K (most.toNat - g.1) N = fewN K most.toNat 1)))) [3, 5, 16, 17, 19, 21, 22, 23, 24] 0 ?_ ?_
 ·refine ⟨[], (0, 1, z1), rfl, (by simp only [go_sem, Int.natCast_zero, Mach.cells] <;> rfl), ?_⟩
  by_cases a1 : most < 1 ∨ 256 < most ∨ fs.length = 0
  ·rw [if_pos a1] at hz1; exact .inl ⟨hz1, a1⟩
  ·rw [if_neg a1] at hz1; exact .inr ⟨a1, .inr ⟨hz1, by simp only; omega, 1, rfl, by decide, rfl⟩⟩
 rintro ⟨k, n, z⟩ hinv
 simp only at hinv ⊢
 refine EvC.seq ?_
 by_cases hgo : (k : Int) < most ∧ z = 0
 ·obtain ⟨hkm, rfl⟩ := hgo
  obtain ⟨a1, N, rfl, hN, hf⟩ : ¬ (most < 1 ∨ 256 < most ∨ fs.length = 0) ∧ ∃ N : Nat, n = N ∧ N ≤ 4096 ∧ fewN K (most.toNat - k) N = fewN K most.toNat 1 := by
   rcases hinv with ⟨e, _⟩ | ⟨a1, ⟨e, _⟩ | ⟨_, _, h⟩⟩
   ·cases e
   ·cases e
   ·exact ⟨a1, h⟩
  obtain ⟨N2, hN2⟩ : ∃ N2 : Nat, N2 = N * K := ⟨_, rfl⟩
  have hmul : (N : Int) * m.ins = (N2 : Int) := by rw [hN2, Int.natCast_mul, hKi]
  have hN3 : N2 ≤ 4096 * 16 := by rw [hN2]; exact Nat.mul_le_mul hN (by omega)
  have hst : most.toNat - k = (most.toNat - (k + 1)) + 1 := by omega
  rw [hst] at hf
  have d1 := decide_eq_true hkm
  apply EvC.seq
  apply EvC.trd
  ·simp only [go_sem, d1] <;> rfl
  ·simp
  refine EvC.cr ?_
  refine EvC.seq ?_
  refine EvC.block ?_
  refine EvC.a ?_ (by simp only [go_sem, Mach.cells, hmul] <;> rfl) (by simp [inI64_of (x := (N2 : Int)) (by omega) (by omega)])
  refine EvC.a ?_
  by_cases a2 : (4096 : Int) < N2
  ·refine EvC.ct ?_ (by simp only [go_sem, decide_eq_true a2] <;> rfl)
   refine EvC.b ?_
   refine EvC.b ?_ (hok := by exact inI64_of (by omega) (by omega))
   rw [fewN_false (by omega)] at hf
   exact ⟨[], (k + 1, N2, 3), rfl, (by simp only [go_sem, Int.natCast_add, Int.natCast_one, Mach.cells] <;> rfl), .inr ⟨a1, .inl ⟨rfl, hf.symm⟩⟩, by simp only; omega⟩
  ·refine EvC.cs ?_ (by simp only [go_sem, decide_eq_false a2] <;> rfl)
   refine EvC.b ?_ (hok := by exact inI64_of (by omega) (by omega))
   rw [fewN, if_neg (by omega), ← hN2] at hf
   exact ⟨[], (k + 1, N2, 0), rfl, (by simp only [go_sem, Int.natCast_add, Int.natCast_one, Mach.cells] <;> rfl), .inr ⟨a1, .inr ⟨rfl, by simp only; omega, N2, rfl, by omega, hf⟩⟩, by simp only; omega⟩
 have hzx : z = nx := by
  rw [hnx, ← hK]
  rcases hinv with ⟨e, a1⟩ | ⟨a1, ⟨e, h⟩ | ⟨e, h1, N, _, h2, h3⟩⟩
  ·rw [if_pos a1, e]
  ·rw [if_neg a1, if_pos h, e]
  ·have : most.toNat - k = 0 := by omega
   rw [this] at h3
   rw [if_neg a1, if_neg (by rw [← h3]; simp [fewN]), e]
 have hcf : (if decide ((k : Int) < most) = true then decide (z = 0) else false) = false := by
  by_cases h : (k : Int) < most
  ·rw [decide_eq_true h, if_pos rfl]; exact decide_eq_false (fun e => hgo ⟨h, e⟩)
  ·rw [decide_eq_false h]; rfl
 subst hzx
 apply EvC.seq
 apply EvC.trd
 ·simp only [go_sem] <;> rfl
 ·simp
 refine EvC.cf ?_ (by simp only [go_sem, hcf] <;> rfl)
 refine EvC.exit ?_
 have hzz : decide (z = z) = true := decide_eq_true rfl
 have hbb : (decide (hE = 0) == decide ((0 : Int) < fs.length)) = true := by
  rw [hhE]
  by_cases h : fs.length = 0
  ·rw [if_pos h, decide_eq_false (show ¬ (0 : Int) < fs.length by omega)]; rfl
  ·rw [if_neg h, decide_eq_true (show (0 : Int) < fs.length by omega)]; rfl
 by_cases e1 : z = 0
 ·apply EvC.s1
  ·apply Tr.run
   ·simp only [go_sem, hzz, hbb, hfl2, decide_eq_true e1] <;> rfl
   ·simp
   apply Tr.cons
   ·exact .callG rfl rfl (by simp only [go_sem] <;> rfl) rfl (by simp only [go_sem] <;> rfl) (by simp only [go_sem] <;> rfl) (by simp only [go_sem, hzz, hbb] <;> rfl) (by simp only [go_sem, hzz, hbb] <;> rfl) (by simp only [go_sem] <;> rfl) (q9)
   apply Tr.done
   ·simp only [go_sem] <;> rfl
   ·simp
  refine EvC.rz ?_
  simp only [go_sem]
 ·have hW0 := hW5 e1
  subst hW0
  apply EvC.s1
  ·apply Tr.run
   ·simp only [go_sem, hzz, hbb, hfl2, hWl, List.length_nil, Int.natCast_zero, decide_eq_false e1] <;> rfl
   ·simp
   apply Tr.cons
   ·exact .callG rfl rfl (by simp only [go_sem] <;> rfl) rfl (by simp only [go_sem] <;> rfl) (by simp only [go_sem] <;> rfl) (by simp only [go_sem, hzz, hbb] <;> rfl) (by simp only [go_sem, hzz, hbb] <;> rfl) (by simp only [go_sem] <;> rfl) (q9)
   apply Tr.done
   ·simp only [go_sem] <;> rfl
   ·simp
  refine EvC.rz ?_
  simp only [go_sem]
end Go.Avl
