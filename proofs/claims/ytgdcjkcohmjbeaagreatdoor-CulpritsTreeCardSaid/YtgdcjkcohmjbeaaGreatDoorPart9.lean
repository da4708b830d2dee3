/-
  Lemmas.
-/
import Derived.Test.YtgdcjkcohmjbeaaGreatDoorPart8
set_option linter.unusedSimpArgs false
set_option linter.unusedVariables false
set_option linter.unnecessarySimpa false
set_option linter.deprecated false
namespace Go.Avl
open Go Go.Proofs.Tryz
set_option maxRecDepth 10000
theorem norefs_intC (l : List Int) : (l.map intC).all AV.norefs = true := by simp [List.all_eq_true, intC, AV.norefs, AV.noref]
theorem cloneI_new (es : List Int) (c : Cp) (hl : es.length < 1000000) (h0 : es.length ≠ 0) : PureNew prog 47 [.sl false (es.map intC) c] 1 (es.map intC) := by
 refine PureNew.of (nv := 1) (hid := [2, 4]) func47 rfl (by kernel_rfl) (by simp [ntmps47]) fun _ => ?_;rw [ntmps47, results47];refine EvC.a ?_;refine EvC.seq ?_;refine EvC.a ?_;refine EvC.cs ?_;have hr1 : room es.length 8 = true := by simp only [room_eq, decide_eq_true_eq]; omega
 have hr3 : ∀ a : Int, a ∈ es → (intC a).length = 1 := fun _ _ => rfl;refine EvC.a ?_ (by simp only [go_sem, List.length_map] <;> rfl) (by simp [hr1]; try exact hr3);refine EvC.ret ⟨.inl rfl, _, 5, (by simp only [go_sem, List.length_map] <;> rfl), .inl ?_, ?_, by simpa using h0, norefs_intC es⟩
 ·simp only [List.length_map]
 ·rfl
theorem cloneI_is (nl : Bool) (xs : List Int) (c : Cp) (hl : xs.length < 1000000) (hn : nl = true → xs = []) : PureIs prog 47 [.sl nl (xs.map intC) c] (.sl nl (xs.map intC) .unk) := by
 refine PureIs.of1 1 [2, 4] func47 ntmps47 results47 fun _ => ?_;refine EvC.a ?_;refine EvC.seq ?_;refine EvC.a ?_;cases nl with
 | true =>
   rw [hn rfl];refine EvC.ct ?_;refine EvC.a ?_;refine EvC.rz ?_;simp only [go_sem]
 | false =>
   refine EvC.cs ?_;have hr1 : room xs.length 8 = true := by simp only [room_eq, decide_eq_true_eq]; omega
   have hr3 : ∀ a : Int, a ∈ xs → (intC a).length = 1 := fun _ _ => rfl;refine EvC.a ?_ (by simp only [go_sem, List.length_map] <;> rfl) (by simp [hr1]; try exact hr3);have hnn := norefs_intC xs;refine EvC.frz 5 (by simp only [go_sem, List.length_map] <;> rfl) ?_;refine EvC.rz ?_;simp only [go_sem]
def lgL : List (List Int × List Int) → Nat
 | [] => 0
 | p :: ps => max p.2.length (lgL ps)
def lgA (a : Nat) : List (List Int × List Int) → Nat
 | [] => a
 | p :: ps => lgA (max a p.2.length) ps
theorem lgA_eq (a : Nat) : ∀ ps, lgA a ps = max a (lgL ps)
 | [] => by simp [lgA, lgL]
 | p :: ps => by rw [lgA, lgA_eq, lgL]; omega
theorem lgL_le {N : Nat} : ∀ {ps : List (List Int × List Int)}, (∀ p ∈ ps, p.2.length ≤ N) → lgL ps ≤ N
 | [], _ => Nat.zero_le _
 | p :: ps, h => by
   have := h p List.mem_cons_self;have := lgL_le fun q hq => h q (List.mem_cons_of_mem _ hq);rw [lgL]; omega
theorem dvL_bd {κ : Type} {eqB : κ → κ → Bool} {K : Int → κ} : ∀ (is : List Int) (ps : List (κ × List Int)) (N : Nat), (∀ p ∈ ps, p.2.length ≤ N) → ∀ p ∈ dvL eqB K is ps, p.2.length ≤ N + is.length
 | [], _, _, h, p, hp => h p hp
 | i :: is, ps, N, h, p, hp => by
   have := dvL_bd is (dvPut eqB (K i) i ps) (N + 1) (dvPut_bd h) p hp;rw [List.length_cons]; omega
def lgW (X : List Mach) (n : Nat) (w : List Int) : Nat := lgL (dvL eqI (respK X w) (idL n) [])
theorem lgW_le (X : List Mach) (n : Nat) (w : List Int) : lgW X n w ≤ n := by
 have h := lgL_le (dvL_bd (eqB := eqI) (K := respK X w) (idL n) [] 0 fun _ h => by cases h);have hl : (idL n).length = n := by simp [idL]
 rw [hl] at h;unfold lgW; omega
def nextF (X : List Mach) (n : Nat) : List (List Int) → List Int → Nat → List Int × Nat
 | [], b, l => (b, l)
 | w :: ws, b, l => if lgW X n w < l then nextF X n ws w (lgW X n w) else nextF X n ws b l
def nextA (m : Mach) (fs : List FA) (most : Int) : AV :=
 if mutErr m fs ≠ 0 then .tu [.sl true [] .unk, .sc (.int .i64 0), .sc (.int .i64 (mutErr m fs))]
 else if most < 1 ∨ 256 < most ∨ fs.length = 0 then .tu [.sl true [] .unk, .sc (.int .i64 0), .sc (.int .i64 1)]
 else if fewN m.ins.toNat most.toNat 1 = false then .tu [.sl true [] .unk, .sc (.int .i64 0), .sc (.int .i64 3)]
 else .tu [.sl false ((nextF (fs.map (mutF m)) fs.length (upL m.ins.toNat most.toNat) [] (fs.length + 1)).1.map intC) .full, .sc (.int .i64 (nextF (fs.map (mutF m)) fs.length (upL m.ins.toNat most.toNat) [] (fs.length + 1)).2), .sc (.int .i64 0)]
set_option maxHeartbeats 4000000 in
theorem next_is (m : Mach) (hm : ∀ r ∈ m.rows, r.2.length < 1000000) (hnn : NoNil m) (fn : Bool) (fs : List FA) (fc : Cp) (hfl : fs.length < 1000000) (most : Int) :
  PureIs prog 23 [.ag m.cells, .sl fn (fs.map FA.cells) fc, .sc (.int .i64 most)] (nextA m fs most) := by
 refine PureIs.of1 5 [6, 7, 8, 9, 10, 11, 12, 13, 14, 16, 24, 36, 41, 48, 49, 55, 56, 57, 58, 69] func23 ntmps23 results23 fun _ => ?_;refine EvC.a ?_ (by simp only [go_sem, Mach.cells] <;> rfl);refine EvC.z 0 ?_;refine EvC.z 1 ?_;have q := mutants_is m hm hnn fn fs fc hfl;unfold mutsA at q;unfold nextA;by_cases h0 : mutErr m fs = 0;rotate_left
 ·rw [if_neg h0] at q;rw [if_pos h0];refine EvC.k1 ?_ (h1 := by simp only [go_sem, Mach.cells] <;> rfl) (c1 := .ca q);refine EvC.seq ?_;refine EvC.a ?_;refine EvC.ct ?_ (by simp only [go_sem, decide_eq_false h0] <;> rfl);refine EvC.a ?_;refine EvC.rz ?_;simp only [go_sem]
 rw [if_pos h0] at q;rw [if_neg (show ¬ mutErr m fs ≠ 0 from fun h => h h0)];have hXv := mutsA_valid h0;have hXl : (fs.map (mutF m)).length = fs.length := List.length_map _;have hXi : ∀ x ∈ fs.map (mutF m), x.ins = m.ins := fun x hx => by obtain ⟨f, _, rfl⟩ := List.mem_map.1 hx; rfl
 generalize fs.map (mutF m) = X at q hXv hXl hXi ⊢;have hXn := norefs_machs X;have hfl2 := (mutErr_ok h0).2.1;refine EvC.k1 ?_ (h1 := by simp only [go_sem, Mach.cells] <;> rfl) (c1 := .ca q) (h2 := by simp only [go_sem, hXn] <;> rfl);refine EvC.z 11 ?_ (by simp only [go_sem, hXn] <;> rfl);refine EvC.seq ?_;refine EvC.a ?_;refine EvC.cs ?_;refine EvC.seq ?_;by_cases c1 : most < 1
 ·rw [if_pos (show most < 1 ∨ 256 < most ∨ fs.length = 0 from .inl c1)];refine EvC.g ?_ (h := by simp only [go_sem, decide_eq_true c1, List.length_map] <;> rfl);refine EvC.ct ?_;refine EvC.a ?_;refine EvC.rz ?_;simp only [go_sem]
 by_cases c2 : 256 < most
 ·rw [if_pos (show most < 1 ∨ 256 < most ∨ fs.length = 0 from .inr (.inl c2))];refine EvC.g ?_ (h := by simp only [go_sem, decide_eq_false c1, decide_eq_true c2, List.length_map] <;> rfl);refine EvC.ct ?_;refine EvC.a ?_;refine EvC.rz ?_;simp only [go_sem]
 by_cases c3 : (fs.length : Int) = 0
 ·rw [if_pos (show most < 1 ∨ 256 < most ∨ fs.length = 0 from .inr (.inr (by omega)))];refine EvC.g ?_ (h := by simp only [go_sem, decide_eq_false c1, decide_eq_false c2, decide_eq_true c3, List.length_map] <;> rfl);refine EvC.ct ?_;refine EvC.a ?_;refine EvC.rz ?_;simp only [go_sem]
 rw [if_neg (show ¬ (most < 1 ∨ 256 < most ∨ fs.length = 0) by omega)];refine EvC.g ?_ (h := by simp only [go_sem, decide_eq_false c1, decide_eq_false c2, decide_eq_false c3, List.length_map] <;> rfl);refine EvC.cs ?_;have hv := Valid.of (mutErr_ok h0).1;have hins := hv.ins;obtain ⟨K, hK⟩ : ∃ K : Nat, K = m.ins.toNat := ⟨_, rfl⟩;obtain ⟨N, hN⟩ : ∃ N : Nat, N = most.toNat := ⟨_, rfl⟩;have hKi : m.ins = (K : Int) := by omega
 obtain rfl : most = (N : Int) := by omega
 rw [← hK, ← hN];have q1 := few_is K N (by omega) (by omega);rw [← hKi] at q1;refine EvC.seq ?_;refine EvC.k1 ?_ (h1 := by simp only [go_sem, Mach.cells] <;> rfl) (c1 := .ca q1);obtain hfw | hfw : fewN K N 1 = false ∨ fewN K N 1 = true := by cases fewN K N 1 <;> simp
 ·rw [if_pos hfw];refine EvC.ct ?_ (by simp only [go_sem, hfw] <;> rfl);refine EvC.a ?_;refine EvC.rz ?_;simp only [go_sem]
 rw [if_neg (show ¬ fewN K N 1 = false by rw [hfw]; simp)];refine EvC.cs ?_ (by simp only [go_sem, hfw] <;> rfl);refine EvC.a ?_;refine EvC.a ?_ (by simp only [go_sem, List.length_map] <;> rfl) (by exact inI64_of (by omega) (by omega));have q2 := upto_is m.ins N;refine EvC.ownC 32 0 1 (by simp only [go_sem] <;> rfl) ?_;refine EvC.thaw 38 (by simp only [go_sem] <;> rfl) ?_;refine EvC.seq ?_;refine EvC.k1 ?_ (h1 := by simp only [go_sem, Mach.cells] <;> rfl) (c1 := .ca q2);refine EvC.gcTo ⟨[(4, .ia [.sl fn (fs.map FA.cells) fc]), (9, .ia [.sl fs.isEmpty (X.map Mach.cells) .unk]), (11, .rf 0 0), (12, .rf 2 0), (48, .fn 76 [.ia [.sc (.int .i64 N)], .ia [.sc (.int .i64 m.ins)]])], [], [(0, .cells [.tl 1 0 true]), (2, .cells [.sc (.int .i64 ((fs.length : Int) + 1))]), (1, .arr 1 [] false)], 3⟩ [4, 9, 11, 12, 48] [(32, 0), (36, 2), (38, 1)] rfl (by simp only [go_sem] <;> rfl) ?_;have hpk : ∀ p ∈ (#[49] : Array Nat), p < 76 := by decide
 have hseq := upto1_seq K N (by omega) (by omega) (by omega);rw [← hKi] at hseq;have hmem : ∀ w ∈ upL K N, 1 ≤ w.length ∧ w.length ≤ N ∧ ∀ a ∈ w, 0 ≤ a ∧ a < K := fun w hw => upL_mem (by omega) hw;have hne : upL K N ≠ [] := by
  obtain ⟨N', rfl⟩ : ∃ k, N = k + 1 := ⟨N - 1, by omega⟩;intro e;have h1 := congrArg List.length e;have h2 : 0 < K ^ (N' + 1) := Nat.pow_pos (by omega);rw [upL, List.length_append, wdl_len] at h1;simp only [List.length_nil] at h1;omega
 generalize upL K N = W at hseq hmem hne ⊢;obtain ⟨n, hn⟩ : ∃ n, n = fs.length := ⟨_, rfl⟩;rw [← hn] at hXl hfl2 ⊢;refine EvC.block ?_;refine EvC.rangeN rfl (fun _ => rfl) (gf := 76) (caps := [.ia [.sc (.int .i64 N)], .ia [.sc (.int .i64 m.ins)]]) (xs := W) (σ := List Int × Nat × Nat) (by simp only [go_sem] <;> rfl) rfl hseq (fun x hx e => by have := hmem x hx; rw [e] at this; simp at this) rfl hpk (Nat.zero_le _) 4 (by simp)
  (fun _ s => [(0, .cells [.tl s.2.2 s.1.length s.1.isEmpty]), (2, .cells [.sc (.int .i64 s.2.1)]), (s.2.2, .arr 1 (s.1.map intC) false)]) (fun k s => nextF X n (W.drop k) s.1 s.2.1 = nextF X n W [] (n + 1) ∧ s.2.1 ≤ n + 1 ∧ s.1.length ≤ 256 ∧ (k = 0 → s.2.1 = n + 1) ∧ (0 < k → s.1.isEmpty = false) ∧ (s.2.2 = 1 ∨ s.2.2 = 3)) ?_ ?_ ?_ ?_
 ·intro k s _;simp [memFf, RObj.ff, AV.ffs, AV.ff, intC, List.all_eq_true]
 ·exact ⟨([], n + 1, 1), (by simp only [go_sem, List.map_nil, List.length_nil, List.isEmpty_nil, Int.natCast_add, Int.natCast_one] <;> rfl), rfl, Nat.le_refl _, by simp, fun _ => rfl, fun h => by omega, .inl rfl⟩
 rotate_left
 ·rintro ⟨b, l, id⟩ ⟨e1, e2, e3, e4, e5, e6⟩;simp only at e1 e2 e3 e4 e5 e6 ⊢;have hWl : 0 < W.length := List.length_pos_iff.2 hne;have e5 := e5 hWl;rw [List.drop_length, nextF] at e1;rw [← e1];simp only;have q5 := clipI_is false (b.map intC) .unk (by simp [List.all_eq_true, intC]);rcases e6 with rfl | rfl
  ·refine EvC.frzD 1 (by simp only [go_sem, List.length_map] <;> rfl) ?_;refine EvC.k1D mixed ?_ (h1 := by simp only [go_sem, List.length_map, e5] <;> rfl) (c1 := .ca q5);refine EvC.rz ?_;simp only [go_sem]
  ·refine EvC.frzD 3 (by simp only [go_sem, List.length_map] <;> rfl) ?_;refine EvC.k1D mixed ?_ (h1 := by simp only [go_sem, List.length_map, e5] <;> rfl) (c1 := .ca q5);refine EvC.rz ?_;simp only [go_sem]
 rintro j ⟨b, l, id⟩ lp hj ⟨e1, e2, e3, e4, e5, e6⟩;simp only at e1 e2 e3 e4 e5 e6 ⊢;have hwm := hmem _ (List.getElem_mem hj);have hdr : W.drop j = W[j] :: W.drop (j + 1) := List.drop_eq_getElem_cons hj;rw [hdr, nextF] at e1;clear hdr;generalize W[j] = w at hwm e1 ⊢;rw [map_lent];refine EvC.b ?_;refine ⟨rfl, ?_⟩;refine EvC.block ?_;refine EvC.a ?_;refine EvC.seq ?_;have hidm : ∀ i ∈ idL n, 0 ≤ i ∧ i < X.length := fun i hi => by
  obtain ⟨j, hj, rfl⟩ := List.mem_map.1 hi;have := List.mem_range.1 hj;exact ⟨Int.natCast_nonneg j, by rw [hXl]; exact Int.ofNat_lt.2 this⟩
 have hidl : (idL n).length = n := by simp [idL]
 have q3 := everybody_is n (by omega);have q4 := responses_is fs.isEmpty X .unk false (idL n) .full false w .unk hidm hXv (fun x hx => by
  have := hXi x hx;exact wordErr_of (by omega) (by omega) fun a ha => by have := hwm.2.2 a ha; omega) (by omega) (by omega)
 apply EvC.seq;apply EvC.drw mixed
 ·apply Tr.run
  ·simp only [go_sem, List.length_map, ← hn] <;> rfl
  ·simp
  apply Tr.cons
  ·exact .call rfl rfl (by simp only [go_sem] <;> rfl) (by simp only [go_sem] <;> rfl) (by simp only [go_sem] <;> rfl) (by simp only [go_sem, hXn] <;> rfl) (by simp only [go_sem] <;> rfl) (q3)
  apply Tr.run
  ·simp only [go_sem, List.length_map, ← hn] <;> rfl
  ·simp
  apply Tr.cons
  ·exact .call rfl rfl (by simp only [go_sem] <;> rfl) (by simp only [go_sem] <;> rfl) (by simp only [go_sem] <;> rfl) (by simp only [go_sem, hXn] <;> rfl) (by simp only [go_sem] <;> rfl) (q4)
  apply Tr.done
  ·simp only [go_sem, List.length_map] <;> rfl
  ·simp
 ·kernel_rfl
 have hlgW : lgW X n w = lgL (dvL eqI (respK X w) (idL n) []) := rfl;have hlg := lgW_le X n w;have hpl := dvL_len (eqB := eqI) (K := respK X w) (idL n) [];simp only [List.length_nil, Nat.zero_add] at hpl;rw [hlgW] at e1 hlg;generalize dvL eqI (respK X w) (idL n) [] = ps at e1 hlg hpl ⊢;have hpn := partC_norefs (kc := keyI) keyI_norefs ps;refine EvC.block ?_;refine EvC.loopS (σ := Nat × Nat) (fun g => ⟨[(4, .ia [.sl fn (fs.map FA.cells) fc]), (9, .ia [.sl fs.isEmpty (X.map Mach.cells) .unk]), (11, .rf 0 0), (12, .rf 2 0), (13, .sl false (w.map intC) .unk), (14, .sc (.int .i64 g.2)), (48, .fn 76 [.ia [.sc (.int .i64 N)], .ia [.sc (.int .i64 m.ins)]]), (55, .sl (idL n).isEmpty (ps.map (partC keyI)) .unk), (56, .sc (.int .i64 ps.length)), (57, .sc (.int .i64 g.1))], [], [(0, .cells [.tl id b.length b.isEmpty]), (2, .cells [.sc (.int .i64 l)]), (id, .arr 1 (b.map intC) false)], 4⟩) (fun g => ps.length - g.1) (fun g => g.1 ≤ ps.length ∧ lgA g.2 (ps.drop g.1) = lgL ps) [4, 9, 11, 12, 13, 14, 48, 55, 56, 57] 4 ?_ ?_
 ·refine ⟨[(0, 0), (2, 2), (id, id)], (0, 0), ?_, ?_, Nat.zero_le _, by simp [lgA_eq]⟩
  ·rcases e6 with rfl | rfl <;> rfl
  ·rcases e6 with rfl | rfl <;> simp only [go_sem, Int.natCast_zero, List.length_map] <;> rfl
 rintro ⟨i, lg⟩ ⟨i1, i2⟩;simp only at i1 i2 ⊢;refine EvC.a ?_;refine EvC.seq ?_;refine EvC.cond (by simp only [go_sem] <;> rfl) (fun hc => ?_) (fun hc => ?_);rotate_left
 ·refine EvC.exit ?_;obtain rfl : i = ps.length := by have : ¬ i < ps.length := (by simpa using hc); omega
  rw [List.drop_length, lgA] at i2;subst i2;clear hc;refine EvC.a ?_;by_cases hlt : lgL ps < l
  ·have hlt2 : (lgL ps : Int) < l := by omega
   rw [if_pos hlt] at e1;have q6 := cloneI_new w .unk (by omega) (by omega)
   have hwe : w.isEmpty = false := by cases w with
    | nil => simp at hwm
    | cons a w => rfl
   refine EvC.ct ?_ (by simp only [go_sem, decide_eq_true hlt2] <;> rfl);rcases e6 with rfl | rfl
   ·apply EvC.tr
    ·apply Tr.run
     ·simp only [go_sem] <;> rfl
     ·simp
     apply Tr.cons
     ·exact .callN rfl rfl (by simp only [go_sem] <;> rfl) (by simp only [go_sem] <;> rfl) (by simp only [go_sem] <;> rfl) (by simp only [go_sem] <;> rfl) (by simp only [go_sem] <;> rfl) q6
     apply Tr.done
     ·simp only [go_sem, List.length_map] <;> rfl
     ·simp
    exact ⟨[(0, 0), (2, 2), (9, 3)], (w, lgL ps, 3), rfl, (by simp only [go_sem, hwe, List.length_map] <;> rfl), e1, by simp only; omega, by simp only; omega, fun h => by omega, fun _ => hwe, .inr rfl⟩
   ·apply EvC.tr
    ·apply Tr.run
     ·simp only [go_sem] <;> rfl
     ·simp
     apply Tr.cons
     ·exact .callN rfl rfl (by simp only [go_sem] <;> rfl) (by simp only [go_sem] <;> rfl) (by simp only [go_sem] <;> rfl) (by simp only [go_sem] <;> rfl) (by simp only [go_sem] <;> rfl) q6
     apply Tr.done
     ·simp only [go_sem, List.length_map] <;> rfl
     ·simp
    exact ⟨[(0, 0), (2, 2), (9, 3)], (w, lgL ps, 3), rfl, (by simp only [go_sem, hwe, List.length_map] <;> rfl), e1, by simp only; omega, by simp only; omega, fun h => by omega, fun _ => hwe, .inr rfl⟩
  ·have hlt2 : ¬ (lgL ps : Int) < l := by omega
   rw [if_neg hlt] at e1;refine EvC.cs ?_ (by simp only [go_sem, decide_eq_false hlt2] <;> rfl);refine ⟨[(0, 0), (2, 2), (id, id)], (b, l, id), ?_, ?_, ⟨e1, e2, e3, fun h => by omega, fun _ => ?_, e6⟩⟩
   ·rcases e6 with rfl | rfl <;> rfl
   ·rcases e6 with rfl | rfl <;> simp only [go_sem] <;> rfl
   ·by_cases hj0 : 0 < j
    ·exact e5 hj0
    ·have := e4 (by omega); omega
 have hil : i < ps.length := by simpa using hc
 clear hc;have hpe : ps[i]? = some ps[i] := List.getElem?_eq_getElem hil;have hdr : ps.drop i = ps[i] :: ps.drop (i + 1) := List.drop_eq_getElem_cons hil;generalize ps[i] = p at hpe hdr;obtain ⟨px, pw⟩ := p;rw [hdr, lgA] at i2;simp only at i2;have hp2 : (ps.map (partC keyI))[i]? = some (partC keyI (px, pw)) := by rw [List.getElem?_map, hpe]; rfl
 simp only [partC, keyI, List.cons_append, List.nil_append] at hp2;obtain ⟨kZ, hkZ⟩ : ∃ z : Int, z = (i : Int) := ⟨_, rfl⟩;have hkt : kZ.toNat = i := by omega
 rw [← hkZ];refine EvC.skip ?_;refine EvC.seq ?_;refine EvC.block ?_;refine EvC.a ?_ (by simp only [go_sem, hp2, hkt, List.length_map] <;> rfl) (by simp; omega);have hmx : (if (lg : Int) ≤ (pw.length : Int) then (pw.length : Int) else (lg : Int)) = ((max lg pw.length : Nat) : Int) := by split <;> omega
 refine EvC.b ?_ (by simp only [go_sem, List.length_map, hmx] <;> rfl);refine EvC.b ?_ (hok := by exact inI64_of (by omega) (by omega));refine ⟨[(0, 0), (2, 2), (id, id)], (i + 1, max lg pw.length), ?_, ?_, ⟨hil, i2⟩, by simp only; omega⟩
 ·rcases e6 with rfl | rfl <;> rfl
 ·rw [hkZ];rcases e6 with rfl | rfl <;> simp only [go_sem, hmx, List.length_map, Int.natCast_add, Int.natCast_one] <;> rfl
theorem bothR_zero {a b : Mach} (ha : Valid a) (hb : Valid b) (hab : a.ins = b.ins) : bothR a b = 0 := by
 unfold bothR;rw [if_neg (fun h => h (checkM_of ha)), if_neg (fun h => h (checkM_of hb)), if_neg (fun h => h hab)]
def firstD (X : List Mach) (a : Int) : List Int → List Int
 | [] => []
 | i :: r => if (diffO (atM X a) (atM X i)).isSome = true then diffW (atM X a) (atM X i) else firstD X a r
def wordX (X : List Mach) : List Int → List Int
 | [] => []
 | a :: r => firstD X a r
theorem diffW_empty (a b : Mach) : (diffW a b).isEmpty = (diffO a b).isNone := by
 have := diffW_pos a b;cases h : diffO a b with
 | none => unfold diffW; rw [h]; rfl
 | some z =>
   rw [h] at this;cases hw : diffW a b with
   | nil => rw [hw] at this; simp at this
   | cons x w => rfl
theorem word59_is (xn : Bool) (X : List Mach) (xc : Cp) (a : Int) (r : List Int) (k : Int) (hX : ∀ m ∈ X, Valid m ∧ m.ins = k) (hwho : ∀ i ∈ a :: r, 0 ≤ i ∧ i < X.length) (hl : r.length < 1000000) :
  PureIs prog 16 [.sl xn (X.map Mach.cells) xc, .sl false ((a :: r).map intC) .full] (.sl (wordX X (a :: r)).isEmpty ((wordX X (a :: r)).map intC) .unk) := by
 have hXn := norefs_machs X;have ha := hwho a List.mem_cons_self;have hxa := atM_get (X := X) (i := a) (by omega);have hva : Valid (atM X a) ∧ (atM X a).ins = k := hX _ (by rw [atM, List.getD_eq_getElem?_getD, List.getElem?_eq_getElem (show a.toNat < X.length by omega)]; exact List.getElem_mem _);refine PureIs.of1 10 [11, 12, 13, 14, 32] func16 ntmps16 results16 fun _ => ?_;refine EvC.a ?_;refine EvC.seq ?_;refine EvC.a ?_ (by simp only [go_sem, List.map_cons, List.length_cons, List.length_map] <;> rfl) (by simp [intC]; try omega);refine EvC.block ?_;refine EvC.loopS (σ := Nat) (fun i => ⟨[(0, .sl xn (X.map Mach.cells) xc), (1, .sl false (intC a :: r.map intC) .full), (11, .sl false (r.map intC) .full), (12, .sc (.int .i64 r.length)), (13, .sc (.int .i64 i))], [], [], 0⟩) (fun i => r.length - i) (fun i => i ≤ r.length ∧ firstD X a r = firstD X a (r.drop i)) [0, 1, 11, 12, 13] 0 ?_ ?_
 ·exact ⟨[], 0, rfl, (by simp only [go_sem, Int.natCast_zero, List.length_map] <;> rfl), Nat.zero_le _, rfl⟩
 rintro i ⟨h1, h2⟩;refine EvC.a ?_;refine EvC.seq ?_;refine EvC.cond (by simp only [go_sem] <;> rfl) (fun hc => ?_) (fun hc => ?_);rotate_left
 ·refine EvC.exit ?_;obtain rfl : i = r.length := by have : ¬ i < r.length := (by simpa using hc); omega
  rw [List.drop_length] at h2;have h2 : firstD X a r = [] := h2;rw [wordX, h2];refine EvC.a ?_;refine EvC.rz ?_;simp only [go_sem]
 have hil : i < r.length := by simpa using hc
 clear hc;have he : r[i]? = some r[i] := List.getElem?_eq_getElem hil;have hdr : r.drop i = r[i] :: r.drop (i + 1) := List.drop_eq_getElem_cons hil;have hb := hwho _ (List.mem_cons_of_mem _ (List.getElem_mem hil));generalize r[i] = b at he hdr hb;rw [hdr, firstD] at h2;have hxb := atM_get (X := X) (i := b) (by omega);have hvb : Valid (atM X b) ∧ (atM X b).ins = k := hX _ (by rw [atM, List.getD_eq_getElem?_getD, List.getElem?_eq_getElem (show b.toNat < X.length by omega)]; exact List.getElem_mem _);have hit : ((i : Int)).toNat = i := Int.toNat_natCast i;have q := equals_differ_is (atM X a) (atM X b) hva.1.small hvb.1.small;have hwe := diffW_empty (atM X a) (atM X b);rw [differA, if_pos (bothR_zero hva.1 hvb.1 (by rw [hva.2, hvb.2]))] at q;have q := q.weakR;simp only [AV.unk, AV.unks, unkss_map intC (fun _ => rfl)] at q;generalize atM X a = ma at hxa q hwe h2;generalize atM X b = mb at hxb q hwe h2;refine EvC.skip ?_;refine EvC.seq ?_;refine EvC.block ?_;refine EvC.a ?_ (by simp only [go_sem, he, intC, hit, List.length_map] <;> rfl) (by simp; try omega);refine EvC.k1D mixed ?_ (h1 := by simp only [go_sem, intC, hxa, hxb, Mach.cells, List.length_map, List.length_cons] <;> rfl) (k1 := by simp; try omega) (c1 := .ca q);refine EvC.a ?_;obtain hd | hd : (diffO ma mb).isSome = true ∨ (diffO ma mb).isSome = false := by cases diffO ma mb <;> simp
 ·have hn : (diffO ma mb).isNone = false := by cases h : diffO ma mb <;> simp [h] at hd ⊢
  rw [if_pos hd] at h2;rw [wordX, h2, hwe, hn];refine EvC.ct ?_ (by simp only [go_sem, hd] <;> rfl);refine EvC.a ?_;refine EvC.rz ?_;simp only [go_sem]
 ·rw [if_neg (by rw [hd]; simp)] at h2;refine EvC.cs ?_ (by simp only [go_sem, hd] <;> rfl);refine EvC.b ?_ (hok := by exact inI64_of (by omega) (by omega));exact ⟨[], i + 1, rfl, (by simp only [go_sem, Int.natCast_add, Int.natCast_one, intC] <;> rfl), ⟨hil, h2⟩, by omega⟩
section
variable {κ : Type} {eqB : κ → κ → Bool} {K : Int → κ}
def sumP (ps : List (κ × List Int)) : Nat := (ps.map fun p => p.2.length).sum
theorem dvPut_sum (x : κ) (i : Int) : ∀ (ps : List (κ × List Int)), sumP (dvPut eqB x i ps) = sumP ps + 1
 | [] => rfl
 | p :: ps => by
   rw [dvPut];split
   ·simp only [sumP, List.map_cons, List.sum_cons, List.length_append, List.length_cons, List.length_nil]; omega
   ·have := dvPut_sum x i ps;simp only [sumP, List.map_cons, List.sum_cons] at this ⊢; omega
theorem dvL_sum : ∀ (is : List Int) (ps : List (κ × List Int)), sumP (dvL eqB K is ps) = sumP ps + is.length
 | [], _ => rfl
 | i :: is, ps => by rw [dvL, dvL_sum is, dvPut_sum, List.length_cons]; omega
theorem dvPut_all {Q : κ → List Int → Prop} (x : κ) (i : Int) (h1 : Q x [i]) (h2 : ∀ k l, Q k l → eqB k x = true → Q k (l ++ [i])) : ∀ (ps : List (κ × List Int)), (∀ p ∈ ps, Q p.1 p.2) → ∀ p ∈ dvPut eqB x i ps, Q p.1 p.2
 | [], _, p, hp => by rw [dvPut, List.mem_singleton] at hp; subst hp; exact h1
 | q :: ps, h, p, hp => by
   rw [dvPut] at hp;split at hp
   ·rename_i he;rcases List.mem_cons.1 hp with rfl | hp
    ·exact h2 _ _ (h q List.mem_cons_self) he
    ·exact h p (List.mem_cons_of_mem _ hp)
   ·rcases List.mem_cons.1 hp with rfl | hp
    ·exact h _ List.mem_cons_self
    ·exact dvPut_all x i h1 h2 ps (fun r hr => h r (List.mem_cons_of_mem _ hr)) p hp
theorem dvL_all {Q : κ → List Int → Prop} : ∀ (is : List Int), (∀ i ∈ is, Q (K i) [i] ∧ ∀ k l, Q k l → eqB k (K i) = true → Q k (l ++ [i])) → ∀ (ps : List (κ × List Int)), (∀ p ∈ ps, Q p.1 p.2) → ∀ p ∈ dvL eqB K is ps, Q p.1 p.2
 | [], _, _, h, p, hp => h p hp
 | i :: is, hs, ps, h, p, hp => by
   obtain ⟨h1, h2⟩ := hs i List.mem_cons_self;exact dvL_all is (fun j hj => hs j (List.mem_cons_of_mem _ hj)) _ (dvPut_all _ _ h1 h2 ps h) p hp
theorem dvPut_mem (x : κ) (i : Int) : ∀ (ps : List (κ × List Int)), ∃ p ∈ dvPut eqB x i ps, i ∈ p.2
 | [] => ⟨(x, [i]), by simp [dvPut], by simp⟩
 | q :: ps => by
   rw [dvPut];split
   ·exact ⟨(q.1, q.2 ++ [i]), List.mem_cons_self, by simp⟩
   ·obtain ⟨p, h1, h2⟩ := dvPut_mem x i ps;exact ⟨p, List.mem_cons_of_mem _ h1, h2⟩
theorem dvPut_keep {x : κ} {i j : Int} : ∀ {ps : List (κ × List Int)}, (∃ p ∈ ps, j ∈ p.2) → ∃ p ∈ dvPut eqB x i ps, j ∈ p.2
 | [], ⟨p, h, _⟩ => by cases h
 | q :: ps, ⟨p, h, hj⟩ => by
   rw [dvPut];split
   ·rcases List.mem_cons.1 h with rfl | h
    ·exact ⟨(p.1, p.2 ++ [i]), List.mem_cons_self, List.mem_append_left _ hj⟩
    ·exact ⟨p, List.mem_cons_of_mem _ h, hj⟩
   ·rcases List.mem_cons.1 h with rfl | h
    ·exact ⟨p, List.mem_cons_self, hj⟩
    ·obtain ⟨p', h1, h2⟩ := dvPut_keep (x := x) (i := i) ⟨p, h, hj⟩;exact ⟨p', List.mem_cons_of_mem _ h1, h2⟩
theorem dvL_keep {j : Int} : ∀ (is : List Int) {ps : List (κ × List Int)}, (∃ p ∈ ps, j ∈ p.2) → ∃ p ∈ dvL eqB K is ps, j ∈ p.2
 | [], _, h => h
 | i :: is, ps, h => dvL_keep is (dvPut_keep h)
theorem dvL_mem {j : Int} : ∀ (is : List Int) (ps : List (κ × List Int)), j ∈ is → ∃ p ∈ dvL eqB K is ps, j ∈ p.2
 | i :: is, ps, h => by
   rcases List.mem_cons.1 h with rfl | h
   ·exact dvL_keep is (dvPut_mem _ _ ps)
   ·exact dvL_mem is _ h
theorem dvL_ne2 (is : List Int) : ∀ p ∈ dvL eqB K is [], p.2 ≠ [] :=
 dvL_all (Q := fun _ l => l ≠ []) is (fun i _ => ⟨by simp, fun k l _ _ => by simp⟩) [] (fun p h => by cases h)
theorem dvL_sub (is : List Int) : ∀ p ∈ dvL eqB K is [], ∀ i ∈ p.2, i ∈ is := by
 refine dvL_all (Q := fun _ l => ∀ i ∈ l, i ∈ is) is (fun i hi => ⟨fun j hj => ?_, fun k l h _ j hj => ?_⟩) [] (fun p h => by cases h)
 ·rw [List.mem_singleton] at hj; subst hj; exact hi
 ·rcases List.mem_append.1 hj with hj | hj
  ·exact h j hj
  ·rw [List.mem_singleton] at hj; subst hj; exact hi
end
theorem dvI_key {K : Int → List Int} (is : List Int) : ∀ p ∈ dvL eqI K is [], ∀ i ∈ p.2, K i = p.1 := by
 refine dvL_all (Q := fun k l => ∀ i ∈ l, K i = k) is (fun i _ => ⟨fun j hj => ?_, fun k l h he j hj => ?_⟩) [] (fun p h => by cases h)
 ·rw [List.mem_singleton] at hj; subst hj; rfl
 ·rcases List.mem_append.1 hj with hj | hj
  ·exact h j hj
  ·rw [List.mem_singleton] at hj; subst hj;simp only [eqI, decide_eq_true_eq] at he; exact he.symm
theorem dvI_two {K : Int → List Int} {is : List Int} {i j : Int} (hi : i ∈ is) (hj : j ∈ is) (h : K i ≠ K j) : 2 ≤ (dvL eqI K is []).length := by
 obtain ⟨p, h1, h2⟩ := dvL_mem (eqB := eqI) (K := K) is [] hi;obtain ⟨q, h3, h4⟩ := dvL_mem (eqB := eqI) (K := K) is [] hj;have k1 := dvI_key is p h1 i h2;have k2 := dvI_key is q h3 j h4
 match hp : dvL eqI K is [] with
 | [] => rw [hp] at h1; cases h1
 | [r] =>
   rw [hp] at h1 h3;rw [List.mem_singleton] at h1 h3;subst h1; subst h3;exact absurd (k1.trans k2.symm) h
 | _ :: _ :: _ => simp
theorem dvI_nodup {K : Int → List Int} : ∀ (is : List Int) (ps : List (List Int × List Int)), (ps.map (·.1)).Nodup → ((dvL eqI K is ps).map (·.1)).Nodup
 | [], _, h => h
 | i :: is, ps, h => by
   refine dvI_nodup is _ ?_;have key : ∀ (ps : List (List Int × List Int)), (ps.map (·.1)).Nodup → ((dvPut eqI (K i) i ps).map (·.1)).Nodup ∧ ∀ k ∈ (dvPut eqI (K i) i ps).map (·.1), k ∈ ps.map (·.1) ∨ k = K i := by
    intro ps
    induction ps with
    | nil => intro _; simp [dvPut]
    | cons q ps ih =>
      intro h;rw [List.map_cons, List.nodup_cons] at h;obtain ⟨k1, k2⟩ := ih h.2;rw [dvPut];split
      ·refine ⟨by rw [List.map_cons, List.nodup_cons]; exact h, fun k hk => .inl (by simpa using hk)⟩
      ·rename_i he;have hne : q.1 ≠ K i := by simpa [eqI] using he
       refine ⟨?_, fun k hk => ?_⟩
       ·rw [List.map_cons, List.nodup_cons];refine ⟨fun hm => ?_, k1⟩;rcases k2 _ hm with h' | h'
        ·exact h.1 h'
        ·exact hne h'
       ·rw [List.map_cons, List.mem_cons] at hk;rcases hk with rfl | hk
        ·exact .inl (by simp)
        ·rcases k2 _ hk with h' | h'
         ·exact .inl (by rw [List.map_cons]; exact List.mem_cons_of_mem _ h')
         ·exact .inr h'
   exact (key ps h).1
theorem diffW_bd {a b : Mach} (ha : Valid a) (hb : Valid b) (hab : a.ins = b.ins) : (diffW a b).length ≤ 127 ∧ ∀ i ∈ diffW a b, 0 ≤ i ∧ i < a.ins := by
 have h1 := ha.rows;have h2 := hb.rows;have h3 := ha.ins;rcases diff_least ha hb hab with ⟨_, hL⟩ | ⟨_, h, _⟩
 ·refine ⟨?_, fun i hi => by have := hL.1 i hi; omega⟩;have hw := besM_wv ha hb hab;have hl := besM_len a b;obtain ⟨N, hN⟩ : ∃ N, N = a.rows.length + b.rows.length - 1 := ⟨_, rfl⟩;have e : ∀ v, WOk a.ins.toNat v → runR (besM a b) ((0 : Nat) : Int) v = runR a 0 v ∧ runR (besM a b) (a.rows.length : Int) v = runR b 0 v := fun v hv => by
   have q1 := bes_runa ha b v 0 (by omega) fun i hi => by have := hv i hi; omega
   have q2 := bes_runb a hb v 0 (by omega) (by omega) fun i hi => by have := hv i hi; omega
   rw [Int.add_zero] at q2;exact ⟨q1, q2⟩
  have hna : ¬ Alike (besM a b) N 0 a.rows.length := fun hal => by
   have := alike_all hw (k := N) (by omega) (by omega) (by omega) hal _ hL.1;rw [(e _ hL.1).1, (e _ hL.1).2] at this;exact hL.2.1 this
  simp only [Alike, Classical.not_forall] at hna;obtain ⟨v, v1, v2, v3⟩ := hna;have v1 : WOk a.ins.toNat v := v1;rw [(e v v1).1, (e v v1).2] at v3;have := rank_lt_len v1 (hL.2.2 v v1 v3);omega
 ·rw [h]; exact ⟨by simp, fun i hi => by cases hi⟩
theorem firstD_spec {X : List Mach} {a : Int} : ∀ {r : List Int}, (firstD X a r = [] ∧ ∀ i ∈ r, diffO (atM X a) (atM X i) = none) ∨ ∃ i ∈ r, (diffO (atM X a) (atM X i)).isSome = true ∧ firstD X a r = diffW (atM X a) (atM X i) ∧ firstD X a r ≠ []
 | [] => .inl ⟨rfl, fun i h => by cases h⟩
 | i :: r => by
   rw [firstD];split
   ·rename_i h;refine .inr ⟨i, List.mem_cons_self, h, rfl, fun e => ?_⟩;have := diffW_empty (atM X a) (atM X i);rw [e] at this;cases hd : diffO (atM X a) (atM X i) <;> simp [hd] at h this
   ·rename_i h;rcases firstD_spec (X := X) (a := a) (r := r) with ⟨h1, h2⟩ | ⟨j, h1, h2⟩
    ·refine .inl ⟨h1, fun j hj => ?_⟩;rcases List.mem_cons.1 hj with rfl | hj
     ·cases hd : diffO (atM X a) (atM X j) <;> simp [hd] at h ⊢
     ·exact h2 j hj
    ·exact .inr ⟨j, List.mem_cons_of_mem _ h1, h2⟩
structure Nd where
 sus : List Int
 word : List Int
 br : List (List Int × Int)
def brC (b : List Int × Int) : List AV := [.sl false (b.1.map intC) .full, .sc (.int .i64 b.2)]
def wAV (w : List Int) : AV := .sl w.isEmpty (w.map intC) (if w.isEmpty then .zer else .full)
def bAV (bs : List (List Int × Int)) : AV := .sl bs.isEmpty (bs.map brC) (if bs.isEmpty then .zer else .full)
def ndC (d : Nd) : List AV := [.sl false (d.sus.map intC) .full, wAV d.word, bAV d.br]
def kidL (ps : List (List Int × List Int)) : List Nd := ps.map fun p => ⟨p.2, [], []⟩
def brsF : List (List Int × List Int) → Nat → List (List Int × Int)
 | [], _ => []
 | p :: ps, t => (p.1, (t : Int)) :: brsF ps (t + 1)
def partsX (X : List Mach) (s w : List Int) : List (List Int × List Int) := dvL eqI (respK X w) s []
def dgStep (X : List Mach) (out : List Nd) (n : Nat) : List Nd :=
 match out[n]? with
 | none => out
 | some d => if wordX X d.sus = [] then out else out.set n ⟨d.sus, wordX X d.sus, brsF (partsX X d.sus (wordX X d.sus)) out.length⟩ ++ kidL (partsX X d.sus (wordX X d.sus))
def dgF (X : List Mach) : Nat → List Nd → Nat → List Nd
 | 0, out, _ => out
 | f + 1, out, n => if n < out.length then dgF X f (dgStep X out n) (n + 1) else out
def diagL (X : List Mach) (N : Nat) : List Nd := dgF X (2 * N) [⟨idL N, [], []⟩] 0
theorem brsF_len : ∀ (ps : List (List Int × List Int)) (t : Nat), (brsF ps t).length = ps.length
 | [], _ => rfl
 | p :: ps, t => by rw [brsF, List.length_cons, brsF_len ps, List.length_cons]
theorem brsF_get : ∀ {ps : List (List Int × List Int)} {t k : Nat} {p : List Int × List Int}, ps[k]? = some p → (brsF ps t)[k]? = some (p.1, ((t + k : Nat) : Int))
 | [], _, _, _, h => by simp at h
 | q :: ps, t, 0, p, h => by
   simp only [List.getElem?_cons_zero, Option.some.injEq] at h;subst h; rfl
 | q :: ps, t, k + 1, p, h => by
   have := brsF_get (t := t + 1) (show ps[k]? = some p by simpa using h);rw [brsF, List.getElem?_cons_succ, this, show t + 1 + k = t + (k + 1) by omega]
def wgt (l : List Nd) : Nat := (l.map fun d => 2 * (d.sus.length - 1)).sum
theorem wgt_app (a b : List Nd) : wgt (a ++ b) = wgt a + wgt b := by simp [wgt]
theorem wgt_kids : ∀ {ps : List (List Int × List Int)}, (∀ p ∈ ps, p.2 ≠ []) → wgt (kidL ps) + 2 * ps.length = 2 * sumP ps
 | [], _ => rfl
 | p :: ps, h => by
   have h1 := wgt_kids fun q hq => h q (List.mem_cons_of_mem _ hq);have h2 := List.length_pos_iff.2 (h p List.mem_cons_self);simp only [wgt, kidL, sumP, List.map_cons, List.sum_cons, List.length_cons] at h1 ⊢;omega
structure DInv (X : List Mach) (N : Nat) (n : Nat) (out : List Nd) : Prop where
 le : n ≤ out.length
 wg : out.length + wgt (out.drop n) ≤ 2 * N - 1
 ne : ∀ d ∈ out, d.sus ≠ []
 rng : ∀ d ∈ out, ∀ i ∈ d.sus, 0 ≤ i ∧ i < N
theorem DInv.start (X : List Mach) {N : Nat} (hN : 1 ≤ N) : DInv X N 0 [⟨idL N, [], []⟩] where
 le := Nat.zero_le _
 wg := by
  have hl : (idL N).length = N := by simp [idL]
  simp only [List.drop_zero, wgt, List.map_cons, List.map_nil, List.sum_cons, List.sum_nil, List.length_cons, List.length_nil, hl]; omega
 ne := fun d hd e => by
  rw [List.mem_singleton] at hd; subst hd;have hl : (idL N).length = N := by simp [idL]
  simp only at e;rw [e] at hl; simp at hl; omega
 rng := fun d hd i hi => by
  rw [List.mem_singleton] at hd; subst hd;obtain ⟨j, hj, rfl⟩ := List.mem_map.1 hi;have := List.mem_range.1 hj;exact ⟨Int.natCast_nonneg j, Int.ofNat_lt.2 this⟩
theorem wordX_two {X : List Mach} {k : Int} (hX : ∀ m ∈ X, Valid m ∧ m.ins = k) {s : List Int} (hs : ∀ i ∈ s, 0 ≤ i ∧ i < X.length) (hw : wordX X s ≠ []) :
  2 ≤ (partsX X s (wordX X s)).length ∧ (wordX X s).length ≤ 127 ∧ ∀ i ∈ wordX X s, 0 ≤ i ∧ i < k := by
 have hin : ∀ i ∈ s, Valid (atM X i) ∧ (atM X i).ins = k := fun i hi => hX _ (by
  have h := hs i hi;rw [atM, List.getD_eq_getElem?_getD, List.getElem?_eq_getElem (show i.toNat < X.length by omega)];exact List.getElem_mem _)
 cases s with
 | nil => exact absurd rfl hw
 | cons a r =>
   rcases firstD_spec (X := X) (a := a) (r := r) with ⟨h1, _⟩ | ⟨i, h1, h2, h3, _⟩
   ·exact absurd h1 hw
   ·have va := hin a List.mem_cons_self;have vi := hin i (List.mem_cons_of_mem _ h1);have hab : (atM X a).ins = (atM X i).ins := by rw [va.2, vi.2]
    have hbd := diffW_bd va.1 vi.1 hab;have e : wordX X (a :: r) = diffW (atM X a) (atM X i) := h3;rw [e];refine ⟨?_, hbd.1, fun j hj => by have := hbd.2 j hj; omega⟩;refine dvI_two (i := a) (j := i) List.mem_cons_self (List.mem_cons_of_mem _ h1) ?_;rcases diff_least va.1 vi.1 hab with ⟨_, hL⟩ | ⟨h, _⟩
    ·exact hL.2.1
    ·rw [h] at h2; cases h2
theorem DInv.step {X : List Mach} {N n : Nat} {out : List Nd} {k : Int} (hX : ∀ m ∈ X, Valid m ∧ m.ins = k) (hXN : X.length = N) (h : DInv X N n out) (hn : n < out.length) : DInv X N (n + 1) (dgStep X out n) := by
 have hd := List.getElem?_eq_getElem hn;have hm := List.getElem_mem hn;have hdrop : out.drop n = out[n] :: out.drop (n + 1) := List.drop_eq_getElem_cons hn;have hw := h.wg;rw [hdrop, show wgt (out[n] :: out.drop (n + 1)) = 2 * (out[n].sus.length - 1) + wgt (out.drop (n + 1)) by simp only [wgt, List.map_cons, List.sum_cons]] at hw;have hne := h.ne _ hm;have hrg := h.rng _ hm;unfold dgStep;rw [hd];simp only;generalize out[n] = d at hd hm hw hne hrg;split
 ·exact ⟨hn, by omega, h.ne, h.rng⟩
 ·rename_i hwd;obtain ⟨t1, t2, t3⟩ := wordX_two hX (fun i hi => by have := hrg i hi; omega) hwd;obtain ⟨w, hwe⟩ : ∃ w, w = wordX X d.sus := ⟨_, rfl⟩;rw [← hwe] at t1 t2 t3 ⊢;have hps := dvL_sum (eqB := eqI) (K := respK X w) d.sus [];have hpn := dvL_ne2 (eqB := eqI) (K := respK X w) d.sus;have hpb := dvL_sub (eqB := eqI) (K := respK X w) d.sus;rw [show dvL eqI (respK X w) d.sus [] = partsX X d.sus w from rfl] at hps hpn hpb;rw [show sumP ([] : List (List Int × List Int)) = 0 from rfl, Nat.zero_add] at hps;generalize partsX X d.sus w = ps at t1 hps hpn hpb;have hk := wgt_kids hpn;have hl := List.length_pos_iff.2 hne;have hml : ∀ e ∈ out.set n ⟨d.sus, w, brsF ps out.length⟩ ++ kidL ps, e ∈ out ∨ e.sus = d.sus ∨ ∃ p ∈ ps, e.sus = p.2 := fun e he => by
   rcases List.mem_append.1 he with he | he
   ·rcases List.mem_or_eq_of_mem_set he with he | rfl
    ·exact .inl he
    ·exact .inr (.inl rfl)
   ·obtain ⟨p, hp, rfl⟩ := List.mem_map.1 he;exact .inr (.inr ⟨p, hp, rfl⟩)
  refine ⟨by simp only [List.length_append, List.length_set]; omega, ?_, fun e he => ?_, fun e he => ?_⟩
  ·rw [List.drop_append_of_le_length (by rw [List.length_set]; omega), wgt_app, List.length_append, List.length_set, List.drop_set_of_lt (by omega)];have : (kidL ps).length = ps.length := by simp [kidL]
   rw [hps] at hk;omega
  ·rcases hml e he with h1 | h1 | ⟨p, h1, h2⟩
   ·exact h.ne e h1
   ·rw [h1]; exact hne
   ·rw [h2]; exact hpn p h1
  ·rcases hml e he with h1 | h1 | ⟨p, h1, h2⟩
   ·exact h.rng e h1
   ·rw [h1]; exact hrg
   ·rw [h2]; exact fun i hi => hrg i (hpb p h1 i hi)
theorem clipN_is (nl : Bool) (es : List (List AV)) (c : Cp) (h : (es.all fun y => decide (y.length = 3)) = true) : PureIs prog 19 [.sl nl es c] (.sl nl es .full) := by
 refine PureIs.of1 1 [2] func19 ntmps19 results19 fun _ => ?_;refine EvC.a ?_;refine EvC.a ?_ (hok := by simpa using h);refine EvC.rz ?_;simp only [go_sem]
theorem ndC_norefs (d : Nd) : AV.norefs (ndC d) = true := rfl
theorem nds_norefs (l : List Nd) : (l.map ndC).all AV.norefs = true := by
 rw [List.all_eq_true];intro c hc;obtain ⟨d, _, rfl⟩ := List.mem_map.1 hc;exact ndC_norefs d
def diagA (m : Mach) (fs : List FA) : AV :=
 if mutErr m fs ≠ 0 then .tu [.sl true [] .unk, .sc (.int .i64 (mutErr m fs))]
 else if fs.length = 0 then .tu [.sl true [] .unk, .sc (.int .i64 1)]
 else .tu [.sl false ((diagL (fs.map (mutF m)) fs.length).map ndC) .full, .sc (.int .i64 0)]
theorem DInv.len {X : List Mach} {N n : Nat} {out : List Nd} (h : DInv X N n out) : out.length ≤ 2 * N - 1 := by have := h.wg; omega
theorem dgF_end (X : List Mach) : ∀ (f : Nat) (out : List Nd), dgF X f out out.length = out
 | 0, _ => rfl
 | f + 1, out => by rw [dgF, if_neg (by omega)]
theorem dgF_step {X : List Mach} {f n : Nat} {out : List Nd} (hf : 0 < f) (hn : n < out.length) : dgF X f out n = dgF X (f - 1) (dgStep X out n) (n + 1) := by
 obtain ⟨g, rfl⟩ : ∃ g, f = g + 1 := ⟨f - 1, by omega⟩;rw [dgF, if_pos hn, Nat.add_sub_cancel]
def kidsTo (out : List Nd) (ps : List (List Int × List Int)) (k : Nat) : List (List AV) := (out ++ kidL (ps.take k)).map ndC
theorem kidsTo_succ {out : List Nd} {ps : List (List Int × List Int)} {k : Nat} {p : List Int × List Int} (h : ps[k]? = some p) : kidsTo out ps k ++ [[.sl false (p.2.map intC) .full, .sl true [] .zer, .sl true [] .zer]] = kidsTo out ps (k + 1) := by
 obtain ⟨hi, he⟩ := List.getElem?_eq_some_iff.1 h;unfold kidsTo kidL;rw [List.take_succ_eq_append_getElem hi, he];simp only [List.map_append, List.append_assoc]; rfl
theorem kidsTo_len {out : List Nd} {ps : List (List Int × List Int)} {k : Nat} (h : k ≤ ps.length) : (kidsTo out ps k).length = out.length + k := by simp [kidsTo, kidL]; omega
theorem kidsTo_norefs (out : List Nd) (ps : List (List Int × List Int)) (k : Nat) : (kidsTo out ps k).all AV.norefs = true := nds_norefs _
def brV (ps : List (List Int × List Int)) (L : Nat) (i : Nat) : List AV := brC ((ps.getD i ([], [])).1, ((L + i : Nat) : Int))
theorem brV_all (ps : List (List Int × List Int)) (L : Nat) (d : List AV) : fillC (brV ps L) d ps.length ps.length = (brsF ps L).map brC := by
 rw [fillC_all];apply List.ext_getElem
 ·simp [brsF_len]
 ·intro i h1 h2;have hi : i < ps.length := by simpa using h1
  have h3 := brsF_get (t := L) (List.getElem?_eq_getElem hi);have h4 : i < (brsF ps L).length := by rw [brsF_len]; exact hi
  rw [List.getElem?_eq_getElem h4] at h3;simp only [List.getElem_map, List.getElem_range, Option.some.inj h3, brV, List.getD_eq_getElem?_getD, List.getElem?_eq_getElem hi, Option.getD_some]
set_option maxHeartbeats 4000000 in
theorem diagnose_is (m : Mach) (hm : ∀ r ∈ m.rows, r.2.length < 1000000) (hnn : NoNil m) (fn : Bool) (fs : List FA) (fc : Cp) (hfl : fs.length < 1000000) :
  PureIs prog 5 [.ag m.cells, .sl fn (fs.map FA.cells) fc] (diagA m fs) := by
 refine PureIs.of1 3 [4, 5, 6, 7, 8, 9, 10, 11, 12, 13, 14, 22, 26, 31, 35, 47, 58, 59, 60, 61, 62] func5 ntmps5 results5 fun _ => ?_;refine EvC.a ?_ (by simp only [go_sem, Mach.cells] <;> rfl);refine EvC.z 0 ?_;have q := mutants_is m hm hnn fn fs fc hfl;unfold mutsA at q;unfold diagA;by_cases h0 : mutErr m fs = 0;rotate_left
 ·rw [if_neg h0] at q;rw [if_pos h0];refine EvC.k1 ?_ (h1 := by simp only [go_sem, Mach.cells] <;> rfl) (c1 := .ca q);refine EvC.seq ?_;refine EvC.a ?_;refine EvC.ct ?_ (by simp only [go_sem, decide_eq_false h0] <;> rfl);refine EvC.a ?_;refine EvC.rz ?_;simp only [go_sem]
 rw [if_pos h0] at q;rw [if_neg (show ¬ mutErr m fs ≠ 0 from fun h => h h0)];have hXv := mutsA_valid h0;have hXl : (fs.map (mutF m)).length = fs.length := List.length_map _;have hXi : ∀ x ∈ fs.map (mutF m), x.ins = m.ins := fun x hx => by obtain ⟨f, _, rfl⟩ := List.mem_map.1 hx; rfl
 generalize fs.map (mutF m) = X at q hXv hXl hXi ⊢;have hXn := norefs_machs X;have hfl2 := (mutErr_ok h0).2.1;refine EvC.k1 ?_ (h1 := by simp only [go_sem, Mach.cells] <;> rfl) (c1 := .ca q) (h2 := by simp only [go_sem, hXn] <;> rfl);refine EvC.seq ?_;refine EvC.a ?_;refine EvC.cs ?_;refine EvC.seq ?_;refine EvC.a ?_ (by simp only [go_sem, List.length_map] <;> rfl);by_cases c3 : (fs.length : Int) = 0
 ·rw [if_pos (show fs.length = 0 by omega)];refine EvC.ct ?_ (by simp only [go_sem, decide_eq_true c3] <;> rfl);refine EvC.a ?_;refine EvC.rz ?_;simp only [go_sem]
 rw [if_neg (show ¬ fs.length = 0 by omega)];refine EvC.cs ?_ (by simp only [go_sem, decide_eq_false c3] <;> rfl);obtain ⟨N, hN⟩ : ∃ N, N = fs.length := ⟨_, rfl⟩;rw [← hN] at hfl2 hXl c3 ⊢;have hX : ∀ x ∈ X, Valid x ∧ x.ins = m.ins := fun x hx => ⟨hXv x hx, hXi x hx⟩;have q1 := everybody_is N (by omega);refine EvC.k1 ?_ (h1 := by simp only [go_sem, List.length_map, ← hN] <;> rfl) (c1 := .ca q1);refine EvC.seq ?_;refine EvC.a ?_;refine EvC.block ?_;refine EvC.loopS (σ := Nat × List Nd) (fun g => ⟨[(6, .sl fs.isEmpty (X.map Mach.cells) .unk), (8, .tl 0 g.2.length false), (9, .sc (.int .i64 g.1))], [], [(0, .arr 3 (g.2.map ndC) false)], 1⟩) (fun g => 2 * N - g.1) (fun g => DInv X N g.1 g.2 ∧ dgF X (2 * N - g.1) g.2 g.1 = diagL X N) [6, 8, 9] 1 ?_ ?_
 ·exact ⟨[(20, 0)], (0, [⟨idL N, [], []⟩]), rfl, (by simp only [go_sem, Int.natCast_zero, List.map_cons, List.map_nil, ndC, wAV, bAV, List.isEmpty_nil, List.length_cons, List.length_nil] <;> rfl), .start X (by omega), rfl⟩
 rintro ⟨n, out⟩ ⟨hD, hF⟩;simp only at hD hF ⊢;have hlen := hD.len;have hnl := hD.le;refine EvC.seq ?_;refine EvC.a ?_ (by simp only [go_sem, List.length_map] <;> rfl);refine EvC.cond (by simp only [go_sem] <;> rfl) (fun hc => ?_) (fun hc => ?_);rotate_left
 ·refine EvC.exit ?_;obtain rfl : n = out.length := by have : ¬ n < out.length := (by simpa using hc); omega
  rw [dgF_end] at hF;rw [← hF];have hn1 := nds_norefs out;have hl1 : (out.map ndC).length = out.length := List.length_map _;have h3 : ((out.map ndC).all fun y => decide (y.length = 3)) = true := by simp [List.all_eq_true, ndC]
  generalize out.map ndC = O at hn1 hl1 h3 ⊢;refine EvC.frz 0 (by simp only [go_sem, hn1, hl1] <;> rfl) ?_;refine EvC.k1 ?_ (h1 := by simp only [go_sem, hl1] <;> rfl) (c1 := .ca (clipN_is false O .unk h3));refine EvC.rz ?_;simp only [go_sem]
 have hlt : n < out.length := by simpa using hc
 clear hc;have hstep := hD.step hX hXl hlt;rw [dgF_step (by omega) hlt, show 2 * N - n - 1 = 2 * N - (n + 1) by omega] at hF;have hge : out[n]? = some out[n] := List.getElem?_eq_getElem hlt;have hmem := List.getElem_mem hlt;have hne := hD.ne _ hmem;have hrg := hD.rng _ hmem;have hrl := hD.wg;rw [List.drop_eq_getElem_cons hlt, show wgt (out[n] :: out.drop (n + 1)) = 2 * (out[n].sus.length - 1) + wgt (out.drop (n + 1)) by simp only [wgt, List.map_cons, List.sum_cons]] at hrl;unfold dgStep at hstep hF;rw [hge] at hstep hF;simp only at hstep hF;generalize out[n] = d at hge hne hrg hstep hF hrl;obtain ⟨sus, wd, bd⟩ := d;simp only at hne hrg hstep hF hrl;obtain ⟨a, r, rfl⟩ : ∃ a r, sus = a :: r := by
  cases sus with
  | nil => exact absurd rfl hne
  | cons a r => exact ⟨a, r, rfl⟩
 have hrg2 : ∀ i ∈ a :: r, 0 ≤ i ∧ i < X.length := fun i hi => by have := hrg i hi; omega
 have hsl : (a :: r).length ≤ 1000 := by omega
 have q2 := word59_is fs.isEmpty X .unk a r m.ins hX hrg2 (by simp only [List.length_cons] at hsl; omega);have hw2 := wordX_two hX hrg2;have hOl : (out.map ndC).length = out.length := List.length_map _;have hOg : (out.map ndC)[n]? = some [.sl false ((a :: r).map intC) .full, wAV wd, bAV bd] := by rw [List.getElem?_map, hge]; rfl
 obtain ⟨S, hS⟩ : ∃ S, S = a :: r := ⟨_, rfl⟩;rw [← hS] at hrg2 hsl q2 hw2 hOg hstep hF;have hnt : ((n : Int)).toNat = n := Int.toNat_natCast n;obtain ⟨w, hw⟩ : ∃ w, w = wordX X S := ⟨_, rfl⟩;rw [← hw] at q2 hw2 hstep hF;refine EvC.skip ?_;refine EvC.seq ?_;refine EvC.block ?_;apply EvC.s1
 ·apply Tr.run
  ·simp only [go_sem, hOg, hOl, hnt] <;> rfl
  ·simp; try omega
  apply Tr.cons
  ·exact .call rfl rfl (by simp only [go_sem] <;> rfl) (by simp only [go_sem] <;> rfl) (by simp only [go_sem] <;> rfl) (by simp only [go_sem, hXn] <;> rfl) (by simp only [go_sem] <;> rfl) (q2)
  apply Tr.done
  ·simp only [go_sem] <;> rfl
  ·simp
 refine EvC.seq ?_;refine EvC.a ?_ (by simp only [go_sem, List.length_map] <;> rfl);by_cases hwe : w = []
 ·rw [if_pos hwe] at hstep hF;subst hwe;refine EvC.ct ?_;refine EvC.exit ?_;refine EvC.b ?_ (hok := by exact inI64_of (by omega) (by omega));have hn1 := nds_norefs out;exact ⟨[(0, 0)], (n + 1, out), rfl, (by simp only [go_sem, hn1, Int.natCast_add, Int.natCast_one] <;> rfl), ⟨hstep, hF⟩, by simp only; omega⟩
 rw [if_neg hwe] at hstep hF;obtain ⟨hp2, hwl, hwi⟩ := hw2 hwe;have hwp := List.length_pos_iff.2 hwe
 have hwb : w.isEmpty = false := by cases w with
  | nil => exact absurd rfl hwe
  | cons x w => rfl
 rw [hwb] at q2;refine EvC.cs ?_ (by simp only [go_sem, decide_eq_false (show ¬ (w.length : Int) = 0 by omega)] <;> rfl);have q3 := responses_is fs.isEmpty X .unk false S .full false w .unk hrg2 hXv (fun x hx => by
  have := hXi x hx;have := (hXv x hx).ins;exact wordErr_of (by omega) (by omega) fun a ha => by have := hwi a ha; omega) (by omega) (by omega)
 have hps0 := dvL_sum (eqB := eqI) (K := respK X w) S [];have hpl := dvL_len (eqB := eqI) (K := respK X w) S [];rw [show dvL eqI (respK X w) S [] = partsX X S w from rfl] at q3 hpl;simp only [List.length_nil, Nat.zero_add] at hpl;generalize partsX X S w = ps at q3 hstep hF hp2 hpl;have hpn := partC_norefs (kc := keyI) keyI_norefs ps;have hSe : S.isEmpty = false := by rw [hS]; rfl
 have hps : ps.isEmpty = false := by cases ps with
  | nil => simp at hp2
  | cons x w => rfl
 rw [hSe] at q3;rw [hwb];apply EvC.s1
 ·apply Tr.run
  ·simp only [go_sem, hOg, hOl, hnt] <;> rfl
  ·simp; try omega
  apply Tr.cons
  ·exact .call rfl rfl (by simp only [go_sem] <;> rfl) (by simp only [go_sem] <;> rfl) (by simp only [go_sem] <;> rfl) (by simp only [go_sem, hXn] <;> rfl) (by simp only [go_sem] <;> rfl) (q3)
  apply Tr.done
  ·simp only [go_sem] <;> rfl
  ·simp
 have hr : room ps.length 32 = true := by simp only [room_eq, decide_eq_true_eq]; omega
 refine EvC.a ?_ (by simp only [go_sem, List.length_map] <;> rfl) (by simp [hr]; try omega);obtain ⟨L, hL⟩ : ∃ L, L = out.length := ⟨_, rfl⟩;have hz := fillC_zero (brV ps L) [.sl true [] .zer, .sc (.int .i64 0)] ps.length;have hFn : ∀ k, (fillC (brV ps L) [.sl true [] .zer, .sc (.int .i64 0)] ps.length k).all AV.norefs = true := fillC_norefs (fun i => by simp [brV, brC, AV.norefs, AV.noref, intC]) rfl ps.length;have hrl : (List.replicate ps.length [AV.sl true [] .zer, .sc (.int .i64 0)]).length = ps.length := List.length_replicate;have hnr : (List.replicate ps.length [AV.sl true [] .zer, .sc (.int .i64 0)]).all AV.norefs = true := by rw [← hz]; exact hFn 0
 refine EvC.seq ?_;refine EvC.a ?_ (by simp only [go_sem, List.length_map, hrl] <;> rfl);refine EvC.block ?_;have hk0 : out.map ndC = kidsTo out ps 0 := by simp [kidsTo, kidL]
 rw [← hL] at hOl ⊢;refine EvC.loopS (σ := Nat × Nat) (fun g => ⟨[(6, .sl fs.isEmpty (X.map Mach.cells) .unk), (8, .tl 0 g.2 false), (9, .sc (.int .i64 n)), (10, .sl false (w.map intC) .unk), (12, .tv 1 ps.length 0 ps.length (.val ps.length)), (59, .sl false (ps.map (partC keyI)) .unk), (60, .sc (.int .i64 ps.length)), (61, .sc (.int .i64 g.1))], [], [(0, .arr 3 (kidsTo out ps g.1) false), (1, .arr 2 (fillC (brV ps L) [.sl true [] .zer, .sc (.int .i64 0)] ps.length g.1) false)], 2⟩) (fun g => ps.length - g.1) (fun g => g.1 ≤ ps.length ∧ g.2 = L + g.1) [6, 8, 9, 10, 12, 59, 60, 61] 2 ?_ ?_
 ·refine ⟨[(0, 0), (27, 1)], (0, L), rfl, (by rw [hz, hk0]; simp only [go_sem, Int.natCast_zero, hnr, kidsTo_norefs out ps 0] <;> rfl), Nat.zero_le _, rfl⟩
 rintro ⟨k, M⟩ ⟨i1, i2⟩;simp only at i1 i2 ⊢;have hKl := kidsTo_len (out := out) i1;rw [← hL, ← i2] at hKl;refine EvC.a ?_;refine EvC.seq ?_;refine EvC.cond (by simp only [go_sem] <;> rfl) (fun hc => ?_) (fun hc => ?_);rotate_left
 ·refine EvC.exit ?_;obtain rfl : k = ps.length := by have : ¬ k < ps.length := (by simpa using hc); omega
  clear hc;have hB := brV_all ps L [.sl true [] .zer, .sc (.int .i64 0)];have hBn := hFn ps.length;have hBl := fillC_len (brV ps L) [.sl true [] .zer, .sc (.int .i64 0)] ps.length ps.length;rw [hB] at hBn hBl ⊢;have hbe : (brsF ps L).isEmpty = false := by
   have := brsF_len ps L;cases h : brsF ps L with
   | nil => rw [h] at this; simp at this; omega
   | cons x y => rfl
  have hOn := nds_norefs (out.set n ⟨S, w, brsF ps L⟩ ++ kidL ps);have hKe : kidsTo out ps ps.length = (out ++ kidL ps).map ndC := by rw [kidsTo, List.take_length]
  rw [hKe] at hKl ⊢;have g0 : ((out ++ kidL ps).map ndC)[n]? = some [.sl false (S.map intC) .full, wAV wd, bAV bd] := by
   rw [List.map_append, List.getElem?_append_left (by rw [List.length_map]; exact hlt)]; exact hOg
  have hnM : n < M := by omega
  have s2 : ∀ c : List AV, c = ndC ⟨S, w, brsF ps L⟩ → ((out ++ kidL ps).map ndC).set n c = (out.set n ⟨S, w, brsF ps L⟩ ++ kidL ps).map ndC := fun c hc => by
   rw [hc, ← List.map_set, List.set_append_left _ _ hlt]
  have hM : M = (out.set n ⟨S, w, brsF ps L⟩ ++ kidL ps).length := by simp [kidL]; omega
  rw [← hL] at hstep hF;obtain ⟨O0, hO0⟩ : ∃ O, O = (out ++ kidL ps).map ndC := ⟨_, rfl⟩;rw [← hO0] at hKl g0 s2 ⊢;have s1 : ∀ c1 c2 : List AV, (O0.set n c1).set n c2 = O0.set n c2 := fun c1 c2 => by rw [List.set_set]
  have g1 : ∀ c1 : List AV, (O0.set n c1)[n]? = some c1 := fun c1 => by rw [List.getElem?_set_self (by omega)]
  have hKl2 : ∀ c1 : List AV, (O0.set n c1).length = M := fun c1 => by rw [List.length_set]; exact hKl
  refine EvC.frz 1 (by simp only [go_sem, hBn, hBl] <;> rfl) ?_;have q5 := clipI_is false (w.map intC) .unk (by simp [List.all_eq_true, intC]);have s3 := s2 [.sl false (S.map intC) .full, .sl false (w.map intC) .full, .sl false ((brsF ps L).map brC) .full] (by simp [ndC, wAV, bAV, hwb, hbe]);have hOn2 := hOn;obtain ⟨O2, hO2⟩ : ∃ O, O = (out.set n ⟨S, w, brsF ps L⟩ ++ kidL ps).map ndC := ⟨_, rfl⟩;rw [← hO2] at hOn2 s3;refine EvC.k1L ?_ (h1 := by simp only [go_sem, hKl, g0, hnt] <;> rfl) (k1 := by simp; try omega) (c1 := .ca q5) (h2 := by simp only [go_sem, hKl, g0, hnt, hKl2, g1, s1, s3] <;> rfl) (k2 := by simp; try omega);refine EvC.b ?_ (hok := by exact inI64_of (by omega) (by omega));exact ⟨[(0, 0)], (n + 1, out.set n ⟨S, w, brsF ps L⟩ ++ kidL ps), rfl, (by rw [← hM, ← hO2]; simp only [go_sem, hOn2, Int.natCast_add, Int.natCast_one] <;> rfl), ⟨hstep, hF⟩, by simp only; omega⟩
 have hkl : k < ps.length := by simpa using hc
 clear hc;have hpe : ps[k]? = some ps[k] := List.getElem?_eq_getElem hkl;have hFk : brV ps L k = brC (ps[k].1, ((L + k : Nat) : Int)) := by rw [brV, List.getD_eq_getElem?_getD, hpe]; rfl
 have hKs := kidsTo_succ (out := out) hpe;generalize ps[k] = p at hpe hFk hKs;obtain ⟨px, pw⟩ := p;have hp2 : (ps.map (partC keyI))[k]? = some (partC keyI (px, pw)) := by rw [List.getElem?_map, hpe]; rfl
 simp only [partC, keyI, List.cons_append, List.nil_append] at hp2;simp only at hFk hKs;have hBg := fillC_get (brV ps L) [.sl true [] .zer, .sc (.int .i64 0)] hkl;have hBs := fillC_set (brV ps L) [.sl true [] .zer, .sc (.int .i64 0)] hkl;have hBl := fillC_len (brV ps L) [.sl true [] .zer, .sc (.int .i64 0)] ps.length k;have hBl2 := fillC_len (brV ps L) [.sl true [] .zer, .sc (.int .i64 0)] ps.length (k + 1);have hBn := hFn (k + 1);have hKl2 := kidsTo_len (out := out) (ps := ps) (k := k + 1) hkl;have hKn2 := kidsTo_norefs out ps (k + 1);rw [hFk, ← i2] at hBs;simp only [brC] at hBs;rw [← hL] at hKl2;generalize kidsTo out ps k = O0 at hKl hKs ⊢;obtain ⟨O1, hO1⟩ : ∃ O, O = kidsTo out ps (k + 1) := ⟨_, rfl⟩;rw [← hO1] at hKs hKl2 hKn2;generalize fillC (brV ps L) [.sl true [] .zer, .sc (.int .i64 0)] ps.length k = B0 at hBg hBs hBl ⊢;obtain ⟨B1, hB1⟩ : ∃ B, B = fillC (brV ps L) [.sl true [] .zer, .sc (.int .i64 0)] ps.length (k + 1) := ⟨_, rfl⟩;rw [← hB1] at hBs hBl2 hBn;obtain ⟨kZ, hkZ⟩ : ∃ z : Int, z = (k : Int) := ⟨_, rfl⟩;have hkt : kZ.toNat = k := by omega
 have hr1 : room (M + 1) 72 = true := by simp only [room_eq, decide_eq_true_eq]; omega
 rw [← hkZ];refine EvC.skip ?_;refine EvC.seq ?_;refine EvC.block ?_;refine EvC.a ?_ (by simp only [go_sem, hp2, hkt, List.length_map] <;> rfl) (by simp; try omega);have q6 := clipI_is false (px.map intC) .unk (by simp [List.all_eq_true, intC]);have q7 := clipI_is false (pw.map intC) .unk (by simp [List.all_eq_true, intC]);refine EvC.k1 ?_ (h1 := by simp only [go_sem, hkt, hBg, hBl, hKl] <;> rfl) (c1 := .ca q6) (h2 := by simp only [go_sem, hkt, hBg, hBl, hKl, hBs] <;> rfl) (k2 := by simp; try omega);refine EvC.k1L ?_ (h1 := by simp only [go_sem, hKl] <;> rfl) (c1 := .ca q7) (h2 := by simp only [go_sem, hKl, hKs] <;> rfl) (k2 := by simp [hr1]);refine EvC.b ?_ (hok := by exact inI64_of (by omega) (by omega));exact ⟨[(0, 0), (1, 1)], (k + 1, M + 1), rfl, (by rw [hkZ, ← hO1, ← hB1]; simp only [go_sem, hBn, hKn2, hKl2, i2, Nat.add_assoc, Int.natCast_add, Int.natCast_one] <;> rfl), ⟨hkl, by simp only; omega⟩, by simp only; omega⟩
def rwA (r : RW) : AV := .sl r.1 (r.2.1.map intC) r.2.2
abbrev BG := RW × Int
def bgC (b : BG) : List AV := [rwA b.1, .sc (.int .i64 b.2)]
structure NG where
 s : RW
 w : RW
 bn : Bool
 bs : List BG
 bc : Cp
def ngC (d : NG) : List AV := [rwA d.s, rwA d.w, .sl d.bn (d.bs.map bgC) d.bc]
def bgB (b : BG) : List Int × Int := (b.1.2.1, b.2)
def NG.nd (d : NG) : Nd := ⟨d.s.2.1, d.w.2.1, d.bs.map bgB⟩
structure NGok (d : NG) : Prop where
 s : d.s.2.1.length < 1000000
 w : d.w.2.1.length < 1000000
 b : d.bs.length < 1000000
 r : ∀ b ∈ d.bs, b.1.2.1.length < 1000000
def ndG (d : Nd) : NG := ⟨(false, d.sus, .full), (d.word.isEmpty, d.word, if d.word.isEmpty then .zer else .full), d.br.isEmpty, d.br.map fun b => ((false, b.1, .full), b.2), if d.br.isEmpty then .zer else .full⟩
theorem ndG_cells (d : Nd) : ngC (ndG d) = ndC d := by
 simp only [ngC, ndG, ndC, rwA, wAV, bAV, List.map_map]; rfl
theorem ndG_nd (d : Nd) : (ndG d).nd = d := by
 obtain ⟨a, b, c⟩ := d;simp only [ndG, NG.nd, List.map_map];congr 1
 conv => rhs; rw [← List.map_id c]
 exact List.map_congr_left fun x _ => rfl
def findIdxB (p : BG → Bool) : List BG → Int → Int
 | [], _ => -1
 | e :: es, i => if p e = true then i else findIdxB p es (i + 1)
theorem findIdxB_any (p : BG → Bool) : ∀ (es : List BG) (i : Int), 0 ≤ i → decide (0 ≤ findIdxB p es i) = es.any p
 | [], i, _ => by simp [findIdxB]
 | e :: es, i, h => by
   unfold findIdxB;split
   ·rename_i hp; simp [hp, h]
   ·rename_i hp;rw [findIdxB_any p es (i + 1) (by omega)];simp [hp]
theorem indexB_is (nl : Bool) (xs : List BG) (c : Cp) (f : FuncId) (cs : List AV) (hcs : AV.norefs cs = true) (p : BG → Bool) (hp : ∀ e ∈ xs, PureIs prog f (.ag (bgC e) :: cs) (.sc (.bool (p e)))) (hl : xs.length < 1000000) :
  PureIs prog 49 [.sl nl (xs.map bgC) c, .fn f cs] (.sc (.int .i64 (findIdxB p xs 0))) := by
 refine PureIs.of1 2 [4, 5, 7, 8, 9, 16] func49 ntmps49 results49 fun _ => ?_;refine EvC.a ?_;refine EvC.seq ?_;refine EvC.a ?_ (by simp only [go_sem, List.length_map] <;> rfl);refine EvC.block ?_;refine EvC.loopS (σ := Nat) (fun i => ⟨[(0, .sl nl (xs.map bgC) c), (1, .fn f cs), (7, .sc (.int .i64 xs.length)), (8, .sc (.int .i64 i))], [], [], 0⟩) (fun i => xs.length - i) (fun i => i ≤ xs.length ∧ findIdxB p xs 0 = findIdxB p (xs.drop i) i) [0, 1, 7, 8] 0 ?_ ?_
 ·refine ⟨[], 0, rfl, (by simp only [go_sem, hcs, Int.natCast_zero] <;> rfl), Nat.zero_le _, by simp⟩
 rintro i ⟨h1, h2⟩;refine EvC.a ?_;refine EvC.seq ?_;refine EvC.cond (by simp only [go_sem] <;> rfl) (fun hc => ?_) (fun hc => ?_);rotate_left
 ·refine EvC.exit ?_;have hi : ¬ i < xs.length := by simpa using hc
  refine EvC.a ?_;refine EvC.rz ?_;simp only [go_sem];rw [h2, List.drop_of_length_le (by omega)]; rfl
 have hi : i < xs.length := by simpa using hc
 have he : xs[i]? = some xs[i] := List.getElem?_eq_getElem hi;have hd : xs.drop i = xs[i] :: xs.drop (i + 1) := List.drop_eq_getElem_cons hi;have hm : xs[i] ∈ xs := List.getElem_mem hi;generalize xs[i] = e at he hd hm;refine EvC.skip ?_;refine EvC.seq ?_;refine EvC.block ?_;refine EvC.a ?_;have hq := hp e hm;obtain ⟨⟨e1, e2, e3⟩, e4⟩ := e;apply EvC.s1
 ·apply Tr.run
  ·simp only [go_sem, he, bgC, rwA, List.length_map] <;> rfl
  ·simp; try omega
  apply Tr.cons
  ·exact .call rfl rfl (by simp only [go_sem] <;> rfl) (by simp only [go_sem] <;> rfl) (by simp only [go_sem] <;> rfl) (by simp only [go_sem, hcs] <;> rfl) (by simp only [go_sem] <;> rfl) (hq)
  apply Tr.done
  ·simp only [go_sem] <;> rfl
  ·simp
 refine EvC.cond (by simp only [go_sem] <;> rfl) (fun hc => ?_) (fun hc => ?_)
 ·refine EvC.a ?_;refine EvC.rz ?_;simp only [go_sem];rw [h2, hd, findIdxB, if_pos hc]
 refine EvC.skip ?_;refine EvC.b ?_ (hok := by exact inI64_of (by omega) (by omega));refine ⟨[], i + 1, rfl, (by simp only [go_sem, hcs, Int.natCast_add, Int.natCast_one] <;> rfl), ⟨by omega, ?_⟩, by omega⟩;rw [h2, hd, findIdxB, if_neg (by simp [hc])]; rfl
theorem containsB_is (nl : Bool) (xs : List BG) (c : Cp) (f : FuncId) (cs : List AV) (hcs : AV.norefs cs = true) (p : BG → Bool) (hp : ∀ e ∈ xs, PureIs prog f (.ag (bgC e) :: cs) (.sc (.bool (p e)))) (hl : xs.length < 1000000) :
  PureIs prog 77 [.sl nl (xs.map bgC) c, .fn f cs] (.sc (.bool (xs.any p))) := by
 refine PureIs.of1 2 [4] func77 ntmps77 results77 fun _ => ?_;refine EvC.a ?_;apply EvC.s1
 ·apply Tr.run
  ·simp only [go_sem] <;> rfl
  ·simp
  apply Tr.cons
  ·exact .call rfl rfl (by simp only [go_sem] <;> rfl) (by simp only [go_sem] <;> rfl) (by simp only [go_sem] <;> rfl) (by simp only [go_sem, hcs] <;> rfl) (by simp only [go_sem] <;> rfl) (indexB_is _ _ _ _ _ hcs _ hp hl)
  apply Tr.done
  ·simp only [go_sem] <;> rfl
  ·simp
 refine EvC.rz ?_;simp only [go_sem];rw [findIdxB_any _ _ _ (Int.le_refl 0)]
theorem valid1_is (e : BG) (b : BG) (hl : e.1.2.1.length < 1000000) : PureIs prog 78 [.ag (bgC e), .ia (bgC b)] (.sc (.bool (decide (e.1.2.1 = b.1.2.1)))) := by
 obtain ⟨⟨e1, e2, e3⟩, e4⟩ := e;obtain ⟨⟨b1, b2, b3⟩, b4⟩ := b;refine PureIs.of1 4 [] func78 ntmps78 results78 fun _ => ?_;refine EvC.a ?_ (by simp only [go_sem, bgC, rwA] <;> rfl);refine EvC.z 0 ?_;refine EvC.k1 ?_ (h1 := by simp only [go_sem, bgC, rwA] <;> rfl) (c1 := .ca (equal53_is e1 b1 e2 b2 e3 b3 hl));refine EvC.rz ?_;simp only [go_sem]
theorem walk1_is (e : BG) (rn : Bool) (r : List Int) (rc : Cp) (hl : e.1.2.1.length < 1000000) : PureIs prog 50 [.ag (bgC e), .ia [.sl rn (r.map intC) rc]] (.sc (.bool (decide (e.1.2.1 = r)))) := by
 obtain ⟨⟨e1, e2, e3⟩, e4⟩ := e;refine PureIs.of1 4 [] func50 ntmps50 results50 fun _ => ?_;refine EvC.a ?_ (by simp only [go_sem, bgC, rwA] <;> rfl);refine EvC.z 0 ?_;refine EvC.k1 ?_ (h1 := by simp only [go_sem, bgC, rwA] <;> rfl) (c1 := .ca (equal53_is e1 rn e2 r e3 rc hl));refine EvC.rz ?_;simp only [go_sem]
def brOk (N n wl : Nat) (bs : List (List Int × Int)) (k : Nat) : Bool :=
 match bs[k]? with
 | none => true
 | some b => decide ((n : Int) < b.2) && (decide (b.2 < N) && (decide (b.1.length = wl) && !(bs.take k).any fun c => decide (c.1 = b.1)))
def ndOk (N n : Nat) (ins : Int) (d : Nd) : Bool := decide (wordErr ins d.word = 0) && (decide (d.word.length = 0) == decide (d.br.length = 0)) && (List.range d.br.length).all (brOk N n d.word.length d.br)
def validT (ins : Int) (t : List Nd) : Bool := (List.range t.length).all (fun n => match t[n]? with | none => true | some d => ndOk t.length n ins d) && decide (0 < t.length)
theorem all_range_false {n i : Nat} {p : Nat → Bool} (hi : i < n) (hp : p i = false) : (List.range n).all p = false := by
 rw [Bool.eq_false_iff]; intro h;rw [List.all_eq_true] at h;rw [h i (List.mem_range.2 hi)] at hp; cases hp
theorem all_range_true {n : Nat} {p : Nat → Bool} (h : ∀ i, i < n → p i = true) : (List.range n).all p = true := List.all_eq_true.2 fun i hi => h i (List.mem_range.1 hi)
set_option maxHeartbeats 4000000 in
theorem valid62_is (nl : Bool) (t : List NG) (c : Cp) (ins : Int) (ht : ∀ d ∈ t, NGok d) (hl : t.length < 1000000) :
  PureIs prog 48 [.sl nl (t.map ngC) c, .sc (.int .i64 ins)] (.sc (.bool (validT ins (t.map NG.nd)))) := by
 have hvn : ∀ n d, t[n]? = some d → ndOk t.length n ins d.nd = false → validT ins (t.map NG.nd) = false := fun n d hd h => by
  unfold validT;rw [List.length_map, all_range_false (i := n) (List.getElem?_eq_some_iff.1 hd).1 (by rw [List.getElem?_map, hd]; exact h), Bool.false_and]
 refine PureIs.of1 2 [4, 5, 6, 7, 8, 9, 10, 11, 12, 31, 33, 34, 35, 36, 59, 65] func48 ntmps48 results48 fun _ => ?_;refine EvC.a ?_;refine EvC.seq ?_;refine EvC.a ?_ (by simp only [go_sem, List.length_map] <;> rfl);refine EvC.block ?_;refine EvC.loopS (σ := Nat) (fun n => ⟨[(0, .sl nl (t.map ngC) c), (1, .sc (.int .i64 ins)), (9, .sl nl (t.map ngC) c), (10, .sc (.int .i64 t.length)), (11, .sc (.int .i64 n))], [], [], 0⟩) (fun n => t.length - n) (fun n => n ≤ t.length ∧ ∀ j d, j < n → t[j]? = some d → ndOk t.length j ins d.nd = true) [0, 1, 9, 10, 11] 0 ?_ ?_
 ·exact ⟨[], 0, rfl, (by simp only [go_sem, Int.natCast_zero] <;> rfl), Nat.zero_le _, fun j d h => by omega⟩
 rintro n ⟨hn, hok⟩;refine EvC.a ?_;refine EvC.seq ?_;refine EvC.cond (by simp only [go_sem] <;> rfl) (fun hc => ?_) (fun hc => ?_);rotate_left
 ·refine EvC.exit ?_;obtain rfl : n = t.length := by have : ¬ n < t.length := (by simpa using hc); omega
  refine EvC.a ?_ (by simp only [go_sem, List.length_map] <;> rfl);refine EvC.rz ?_;simp only [go_sem];unfold validT;rw [all_range_true, Bool.true_and, List.length_map]
  ·simp
  ·intro i hi;rw [List.getElem?_map];rw [List.length_map] at hi ⊢;rw [List.getElem?_eq_getElem hi];exact hok i _ hi (List.getElem?_eq_getElem hi)
 have hnl : n < t.length := by simpa using hc
 clear hc;have hd := List.getElem?_eq_getElem hnl;have hdk := ht _ (List.getElem_mem hnl);generalize t[n] = d at hd hdk;obtain ⟨ds, dw, db⟩ := hdk;have hvd := hvn n d hd;have hokd : ndOk t.length n ins d.nd = true → ∀ j e, j < n + 1 → t[j]? = some e → ndOk t.length j ins e.nd = true := fun h j e hj he => by
  by_cases e1 : j = n
  ·subst e1; rw [hd] at he; cases he; exact h
  ·exact hok j e (by omega) he
 obtain ⟨⟨s1, s2, s3⟩, ⟨w1, w2, w3⟩, bn, bs, bc⟩ := d;simp only at ds dw db;rename_i hrs;simp only at hrs;have hnt : ((n : Int)).toNat = n := Int.toNat_natCast n;obtain ⟨nZ, hnZ⟩ : ∃ z : Int, z = (n : Int) := ⟨_, rfl⟩;have hnt : nZ.toNat = n := by omega
 have hdg : (t.map ngC)[n]? = some [.sl s1 (s2.map intC) s3, .sl w1 (w2.map intC) w3, .sl bn (bs.map bgC) bc] := by rw [List.getElem?_map, hd]; rfl
 have hbl : (bs.map bgB).length = bs.length := List.length_map _;rw [← hnZ];refine EvC.skip ?_;refine EvC.seq ?_;refine EvC.block ?_;refine EvC.a ?_ (by simp only [go_sem, hdg, hnt, List.length_map] <;> rfl) (by simp; try omega);refine EvC.z 4 ?_;refine EvC.seq ?_;have q := wordCheck_is w1 w2 w3 ins dw;have hnd : ndOk t.length n ins (NG.nd ⟨(s1, s2, s3), (w1, w2, w3), bn, bs, bc⟩) = (decide (wordErr ins w2 = 0) && decide (w2.length = 0 ↔ bs.length = 0) && (List.range bs.length).all (brOk t.length n w2.length (bs.map bgB))) := by
  simp only [ndOk, NG.nd, hbl];congr 1;by_cases c1 : wordErr ins w2 = 0 <;> by_cases a : w2.length = 0 <;> by_cases b : bs.length = 0 <;> simp [a, b, c1]
 rw [hnd] at hvd hokd;by_cases c1 : wordErr ins w2 = 0;rotate_left
 ·refine EvC.k1 ?_ (c1 := .ca q) (h2 := by simp only [go_sem, decide_eq_false c1, List.length_map] <;> rfl);refine EvC.ct ?_;refine EvC.a ?_;refine EvC.rz ?_;simp only [go_sem];rw [hvd (by simp [c1])]
 refine EvC.k1 ?_ (c1 := .ca q) (h2 := by simp only [go_sem, decide_eq_true c1, List.length_map] <;> rfl);have hb : (decide ((w2.length : Int) = 0) == decide ((bs.length : Int) = 0)) = decide (w2.length = 0 ↔ bs.length = 0) := by
  by_cases a : w2.length = 0 <;> by_cases b : bs.length = 0 <;> simp [a, b]
 by_cases c2 : (w2.length = 0 ↔ bs.length = 0);rotate_left
 ·refine EvC.ct ?_ (by simp only [go_sem, hb, decide_eq_false c2] <;> rfl);refine EvC.a ?_;refine EvC.rz ?_;simp only [go_sem];rw [hvd (by rw [decide_eq_false c2]; simp)]
 refine EvC.cs ?_ (by simp only [go_sem, hb, decide_eq_true c2] <;> rfl);rw [decide_eq_true c1, decide_eq_true c2, Bool.true_and] at hvd hokd;have hvb : ∀ k, k < bs.length → brOk t.length n w2.length (bs.map bgB) k = false → validT ins (t.map NG.nd) = false := fun k hk h => hvd (by rw [all_range_false hk h]; rfl);refine EvC.a ?_ (by simp only [go_sem, List.length_map] <;> rfl);refine EvC.block ?_;refine EvC.loopS (σ := Nat) (fun k => ⟨[(0, .sl nl (t.map ngC) c), (1, .sc (.int .i64 ins)), (5, .sc (.int .i64 nZ)), (6, .ia [.sl s1 (s2.map intC) s3, .sl w1 (w2.map intC) w3, .sl bn (bs.map bgC) bc]), (9, .sl nl (t.map ngC) c), (10, .sc (.int .i64 t.length)), (11, .sc (.int .i64 nZ)), (33, .sl bn (bs.map bgC) bc), (34, .sc (.int .i64 bs.length)), (35, .sc (.int .i64 k))], [], [], 0⟩) (fun k => bs.length - k) (fun k => k ≤ bs.length ∧ ∀ j, j < k → brOk t.length n w2.length (bs.map bgB) j = true) [0, 1, 5, 6, 9, 10, 11, 33, 34, 35] 0 ?_ ?_
 ·exact ⟨[], 0, rfl, (by simp only [go_sem, Int.natCast_zero, List.length_map] <;> rfl), Nat.zero_le _, fun j h => by omega⟩
 rintro k ⟨hk, hbk⟩;refine EvC.a ?_;refine EvC.seq ?_;refine EvC.cond (by simp only [go_sem] <;> rfl) (fun hc => ?_) (fun hc => ?_);rotate_left
 ·refine EvC.exit ?_;obtain rfl : k = bs.length := by have : ¬ k < bs.length := (by simpa using hc); omega
  refine EvC.b ?_ (hok := by exact inI64_of (by omega) (by omega));refine ⟨[], n + 1, rfl, (by rw [hnZ]; simp only [go_sem, Int.natCast_add, Int.natCast_one] <;> rfl), ⟨hnl, hokd ?_⟩, by omega⟩;rw [Bool.true_and]; exact all_range_true hbk
 have hkl : k < bs.length := by simpa using hc
 clear hc;have hbe := List.getElem?_eq_getElem hkl;have hbm := hrs _ (List.getElem_mem hkl);generalize bs[k] = b at hbe hbm;have hbo : brOk t.length n w2.length (bs.map bgB) k = (decide ((n : Int) < b.2) && (decide (b.2 < t.length) && (decide (b.1.2.1.length = w2.length) && !(bs.take k).any fun e => decide (e.1.2.1 = b.1.2.1)))) := by
  unfold brOk;rw [List.getElem?_map, hbe];simp only [Option.map_some, bgB, List.map_take, List.any_map, ← List.map_take];rfl
 have hvk := hvb k hkl;rw [hbo] at hvk;obtain ⟨⟨r1, r2, r3⟩, to⟩ := b;simp only at hbm hvk hbo;have hbg : (bs.map bgC)[k]? = some [.sl r1 (r2.map intC) r3, .sc (.int .i64 to)] := by rw [List.getElem?_map, hbe]; rfl
 obtain ⟨kZ, hkZ⟩ : ∃ z : Int, z = (k : Int) := ⟨_, rfl⟩;have hkt : kZ.toNat = k := by omega
 rw [← hnZ] at hbo hvk;rw [← hkZ];refine EvC.skip ?_;refine EvC.seq ?_;refine EvC.block ?_;refine EvC.a ?_ (by simp only [go_sem, hbg, hkt, List.length_map] <;> rfl) (by simp; try omega);refine EvC.z 4 ?_;refine EvC.seq ?_;by_cases d1 : to ≤ nZ
 ·refine EvC.g ?_ (h := by simp only [go_sem, decide_eq_true d1, List.length_map] <;> rfl);refine EvC.ct ?_;refine EvC.a ?_;refine EvC.rz ?_;simp only [go_sem];rw [hvk (by rw [decide_eq_false (by omega)]; rfl)]
 by_cases d2 : (t.length : Int) ≤ to
 ·refine EvC.g ?_ (h := by simp only [go_sem, decide_eq_false d1, decide_eq_true d2, List.length_map] <;> rfl);refine EvC.ct ?_;refine EvC.a ?_;refine EvC.rz ?_;simp only [go_sem];rw [hvk (by rw [decide_eq_false (show ¬ to < (t.length : Int) by omega)]; simp)]
 by_cases d3 : (r2.length : Int) = w2.length;rotate_left
 ·refine EvC.g ?_ (h := by simp only [go_sem, decide_eq_false d1, decide_eq_false d2, decide_eq_false d3, List.length_map] <;> rfl);refine EvC.ct ?_;refine EvC.a ?_;refine EvC.rz ?_;simp only [go_sem];rw [hvk (by rw [decide_eq_false (show ¬ r2.length = w2.length by omega)]; simp)]
 refine EvC.g ?_ (h := by simp only [go_sem, decide_eq_false d1, decide_eq_false d2, decide_eq_true d3, List.length_map] <;> rfl);refine EvC.cs ?_;have q2 := fun cc => containsB_is bn (bs.take k) cc 78 [.ia (bgC ((r1, r2, r3), to))] rfl (fun e => decide (e.1.2.1 = r2)) (fun e he => valid1_is e ((r1, r2, r3), to) (hrs e (List.mem_of_mem_take he))) (by rw [List.length_take]; omega);have hbo2 : brOk t.length n w2.length (bs.map bgB) k = !(bs.take k).any fun e => decide (e.1.2.1 = r2) := by
  rw [hbo, decide_eq_true (show nZ < to by omega), decide_eq_true (show to < (t.length : Int) by omega), decide_eq_true (show r2.length = w2.length by omega)]; simp
 have hvk2 := hvb k hkl;rw [hbo2] at hvk2;simp only [bgC, rwA] at q2;generalize hany : ((bs.take k).any fun e => decide (e.1.2.1 = r2)) = b at q2 hbo2 hvk2;apply EvC.s1
 ·apply Tr.run
  ·simp only [go_sem, hkt, List.map_take, List.length_map] <;> rfl
  ·simp [bgC]; try omega
  apply Tr.cons
  ·exact .call rfl rfl (by simp only [go_sem] <;> rfl) (by simp only [go_sem] <;> rfl) (by simp only [go_sem, List.map_take] <;> rfl) (by simp only [go_sem] <;> rfl) (by simp only [go_sem] <;> rfl) (q2 _)
  apply Tr.done
  ·simp only [go_sem] <;> rfl
  ·simp
 cases b
 ·refine EvC.cs ?_;refine EvC.b ?_ (hok := by exact inI64_of (by omega) (by omega));refine ⟨[], k + 1, rfl, (by rw [hkZ]; simp only [go_sem, Int.natCast_add, Int.natCast_one] <;> rfl), ⟨hkl, fun j hj => ?_⟩, by omega⟩;by_cases e : j = k
  ·subst e; rw [hbo2]; rfl
  ·exact hbk j (by omega)
 ·refine EvC.ct ?_;refine EvC.a ?_;refine EvC.rz ?_;simp only [go_sem];rw [hvk2 rfl]
theorem clipW_is (nl : Bool) (es : List (List AV)) (c : Cp) (h : (es.all fun y => decide (y.length = 1)) = true) : PureIs prog 51 [.sl nl es c] (.sl nl es .full) := by
 refine PureIs.of1 1 [2] func51 ntmps51 results51 fun _ => ?_;refine EvC.a ?_;refine EvC.a ?_ (hok := by simpa using h);refine EvC.rz ?_;simp only [go_sem]
def toOf (bs : List (List Int × Int)) (r : List Int) : Option Int := (bs.find? fun b => decide (b.1 = r)).map (·.2)
def walkF (t : List Nd) (m : Mach) : Nat → Nat → List (List Int) → Option (Nat × List (List Int))
 | 0, _, _ => none
 | f + 1, n, asked => match t[n]? with
   | none => none
   | some d => if d.word.length = 0 then some (n, asked) else match toOf d.br (runR m 0 d.word) with
     | none => none
     | some to => walkF t m f to.toNat (asked ++ [d.word])
theorem walkF_leaf {t : List Nd} {m : Mach} {f n : Nat} {asked : List (List Int)} {d : Nd} (hd : t[n]? = some d) (h : d.word = []) : walkF t m (f + 1) n asked = some (n, asked) := by
 rw [walkF, hd]; simp [h]
theorem walkF_go {t : List Nd} {m : Mach} {f n : Nat} {asked : List (List Int)} {d : Nd} (hd : t[n]? = some d) (h : d.word ≠ []) : walkF t m (f + 1) n asked = match toOf d.br (runR m 0 d.word) with
  | none => none
  | some to => walkF t m f to.toNat (asked ++ [d.word]) := by
 rw [walkF, hd]; simp [h]
def askC (w : List Int) : List AV := [.sl false (w.map intC) .full]
@[go_sem] theorem norefs_ask (l : List (List Int)) : (l.map askC).all AV.norefs = true := by simp [List.all_eq_true, askC, AV.norefs, AV.noref]
structure NGnil (d : NG) : Prop where
 s : d.s.1 = true → d.s.2.1 = []
 w : d.w.1 = true → d.w.2.1 = []
def walkA (t : List NG) (m : Mach) : AV :=
 if checkM m ≠ 0 then .tu [.sl true [] .unk, .sl true [] .unk, .sc (.int .i64 (checkM m))]
 else if validT m.ins (t.map NG.nd) = false then .tu [.sl true [] .unk, .sl true [] .unk, .sc (.int .i64 1)]
 else match walkF (t.map NG.nd) m t.length 0 [] with
  | none => .tu [.sl true [] .unk, .sl true [] .unk, .sc (.int .i64 7)]
  | some (n, asked) => match t[n]? with
    | none => .junk
    | some d => .tu [.sl d.s.1 (d.s.2.1.map intC) .full, .sl asked.isEmpty (asked.map askC) .full, .sc (.int .i64 0)]
theorem findIdxB_spec {p : BG → Bool} : ∀ (es : List BG) (i : Int), (findIdxB p es i = -1 ∧ es.find? p = none) ∨ ∃ (k : Nat) (b : BG), findIdxB p es i = i + k ∧ es[k]? = some b ∧ es.find? p = some b
 | [], _ => .inl ⟨rfl, rfl⟩
 | e :: es, i => by
   unfold findIdxB;rw [List.find?_cons];by_cases h : p e = true
   ·rw [if_pos h, h]; exact .inr ⟨0, e, by simp, rfl, rfl⟩
   ·rw [if_neg h, Bool.eq_false_iff.2 h];rcases findIdxB_spec es (i + 1) with h1 | ⟨k, b, h1, h2, h3⟩
    ·exact .inl h1
    ·exact .inr ⟨k + 1, b, by rw [h1]; simp only [Int.natCast_add, Int.natCast_one]; omega, by rw [List.getElem?_cons_succ]; exact h2, h3⟩
theorem toOf_bg (bs : List BG) (r : List Int) : toOf (bs.map bgB) r = (bs.find? fun e => decide (e.1.2.1 = r)).map (·.2) := by
 unfold toOf;rw [List.find?_map, Option.map_map];rfl
theorem validT_nd {ins : Int} {t : List Nd} (h : validT ins t = true) : 0 < t.length ∧ ∀ n d, t[n]? = some d → wordErr ins d.word = 0 ∧ (d.word.length = 0 ↔ d.br.length = 0) ∧ ∀ k, k < d.br.length → brOk t.length n d.word.length d.br k = true := by
 unfold validT at h;simp only [Bool.and_eq_true, decide_eq_true_eq, List.all_eq_true, List.mem_range] at h;refine ⟨h.2, fun n d hd => ?_⟩;have := h.1 n (List.getElem?_eq_some_iff.1 hd).1;rw [hd] at this;simp only [ndOk, Bool.and_eq_true, decide_eq_true_eq, List.all_eq_true, List.mem_range] at this;refine ⟨this.1.1, ?_, this.2⟩;have h2 := this.1.2;by_cases a : d.word.length = 0 <;> by_cases b : d.br.length = 0 <;> simp_all
theorem brOk_get {N n wl : Nat} {bs : List (List Int × Int)} {k : Nat} {b : List Int × Int} (h : brOk N n wl bs k = true) (hb : bs[k]? = some b) : (n : Int) < b.2 ∧ b.2 < N ∧ b.1.length = wl ∧ ∀ c ∈ bs.take k, c.1 ≠ b.1 := by
 unfold brOk at h;rw [hb] at h;simp only [Bool.and_eq_true, decide_eq_true_eq, Bool.not_eq_true', List.any_eq_false] at h;exact ⟨h.1, h.2.1, h.2.2.1, h.2.2.2⟩
set_option maxHeartbeats 4000000 in
theorem walk_is (nl : Bool) (t : List NG) (c : Cp) (m : Mach) (hm : ∀ r ∈ m.rows, r.2.length < 1000000) (ht : ∀ d ∈ t, NGok d ∧ NGnil d) (hl : t.length < 1000000) :
  PureIs prog 25 [.sl nl (t.map ngC) c, .ag m.cells] (walkA t m) := by
 have q0 := check_is m hm;have q1 := valid62_is nl t c m.ins (fun d hd => (ht d hd).1) hl;unfold walkA;refine PureIs.of1 2 [3, 4, 5, 6, 7, 8, 9, 10, 12, 16, 22, 29, 49] func25 ntmps25 results25 fun _ => ?_;refine EvC.a ?_ (by simp only [go_sem, Mach.cells] <;> rfl);refine EvC.z 0 ?_;refine EvC.seq ?_;refine EvC.k1 ?_ (h1 := by simp only [go_sem, Mach.cells] <;> rfl) (c1 := .ca q0);refine EvC.a ?_;by_cases h0 : checkM m = 0;rotate_left
 ·rw [if_pos h0];refine EvC.ct ?_ (by simp only [go_sem, decide_eq_false h0] <;> rfl);refine EvC.a ?_;refine EvC.rz ?_;simp only [go_sem]
 rw [if_neg (show ¬ checkM m ≠ 0 from fun h => h h0)];refine EvC.cs ?_ (by simp only [go_sem, decide_eq_true h0] <;> rfl);have hv := Valid.of h0;refine EvC.seq ?_;refine EvC.k1 ?_ (h1 := by simp only [go_sem, Mach.cells] <;> rfl) (c1 := .ca q1);obtain hvt | hvt : validT m.ins (t.map NG.nd) = false ∨ validT m.ins (t.map NG.nd) = true := by cases validT m.ins (t.map NG.nd) <;> simp
 ·rw [if_pos hvt];refine EvC.ct ?_ (by simp only [go_sem, hvt] <;> rfl);refine EvC.a ?_;refine EvC.rz ?_;simp only [go_sem]
 rw [if_neg (show ¬ validT m.ins (t.map NG.nd) = false by rw [hvt]; simp)];refine EvC.cs ?_ (by simp only [go_sem, hvt] <;> rfl);obtain ⟨hpos, hnd⟩ := validT_nd hvt;rw [List.length_map] at hpos hnd;obtain ⟨d0, hd0⟩ : ∃ d, t[0]? = some d := ⟨_, List.getElem?_eq_getElem hpos⟩;have hg0 : (t.map ngC)[0]? = some (ngC d0) := by rw [List.getElem?_map, hd0]; rfl
 simp only [ngC, rwA] at hg0;refine EvC.a ?_;refine EvC.a ?_ (by simp only [go_sem, hg0, List.length_map] <;> rfl) (by simp; try omega);refine EvC.seq ?_;refine EvC.block ?_;obtain ⟨T, hT⟩ : ∃ T, T = t.map NG.nd := ⟨_, rfl⟩;have hTl : T.length = t.length := by rw [hT, List.length_map]
 rw [← hT] at hnd ⊢;refine EvC.loopS (σ := Nat × NG × List (List Int)) (fun g => ⟨[(0, .sl nl (t.map ngC) c), (3, .ia m.cells), (8, .tl 1 g.2.2.length g.2.2.isEmpty), (9, .rf 0 0)], [], [(0, .cells [.sl g.2.1.s.1 (g.2.1.s.2.1.map intC) g.2.1.s.2.2, .sl g.2.1.w.1 (g.2.1.w.2.1.map intC) g.2.1.w.2.2, .sl g.2.1.bn (g.2.1.bs.map bgC) g.2.1.bc]), (1, .arr 1 (g.2.2.map askC) true)], 2⟩) (fun g => t.length - g.1) (fun g => t[g.1]? = some g.2.1 ∧ (∃ f, t.length ≤ f + g.1 ∧ walkF T m f g.1 g.2.2 = walkF T m t.length 0 []) ∧ g.2.2.length ≤ g.1) [0, 3, 8, 9] 2 ?_ ?_
 ·exact ⟨[(18, 0), (14, 1)], (0, d0, []), rfl, (by simp only [go_sem, Mach.cells, List.map_nil, List.length_nil, List.isEmpty_nil] <;> rfl), hd0, ⟨t.length, Nat.le_refl _, rfl⟩, Nat.le_refl _⟩
 rintro ⟨n, d, asked⟩ ⟨hd, ⟨f, hfu, hF⟩, hal⟩;simp only at hd hF hfu hal ⊢;have hnl := (List.getElem?_eq_some_iff.1 hd).1;obtain ⟨hok, hnil⟩ := ht d (List.mem_of_getElem? hd);have hTd : T[n]? = some d.nd := by rw [hT, List.getElem?_map, hd]; rfl
 obtain ⟨v1, v2, v3⟩ := hnd n _ hTd;obtain ⟨f, rfl⟩ : ∃ g, f = g + 1 := ⟨f - 1, by omega⟩;obtain ⟨⟨s1, s2, s3⟩, ⟨w1, w2, w3⟩, bn, bs, bc⟩ := d;obtain ⟨k1, k2, k3, k4⟩ := hok;obtain ⟨k5, k6⟩ := hnil;simp only [NG.nd] at k1 k2 k3 k4 k5 k6 v1 v2 v3 hF ⊢;refine EvC.seq ?_;refine EvC.a ?_ (by simp only [go_sem, List.length_map] <;> rfl);by_cases hw : w2 = []
 ·rw [walkF_leaf hTd hw] at hF;rw [← hF];simp only [hd];subst hw;refine EvC.cf ?_;refine EvC.exit ?_;have q5 := cloneI_is s1 s2 s3 k1 k5;have q6 := clipI_is s1 (s2.map intC) .unk (by simp [List.all_eq_true, intC]);have q7 := clipW_is asked.isEmpty (asked.map askC) .unk (by simp [List.all_eq_true, askC]);have hl2 : (asked.map askC).length = asked.length := List.length_map _;have hn2 := norefs_ask asked;generalize asked.map askC = A at q7 hl2 hn2 ⊢;refine EvC.frz 1 (by simp only [go_sem, hl2, hn2] <;> rfl) ?_;refine EvC.k3 ?_ (h1 := by simp only [go_sem, hl2] <;> rfl) (c1 := .ca q5) (h2 := by simp only [go_sem, hl2] <;> rfl) (c2 := .ca q6) (h3 := by simp only [go_sem, hl2] <;> rfl) (c3 := .ca q7);refine EvC.rz ?_;simp only [go_sem]
 have hwp := List.length_pos_iff.2 hw;rw [walkF_go hTd hw] at hF;have hw1 : w1 = false := by
  cases w1 with
  | false => rfl
  | true => exact absurd (k6 rfl) hw
 subst hw1;refine EvC.cr ?_ (by simp only [go_sem, decide_eq_true (show (0 : Int) < w2.length by omega)] <;> rfl);refine EvC.block ?_;have q5 := cloneI_is false w2 w3 k2 k6;have q6 := clipI_is false (w2.map intC) .unk (by simp [List.all_eq_true, intC]);have hr : room (asked.length + 1) 24 = true := by simp only [room_eq, decide_eq_true_eq]; omega
 refine EvC.k2 ?_ (c1 := .ca q5) (c2 := .ca q6) (h3 := by simp only [go_sem, List.length_map] <;> rfl) (k3 := by simp [hr]);have hrw := hv.rows;have q8 := run52_is hv 0 ⟨by omega, by omega⟩ false w2 w3 v1 k2;refine EvC.k1 ?_ (h1 := by simp only [go_sem, Mach.cells] <;> rfl) (c1 := .ca q8);refine EvC.z 21 ?_;have q9 := indexB_is bn bs bc 50 [.ia [.sl false ((runR m 0 w2).map intC) .unk]] rfl (fun e => decide (e.1.2.1 = runR m 0 w2)) (fun e he => walk1_is e false _ .unk (k4 e he)) k3;refine EvC.k1 ?_ (c1 := .ca q9);simp only [NG.nd] at hF;rw [toOf_bg] at hF;refine EvC.seq ?_;refine EvC.a ?_;rcases findIdxB_spec (p := fun e => decide (e.1.2.1 = runR m 0 w2)) bs 0 with ⟨f1, f2⟩ | ⟨k, b, f1, f2, f3⟩
 ·rw [f2] at hF;rw [← hF];refine EvC.ct ?_ (by simp only [go_sem, f1] <;> rfl);refine EvC.a ?_;refine EvC.rz ?_;simp only [go_sem]
 have hkl := (List.getElem?_eq_some_iff.1 f2).1;have hbo := v3 k (by rw [List.length_map]; exact hkl);obtain ⟨b1, b2, _, _⟩ := brOk_get hbo (show (bs.map bgB)[k]? = some (bgB b) by rw [List.getElem?_map, f2]; rfl);rw [f3] at hF;simp only [Option.map_some] at hF;obtain ⟨⟨r1, r2, r3⟩, to⟩ := b;simp only [bgB] at b1 b2 hF;obtain ⟨d2, hd2⟩ : ∃ d, t[to.toNat]? = some d := ⟨_, List.getElem?_eq_getElem (by omega)⟩;have hg2 : (t.map ngC)[to.toNat]? = some (ngC d2) := by rw [List.getElem?_map, hd2]; rfl
 simp only [ngC, rwA] at hg2;have hbg : (bs.map bgC)[k]? = some [.sl r1 (r2.map intC) r3, .sc (.int .i64 to)] := by rw [List.getElem?_map, f2]; rfl
 obtain ⟨kZ, hkZ⟩ : ∃ z : Int, z = (0 : Int) + k := ⟨_, rfl⟩;have hkt : kZ.toNat = k := by omega
 rw [← hkZ] at f1;refine EvC.cs ?_ (by simp only [go_sem, f1, decide_eq_false (show ¬ kZ < 0 by omega)] <;> rfl);refine EvC.b ?_ (by simp only [go_sem, f1, hkt, hbg, hg2, List.length_map] <;> rfl) (by simp; try omega);have hne : (asked ++ [w2]).isEmpty = false := by cases asked <;> rfl
 exact ⟨[(0, 0), (1, 1)], (to.toNat, d2, asked ++ [w2]), rfl, (by simp only [go_sem, hne, List.map_append, List.map_cons, List.map_nil, askC, List.length_append, List.length_cons, List.length_nil, List.length_map] <;> rfl), ⟨hd2, ⟨f, by simp only; omega, hF⟩, by simp only [List.length_append, List.length_cons, List.length_nil]; omega⟩, by simp only; omega⟩
theorem faO_nil {m : Mach} {k s i t a : Int} : ∀ {n : Nat}, (∀ o : Nat, o < n → faultB m ⟨k, s, i, t, a, o⟩ = false) → faO m k s i t a n = []
 | 0, _ => rfl
 | n + 1, h => by rw [faO, faO_nil fun o ho => h o (by omega), h n (by omega)]; rfl
theorem faA_nil {m : Mach} {k s i t : Int} : ∀ {n : Nat}, (∀ a : Nat, a < n → faO m k s i t a m.outs.toNat = []) → faA m k s i t n = []
 | 0, _ => rfl
 | n + 1, h => by rw [faA, faA_nil fun o ho => h o (by omega), h n (by omega)]; rfl
theorem faT_nil {m : Mach} {k s i : Int} : ∀ {n : Nat}, (∀ t : Nat, t < n → faA m k s i t m.ins.toNat = []) → faT m k s i n = []
 | 0, _ => rfl
 | n + 1, h => by rw [faT, faT_nil fun o ho => h o (by omega), h n (by omega)]; rfl
theorem faO_zero {m : Mach} {k s i t a : Int} : ∀ {n : Nat}, 1 ≤ n → (∀ o : Nat, 1 ≤ o → o < n → faultB m ⟨k, s, i, t, a, o⟩ = false) → faO m k s i t a n = if faultB m ⟨k, s, i, t, a, 0⟩ = true then [⟨k, s, i, t, a, 0⟩] else []
 | n + 1, _, h => by
   by_cases hn : n = 0
   ·subst hn; simp only [faO, List.nil_append]; rfl
   ·rw [faO, faO_zero (by omega) fun o h1 h2 => h o h1 (by omega), h n (by omega) (by omega)]; simp
theorem faA_zero {m : Mach} {k s i t : Int} : ∀ {n : Nat}, 1 ≤ n → (∀ a : Nat, 1 ≤ a → a < n → faO m k s i t a m.outs.toNat = []) → faA m k s i t n = faO m k s i t 0 m.outs.toNat
 | n + 1, _, h => by
   by_cases hn : n = 0
   ·subst hn; simp only [faA, List.nil_append]; rfl
   ·rw [faA, faA_zero (by omega) fun o h1 h2 => h o h1 (by omega), h n (by omega) (by omega), List.append_nil]
theorem faT_zero {m : Mach} {k s i : Int} : ∀ {n : Nat}, 1 ≤ n → (∀ t : Nat, 1 ≤ t → t < n → faA m k s i t m.ins.toNat = []) → faT m k s i n = faA m k s i 0 m.ins.toNat
 | n + 1, _, h => by
   by_cases hn : n = 0
   ·subst hn; simp only [faT, List.nil_append]; rfl
   ·rw [faT, faT_zero (by omega) fun o h1 h2 => h o h1 (by omega), h n (by omega) (by omega), List.append_nil]
theorem faT_of {m : Mach} (hv : Valid m) {k s i : Int} (hk : 0 ≤ k ∧ k ≤ 4) : faT m k s i m.rows.length = if definedB m s i = true then ofF m k s i else [] := by
 have h1 := hv.rows;have h2 := hv.ins;have h3 := hv.outs;by_cases hd : definedB m s i = true;rotate_left
 ·rw [if_neg hd];refine faT_nil fun t ht => faA_nil fun a ha => faO_nil fun o ho => ?_;unfold faultB;rw [Bool.eq_false_iff.2 hd]; simp
 rw [if_pos hd];obtain ⟨r, _, _, hto⟩ := step_in hv hd;have hfb : ∀ t a o : Int, faultB m ⟨k, s, i, t, a, o⟩ = (plainB ⟨k, s, i, t, a, o⟩ && kindB m ⟨k, s, i, t, a, o⟩) := fun t a o => by
  unfold faultB;rw [show definedB m (FA.state ⟨k, s, i, t, a, o⟩) (FA.input ⟨k, s, i, t, a, o⟩) = true from hd, Bool.true_and]
 obtain rfl | rfl | rfl | rfl | rfl : k = 0 ∨ k = 1 ∨ k = 2 ∨ k = 3 ∨ k = 4 := by omega
 ·
  rw [faT_zero h1.1 fun t ht _ => faA_nil fun a _ => faO_nil fun o _ => by rw [hfb]; simp [plainB]; omega];rw [faA_zero (by omega) fun a ha _ => faO_nil fun o _ => by rw [hfb]; simp [plainB]; omega];have : ∀ n : Nat, (n : Int) ≤ m.outs → faO m 0 s i 0 0 n = ofO 0 s i (stepM m s i).2 n := fun n => by
   induction n with
   | zero => intro _; rfl
   | succ n ih =>
     intro hn;rw [faO, ofO, ih (by omega), hfb];by_cases e : (n : Int) = (stepM m s i).2
     ·simp [plainB, kindB, inN, e]
     ·have : (n : Int) < m.outs := by omega
      simp [plainB, kindB, inN, e, this]
  rw [this _ (by omega)]; rfl
 ·
  have : ∀ n : Nat, n ≤ m.rows.length → faT m 1 s i n = ofT 1 s i (stepM m s i).1 n := fun n => by
   induction n with
   | zero => intro _; rfl
   | succ n ih =>
     intro hn;rw [faT, ofT, ih (by omega), faA_zero (by omega) fun a ha _ => faO_nil fun o _ => by rw [hfb]; simp [plainB]; omega];rw [faO_zero (by omega) fun o h1 _ => by rw [hfb]; simp [plainB]; omega, hfb];by_cases e : (n : Int) = (stepM m s i).1
     ·simp [plainB, kindB, inN, e]
     ·have : (n : Int) < m.rows.length := by omega
      simp [plainB, kindB, inN, e, this]
  rw [this _ (Nat.le_refl _)]; rfl
 ·
  rw [faT_zero h1.1 fun t ht _ => faA_nil fun a _ => faO_nil fun o _ => by rw [hfb]; simp [plainB]; omega];rw [faA_zero (by omega) fun a ha _ => faO_nil fun o _ => by rw [hfb]; simp [plainB]; omega];rw [faO_zero (by omega) fun o h1 _ => by rw [hfb]; simp [plainB]; omega, hfb];simp [plainB, kindB, ofF]
 ·
  have : ∀ n : Nat, n ≤ m.rows.length → faT m 3 s i n = ofT 3 s i (stepM m s i).1 n := fun n => by
   induction n with
   | zero => intro _; rfl
   | succ n ih =>
     intro hn;rw [faT, ofT, ih (by omega), faA_zero (by omega) fun a ha _ => faO_nil fun o _ => by rw [hfb]; simp [plainB]; omega];rw [faO_zero (by omega) fun o h1 _ => by rw [hfb]; simp [plainB]; omega, hfb];have : (n : Int) < m.rows.length := by omega
     simp [plainB, kindB, inN, this]
  rw [this _ (Nat.le_refl _)]; rfl
 ·
  rw [faT_zero h1.1 fun t ht _ => faA_nil fun a _ => faO_nil fun o _ => by rw [hfb]; simp [plainB]; omega];have hO : ∀ (a n : Nat), (a : Int) < m.ins → (n : Int) ≤ m.outs → faO m 4 s i 0 a n = ofDo s i a (stepM m (stepM m s i).1 a) n := fun a n => by
   induction n with
   | zero => intro _ _; rfl
   | succ n ih =>
     intro ha hn;have hda : definedB m (stepM m s i).1 a = !decide ((stepM m (stepM m s i).1 a).1 = -1) := by
      unfold definedB;rw [decide_eq_true hto.1, decide_eq_true hto.2, decide_eq_true (Int.natCast_nonneg a), decide_eq_true ha]; simp
     rw [faO, ofDo, ih ha (by omega), hfb];have hnl : (n : Int) < m.outs := by omega
     by_cases e1 : (stepM m (stepM m s i).1 a).1 = -1
     ·simp [plainB, kindB, inN, hda, e1]
     ·by_cases e : (n : Int) = (stepM m (stepM m s i).1 a).2
      ·simp [plainB, kindB, inN, hda, e1, e]
      ·simp [plainB, kindB, inN, hda, e1, e, hnl]
  have hA : ∀ n : Nat, (n : Int) ≤ m.ins → faA m 4 s i 0 n = ofD m s i (stepM m s i).1 n := fun n => by
   induction n with
   | zero => intro _; rfl
   | succ n ih => intro hn; rw [faA, ofD, ih (by omega), hO n _ (by omega) (by omega)]
  rw [hA _ (by omega)]; rfl
theorem alE_app (m : Mach) (k : Int) (a b : List (Int × Int)) : alE m k (a ++ b) = alE m k a ++ alE m k b := List.flatMap_append
theorem faI_of {m : Mach} (hv : Valid m) {k s : Int} (hk : 0 ≤ k ∧ k ≤ 4) : ∀ n : Nat, faI m k s n = alE m k (egI m s n)
 | 0 => rfl
 | n + 1 => by
   rw [faI, egI, faI_of hv hk n, alE_app, faT_of hv hk];split
   ·simp [alE]
   ·simp [alE]
theorem faS_of {m : Mach} (hv : Valid m) {k : Int} (hk : 0 ≤ k ∧ k ≤ 4) : ∀ n : Nat, faS m k n = alE m k (egS m n)
 | 0 => rfl
 | n + 1 => by rw [faS, egS, faS_of hv hk n, alE_app, faI_of hv hk]
theorem allF_alF {m : Mach} (hv : Valid m) {ks : List Int} (hk : ∀ k ∈ ks, 0 ≤ k ∧ k ≤ 4) : allF m ks = alF m ks := by
 have : ∀ n, n ≤ ks.length → faK m ks n = alF m (ks.take n) := fun n => by
  induction n with
  | zero => intro _; rfl
  | succ n ih =>
    intro hn;have he : ks[n]? = some ks[n] := List.getElem?_eq_getElem hn;rw [faK, ih (by omega), he, List.take_succ_eq_append_getElem hn];simp only [Option.getD_some];rw [faS_of hv (hk _ (List.getElem_mem hn))];simp only [alF, List.flatMap_append, List.flatMap_cons, List.flatMap_nil, List.append_nil]; rfl
 rw [allF, this _ (Nat.le_refl _), List.take_length]
theorem kLast_in : ∀ {ks : List Int} {l b : Int}, kLast ks b = some l → b ≤ l ∧ ∀ k ∈ ks, b < k ∧ k ≤ 4 ∧ k ≤ l
 | [], l, b, h => by cases h; exact ⟨Int.le_refl _, fun k h => by cases h⟩
 | k :: ks, l, b, h => by
   rw [kLast] at h;split at h
   ·cases h
   ·rename_i h1;obtain ⟨h2, h3⟩ := kLast_in h;refine ⟨by omega, fun j hj => ?_⟩;rcases List.mem_cons.1 hj with rfl | hj
    ·omega
    ·have := h3 j hj; omega
theorem faK_kind {m : Mach} {ks : List Int} {f : FA} (hv : Valid m) (hk : ∀ k ∈ ks, 0 ≤ k ∧ k ≤ 4) (h : f ∈ alF m ks) : faultB m f = true ∧ f.kind ∈ ks := by
 refine ⟨by rw [← allF_alF hv hk] at h; exact faK_mem h, ?_⟩;have hof : ∀ k s i, ∀ f ∈ ofF m k s i, f.kind = k := by
  intro k s i f hf;have hO : ∀ n e1, ∀ f ∈ ofO k s i e1 n, f.kind = k := fun n e1 => by
   induction n with
   | zero => intro f h; cases h
   | succ n ih =>
     intro f h;rw [ofO] at h;rcases List.mem_append.1 h with h | h
     ·exact ih f h
     ·split at h
      ·rw [List.mem_singleton] at h; subst h; rfl
      ·cases h
  have hT : ∀ n e1, ∀ f ∈ ofT k s i e1 n, f.kind = k := fun n e1 => by
   induction n with
   | zero => intro f h; cases h
   | succ n ih =>
     intro f h;rw [ofT] at h;rcases List.mem_append.1 h with h | h
     ·exact ih f h
     ·split at h
      ·rw [List.mem_singleton] at h; subst h; rfl
      ·cases h
  unfold ofF at hf;split at hf
  ·exact hO _ _ f hf
  split at hf
  ·exact hT _ _ f hf
  split at hf
  ·rw [List.mem_singleton] at hf; subst hf; rfl
  split at hf
  ·rename_i h4;subst h4;have hDo : ∀ a e n, ∀ f ∈ ofDo s i a e n, f.kind = 4 := fun a e n => by
    induction n with
    | zero => intro f h; cases h
    | succ n ih =>
      intro f h;rw [ofDo] at h;rcases List.mem_append.1 h with h | h
      ·exact ih f h
      ·split at h
       ·rw [List.mem_singleton] at h; subst h; rfl
       ·cases h
   have hD : ∀ t n, ∀ f ∈ ofD m s i t n, f.kind = 4 := fun t n => by
    induction n with
    | zero => intro f h; cases h
    | succ n ih =>
      intro f h;rw [ofD] at h;rcases List.mem_append.1 h with h | h
      ·exact ih f h
      ·exact hDo _ _ _ f h
   exact hD _ _ f hf
  ·cases hf
 unfold alF at h;rw [List.mem_flatMap] at h;obtain ⟨k, hk1, hk2⟩ := h;unfold alE at hk2;rw [List.mem_flatMap] at hk2;obtain ⟨p, _, hp⟩ := hk2;rw [hof k _ _ f hp]; exact hk1
theorem alF_ok {m : Mach} {ks : List Int} {most : Int} (h : readyR m ks most = 0) : ∀ f ∈ alF m ks, checkF m f = 0 := by
 obtain ⟨hc, _, _, l, hl⟩ := readyR_ok h;have hv := Valid.of hc;have hkl := kLast_in hl;intro f hf;obtain ⟨h1, h2⟩ := faK_kind hv (fun k hk => by have := hkl.2 k hk; omega) hf;have := hkl.2 _ h2;unfold checkF;rw [if_pos h1];unfold readyR at h;rw [if_neg (fun h => h hc), hl] at h;simp only at h;split at h
 ·cases h
 ·split at h
  ·cases h
  ·rename_i h3;rw [if_neg (by omega)]
theorem wordErr_iff {n : Int} {w : List Int} (hn : 1 ≤ n ∧ n ≤ 16) : wordErr n w = 0 ↔ w.length ≤ 256 ∧ ∀ a ∈ w, 0 ≤ a ∧ a < n := by
 constructor
 ·intro h;refine ⟨?_, wordErr_zero h⟩;unfold wordErr at h;split at h
  ·cases h
  ·omega
 ·intro h; exact wordErr_of hn h.1 h.2
set_option maxHeartbeats 8000000 in
theorem refvalid_is (nl : Bool) (t : List NG) (c : Cp) (m : Mach) (hv : Valid m) (ht : ∀ d ∈ t, NGok d) (hl : t.length < 1000000) :
  PureIs prog 9 [.sl nl (t.map ngC) c, .ag m.cells] (.sc (.bool (validT m.ins (t.map NG.nd)))) := by
 have hins := hv.ins;have hvn : ∀ n d, t[n]? = some d → ndOk t.length n m.ins d.nd = false → validT m.ins (t.map NG.nd) = false := fun n d hd h => by
  unfold validT;rw [List.length_map, all_range_false (i := n) (List.getElem?_eq_some_iff.1 hd).1 (by rw [List.getElem?_map, hd]; exact h), Bool.false_and]
 refine PureIs.of1 2 [3, 4, 5, 6, 7, 8, 9, 10, 14, 35, 40, 58, 63, 90, 93, 104] func9 ntmps9 results9 fun _ => ?_;refine EvC.a ?_ (by simp only [go_sem, Mach.cells] <;> rfl);refine EvC.z 0 ?_;refine EvC.seq ?_;refine EvC.a ?_;refine EvC.block ?_;refine EvC.loopS (σ := Nat) (fun n => ⟨[(0, .sl nl (t.map ngC) c), (3, .ia m.cells), (5, .sc (.int .i64 n))], [], [], 0⟩) (fun n => t.length - n) (fun n => n ≤ t.length ∧ ∀ j d, j < n → t[j]? = some d → ndOk t.length j m.ins d.nd = true) [0, 3, 5] 0 ?_ ?_
 ·exact ⟨[], 0, rfl, (by simp only [go_sem, Int.natCast_zero, Mach.cells] <;> rfl), Nat.zero_le _, fun j d h => by omega⟩
 rintro n ⟨hn, hok⟩;refine EvC.seq ?_;refine EvC.a ?_ (by simp only [go_sem, List.length_map] <;> rfl);refine EvC.cond (by simp only [go_sem] <;> rfl) (fun hc => ?_) (fun hc => ?_);rotate_left
 ·refine EvC.exit ?_;obtain rfl : n = t.length := by have : ¬ n < t.length := (by simpa using hc); omega
  refine EvC.a ?_ (by simp only [go_sem, List.length_map] <;> rfl);refine EvC.rz ?_;simp only [go_sem];unfold validT;rw [all_range_true, Bool.true_and, List.length_map]
  ·simp
  ·intro i hi;rw [List.getElem?_map];rw [List.length_map] at hi ⊢;rw [List.getElem?_eq_getElem hi];exact hok i _ hi (List.getElem?_eq_getElem hi)
 have hnl : n < t.length := by simpa using hc
 clear hc;have hd := List.getElem?_eq_getElem hnl;have hdk := ht _ (List.getElem_mem hnl);generalize t[n] = d at hd hdk;obtain ⟨ds, dw, db, hrs⟩ := hdk;have hvd := hvn n d hd;have hokd : ndOk t.length n m.ins d.nd = true → ∀ j e, j < n + 1 → t[j]? = some e → ndOk t.length j m.ins e.nd = true := fun h j e hj he => by
  by_cases e1 : j = n
  ·subst e1; rw [hd] at he; cases he; exact h
  ·exact hok j e (by omega) he
 obtain ⟨⟨s1, s2, s3⟩, ⟨w1, w2, w3⟩, bn, bs, bc⟩ := d;simp only at ds dw db hrs;obtain ⟨nZ, hnZ⟩ : ∃ z : Int, z = (n : Int) := ⟨_, rfl⟩;have hnt : nZ.toNat = n := by omega
 have hdg : (t.map ngC)[n]? = some [.sl s1 (s2.map intC) s3, .sl w1 (w2.map intC) w3, .sl bn (bs.map bgC) bc] := by rw [List.getElem?_map, hd]; rfl
 have hbl : (bs.map bgB).length = bs.length := List.length_map _;have hnd : ndOk t.length n m.ins (NG.nd ⟨(s1, s2, s3), (w1, w2, w3), bn, bs, bc⟩) = (decide (wordErr m.ins w2 = 0) && decide (w2.length = 0 ↔ bs.length = 0) && (List.range bs.length).all (brOk t.length n w2.length (bs.map bgB))) := by
  simp only [ndOk, NG.nd, hbl];congr 1;by_cases c1 : wordErr m.ins w2 = 0 <;> by_cases a : w2.length = 0 <;> by_cases b : bs.length = 0 <;> simp [a, b, c1]
 rw [hnd] at hvd hokd;have hvw : wordErr m.ins w2 ≠ 0 → validT m.ins (t.map NG.nd) = false := fun h => hvd (by rw [decide_eq_false h]; rfl);rw [← hnZ];refine EvC.skip ?_;refine EvC.seq ?_;refine EvC.block ?_;refine EvC.a ?_ (by simp only [go_sem, hdg, hnt, List.length_map] <;> rfl) (by simp; try omega);refine EvC.z 8 ?_;refine EvC.seq ?_;have hb : (decide ((w2.length : Int) = 0) == decide ((bs.length : Int) = 0)) = decide (w2.length = 0 ↔ bs.length = 0) := by
  by_cases a : w2.length = 0 <;> by_cases b : bs.length = 0 <;> simp [a, b]
 by_cases c2 : (w2.length = 0 ↔ bs.length = 0);rotate_left
 ·refine EvC.g ?_ (h := by simp only [go_sem, List.length_map, hb, decide_eq_false c2] <;> rfl);refine EvC.ct ?_;refine EvC.a ?_;refine EvC.rz ?_;simp only [go_sem];rw [hvd (by rw [decide_eq_false c2]; simp)]
 by_cases c3 : (256 : Int) < w2.length
 ·refine EvC.g ?_ (h := by simp only [go_sem, List.length_map, hb, decide_eq_true c2, decide_eq_true c3] <;> rfl);refine EvC.ct ?_;refine EvC.a ?_;refine EvC.rz ?_;simp only [go_sem];rw [hvw fun h => by have := ((wordErr_iff hins).1 h).1; omega]
 refine EvC.g ?_ (h := by simp only [go_sem, List.length_map, hb, decide_eq_true c2, decide_eq_false c3] <;> rfl);refine EvC.cs ?_;refine EvC.seq ?_;refine EvC.a ?_;refine EvC.block ?_;refine EvC.loopS (σ := Nat) (fun k => ⟨[(0, .sl nl (t.map ngC) c), (3, .ia m.cells), (5, .sc (.int .i64 nZ)), (6, .ia [.sl s1 (s2.map intC) s3, .sl w1 (w2.map intC) w3, .sl bn (bs.map bgC) bc]), (7, .sc (.int .i64 k))], [], [], 0⟩) (fun k => w2.length - k) (fun k => k ≤ w2.length ∧ ∀ j a, j < k → w2[j]? = some a → 0 ≤ a ∧ a < m.ins) [0, 3, 5, 6, 7] 0 ?_ ?_
 ·exact ⟨[], 0, rfl, (by simp only [go_sem, Int.natCast_zero, Mach.cells] <;> rfl), Nat.zero_le _, fun j a h => by omega⟩
 rintro k ⟨hk, hwk⟩;refine EvC.seq ?_;refine EvC.a ?_ (by simp only [go_sem, List.length_map] <;> rfl);refine EvC.cond (by simp only [go_sem] <;> rfl) (fun hc => ?_) (fun hc => ?_);rotate_left
 ·refine EvC.exit ?_;obtain rfl : k = w2.length := by have : ¬ k < w2.length := (by simpa using hc); omega
  have c1 : wordErr m.ins w2 = 0 := (wordErr_iff hins).2 ⟨by omega, fun a ha => by
   obtain ⟨j, hj, rfl⟩ := List.getElem_of_mem ha;exact hwk j _ hj (List.getElem?_eq_getElem hj)⟩
  rw [decide_eq_true c1, decide_eq_true c2, Bool.true_and] at hvd hokd;have hvb : ∀ k, k < bs.length → brOk t.length n w2.length (bs.map bgB) k = false → validT m.ins (t.map NG.nd) = false := fun k hk h => hvd (by rw [all_range_false hk h]; rfl);refine EvC.a ?_;refine EvC.block ?_;refine EvC.loopS (σ := Nat) (fun k => ⟨[(0, .sl nl (t.map ngC) c), (3, .ia m.cells), (5, .sc (.int .i64 nZ)), (6, .ia [.sl s1 (s2.map intC) s3, .sl w1 (w2.map intC) w3, .sl bn (bs.map bgC) bc]), (8, .sc (.int .i64 k))], [], [], 0⟩) (fun k => bs.length - k) (fun k => k ≤ bs.length ∧ ∀ j, j < k → brOk t.length n w2.length (bs.map bgB) j = true) [0, 3, 5, 6, 8] 0 ?_ ?_
  ·exact ⟨[], 0, rfl, (by simp only [go_sem, Int.natCast_zero, Mach.cells] <;> rfl), Nat.zero_le _, fun j h => by omega⟩
  rintro k ⟨hk, hbk⟩;refine EvC.seq ?_;refine EvC.a ?_ (by simp only [go_sem, List.length_map] <;> rfl);refine EvC.cond (by simp only [go_sem] <;> rfl) (fun hc => ?_) (fun hc => ?_);rotate_left
  ·refine EvC.exit ?_;obtain rfl : k = bs.length := by have : ¬ k < bs.length := (by simpa using hc); omega
   refine EvC.b ?_ (hok := by exact inI64_of (by omega) (by omega));refine ⟨[], n + 1, rfl, (by rw [hnZ]; simp only [go_sem, Mach.cells, Int.natCast_add, Int.natCast_one] <;> rfl), ⟨hnl, hokd ?_⟩, by omega⟩;rw [Bool.true_and]; exact all_range_true hbk
  have hkl : k < bs.length := by simpa using hc
  clear hc;have hbe := List.getElem?_eq_getElem hkl;have hbm := hrs _ (List.getElem_mem hkl);generalize bs[k] = b at hbe hbm;have hbo : brOk t.length n w2.length (bs.map bgB) k = (decide ((n : Int) < b.2) && (decide (b.2 < t.length) && (decide (b.1.2.1.length = w2.length) && !(bs.take k).any fun e => decide (e.1.2.1 = b.1.2.1)))) := by
   unfold brOk;rw [List.getElem?_map, hbe];simp only [Option.map_some, bgB, List.map_take, List.any_map, ← List.map_take];rfl
  have hvk := hvb k hkl;rw [hbo] at hvk;obtain ⟨⟨r1, r2, r3⟩, to⟩ := b;simp only at hbm hvk hbo;have hbg : (bs.map bgC)[k]? = some [.sl r1 (r2.map intC) r3, .sc (.int .i64 to)] := by rw [List.getElem?_map, hbe]; rfl
  obtain ⟨kZ, hkZ⟩ : ∃ z : Int, z = (k : Int) := ⟨_, rfl⟩;have hkt : kZ.toNat = k := by omega
  rw [← hnZ] at hbo hvk;rw [← hkZ];refine EvC.skip ?_;refine EvC.seq ?_;refine EvC.block ?_;refine EvC.a ?_ (by simp only [go_sem, hbg, hkt, List.length_map] <;> rfl) (by simp; try omega);refine EvC.z 10 ?_;refine EvC.seq ?_;by_cases d1 : to ≤ nZ
  ·refine EvC.g ?_ (h := by simp only [go_sem, decide_eq_true d1, List.length_map] <;> rfl);refine EvC.ct ?_;refine EvC.a ?_;refine EvC.rz ?_;simp only [go_sem];rw [hvk (by rw [decide_eq_false (by omega)]; rfl)]
  by_cases d2 : (t.length : Int) ≤ to
  ·refine EvC.g ?_ (h := by simp only [go_sem, decide_eq_false d1, decide_eq_true d2, List.length_map] <;> rfl);refine EvC.ct ?_;refine EvC.a ?_;refine EvC.rz ?_;simp only [go_sem];rw [hvk (by rw [decide_eq_false (show ¬ to < (t.length : Int) by omega)]; simp)]
  by_cases d3 : (r2.length : Int) = w2.length;rotate_left
  ·refine EvC.g ?_ (h := by simp only [go_sem, decide_eq_false d1, decide_eq_false d2, decide_eq_false d3, List.length_map] <;> rfl);refine EvC.ct ?_;refine EvC.a ?_;refine EvC.rz ?_;simp only [go_sem];rw [hvk (by rw [decide_eq_false (show ¬ r2.length = w2.length by omega)]; simp)]
  refine EvC.g ?_ (h := by simp only [go_sem, decide_eq_false d1, decide_eq_false d2, decide_eq_true d3, List.length_map] <;> rfl);refine EvC.cs ?_;have hbo2 : brOk t.length n w2.length (bs.map bgB) k = !(bs.take k).any fun e => decide (e.1.2.1 = r2) := by
   rw [hbo, decide_eq_true (show nZ < to by omega), decide_eq_true (show to < (t.length : Int) by omega), decide_eq_true (show r2.length = w2.length by omega)]; simp
  have hvk2 := hvb k hkl;rw [hbo2] at hvk2;refine EvC.a ?_;refine EvC.block ?_;refine EvC.loopS (σ := Nat) (fun j => ⟨[(0, .sl nl (t.map ngC) c), (3, .ia m.cells), (5, .sc (.int .i64 nZ)), (6, .ia [.sl s1 (s2.map intC) s3, .sl w1 (w2.map intC) w3, .sl bn (bs.map bgC) bc]), (8, .sc (.int .i64 kZ)), (9, .ia [.sl r1 (r2.map intC) r3, .sc (.int .i64 to)]), (10, .sc (.int .i64 j))], [], [], 0⟩) (fun j => k - j) (fun j => j ≤ k ∧ ∀ i e, i < j → bs[i]? = some e → e.1.2.1 ≠ r2) [0, 3, 5, 6, 8, 9, 10] 0 ?_ ?_
  ·exact ⟨[], 0, rfl, (by simp only [go_sem, Int.natCast_zero, Mach.cells] <;> rfl), Nat.zero_le _, fun i e h => by omega⟩
  rintro j ⟨hj, hje⟩;refine EvC.seq ?_;refine EvC.a ?_;by_cases hjk : j < k;rotate_left
  ·refine EvC.cf ?_ (by simp only [go_sem, decide_eq_false (show ¬ (j : Int) < kZ by omega)] <;> rfl);refine EvC.exit ?_;obtain rfl : j = k := by omega
   refine EvC.b ?_ (hok := by exact inI64_of (by omega) (by omega));refine ⟨[], j + 1, rfl, (by rw [hkZ]; simp only [go_sem, Mach.cells, Int.natCast_add, Int.natCast_one] <;> rfl), ⟨hkl, fun i hi => ?_⟩, by omega⟩;by_cases e : i = j
   ·subst e;rw [hbo2, Bool.not_eq_true', List.any_eq_false];intro e he;obtain ⟨i', hi', rfl⟩ := List.getElem_of_mem he;have h1 : i' < i := by simp at hi'; omega
    rw [List.getElem_take];simpa using hje i' _ h1 (List.getElem?_eq_getElem (by omega))
   ·exact hbk i (by omega)
  refine EvC.ct ?_ (by simp only [go_sem, decide_eq_true (show (j : Int) < kZ by omega)] <;> rfl);have hee := List.getElem?_eq_getElem (show j < bs.length by omega);have hem := hrs _ (List.getElem_mem (show j < bs.length by omega));have htm : bs[j] ∈ bs.take k := List.mem_take_iff_getElem.2 ⟨j, by omega, rfl⟩;generalize bs[j]'(by omega) = e at hee hem htm;obtain ⟨⟨e1, e2, e3⟩, e4⟩ := e;simp only at hem;have heg : (bs.map bgC)[j]? = some [.sl e1 (e2.map intC) e3, .sc (.int .i64 e4)] := by rw [List.getElem?_map, hee]; rfl
  obtain ⟨jZ, hjZ⟩ : ∃ z : Int, z = (j : Int) := ⟨_, rfl⟩;have hjt : jZ.toNat = j := by omega
  have q := same_is e1 e2 e3 r1 r2 r3 hem;rw [← hjZ];refine EvC.skip ?_;refine EvC.seq ?_;refine EvC.block ?_;refine EvC.k1D mixed ?_ (h1 := by simp only [go_sem, heg, hjt, List.length_map] <;> rfl) (k1 := by simp; try omega) (c1 := .ca q);by_cases hx : e2 = r2
  ·refine EvC.ct ?_ (by simp only [go_sem, decide_eq_true hx] <;> rfl);refine EvC.a ?_;refine EvC.rz ?_;simp only [go_sem];rw [hvk2 (by rw [Bool.not_eq_false', List.any_eq_true]; exact ⟨_, htm, by simpa using hx⟩)]
  ·refine EvC.cs ?_ (by simp only [go_sem, decide_eq_false hx] <;> rfl);refine EvC.b ?_ (hok := by exact inI64_of (by omega) (by omega));refine ⟨[], j + 1, rfl, (by rw [hjZ]; simp only [go_sem, Mach.cells, Int.natCast_add, Int.natCast_one] <;> rfl), ⟨hjk, fun i e hi he => ?_⟩, by omega⟩;by_cases e5 : i = j
   ·subst e5; rw [hee] at he; cases he; exact hx
   ·exact hje i e (by omega) he
 have hkl : k < w2.length := by simpa using hc
 clear hc;have hwe := List.getElem?_eq_getElem hkl;have hwm := List.getElem_mem hkl;generalize w2[k] = a at hwe hwm;obtain ⟨kZ, hkZ⟩ : ∃ z : Int, z = (k : Int) := ⟨_, rfl⟩;have hkt : kZ.toNat = k := by omega
 have hwg : (w2.map intC)[k]? = some [.sc (.int .i64 a)] := by rw [List.getElem?_map, hwe]; rfl
 rw [← hkZ];refine EvC.skip ?_;refine EvC.seq ?_;refine EvC.block ?_;by_cases d1 : a < 0
 ·refine EvC.d mixed ?_ (h := by simp only [go_sem, hwg, hkt, List.length_map, decide_eq_true d1, Mach.cells] <;> rfl) (hok := by simp; try omega);refine EvC.ct ?_;refine EvC.a ?_;refine EvC.rz ?_;simp only [go_sem];rw [hvw fun h => by have := ((wordErr_iff hins).1 h).2 a hwm; omega]
 by_cases d2 : m.ins ≤ a
 ·refine EvC.d mixed ?_ (h := by simp only [go_sem, hwg, hkt, List.length_map, decide_eq_false d1, decide_eq_true d2, Mach.cells] <;> rfl) (hok := by simp; try omega);refine EvC.ct ?_;refine EvC.a ?_;refine EvC.rz ?_;simp only [go_sem];rw [hvw fun h => by have := ((wordErr_iff hins).1 h).2 a hwm; omega]
 refine EvC.d mixed ?_ (h := by simp only [go_sem, hwg, hkt, List.length_map, decide_eq_false d1, decide_eq_false d2, Mach.cells] <;> rfl) (hok := by simp; try omega);refine EvC.cs ?_;refine EvC.b ?_ (hok := by exact inI64_of (by omega) (by omega));refine ⟨[], k + 1, rfl, (by rw [hkZ]; simp only [go_sem, Mach.cells, Int.natCast_add, Int.natCast_one] <;> rfl), ⟨hkl, fun j b hj hb => ?_⟩, by omega⟩;by_cases e : j = k
 ·subst e; rw [hwe] at hb; cases hb; omega
 ·exact hwk j b (by omega) hb
theorem inp119_is (x n : Int) : PureIs prog 104 [.sc (.int .i64 x), .ia [.sc (.int .i64 n)]] (.sc (.bool (decide (x < 0) || decide (n ≤ x)))) := by
 refine PureIs.of1 2 [3] func104 ntmps104 results104 fun _ => ?_;refine EvC.a ?_;refine EvC.g ?_;refine EvC.rz ?_;simp only [go_sem];by_cases h : x < 0 <;> simp [h]
def badW (n : Int) (w : List Int) : Bool := w.any fun x => decide (x < 0) || decide (n ≤ x)
theorem inputs112_is (nl : Bool) (w : List Int) (c : Cp) (n : Int) (hl : w.length < 1000000) : PureIs prog 101 [.sl nl (w.map intC) c, .sc (.int .i64 n)] (.sc (.bool (!badW n w))) := by
 have q := containsInt_is nl w c 104 [.ia [.sc (.int .i64 n)]] rfl (fun x => decide (x < 0) || decide (n ≤ x)) (fun x _ => inp119_is x n) hl;refine PureIs.of1 2 [3, 4] func101 ntmps101 results101 fun _ => ?_;refine EvC.a ?_;refine EvC.z 0 ?_;refine EvC.k1 ?_ (c1 := .ca q);refine EvC.rz ?_;simp only [go_sem];rfl
def respOk (o : Int) : Bool → List Int → Bool
 | _, [] => true
 | e, x :: r => if x < -1 ∨ o ≤ x ∨ (e = true ∧ x ≠ -1) then false else respOk o (decide (x = -1)) r
def trOk (i o : Int) (t : TR) : Bool := decide (t.r.length = t.w.length) && (!badW i t.w && respOk o false t.r)
set_option maxHeartbeats 1000000 in
theorem trvalid_is (t : TR) (i o : Int) (hw : t.w.length < 1000000) (hr : t.r.length < 1000000) : PureIs prog 94 [.ag (traceC t), .sc (.int .i64 i), .sc (.int .i64 o)] (.sc (.bool (trOk i o t))) := by
 obtain ⟨w, r, wn, rn⟩ := t;simp only at hw hr;have q := inputs112_is wn w .unk i hw;refine PureIs.of1 4 [6, 7, 9, 23, 25, 26, 27, 28, 44] func94 ntmps94 results94 fun _ => ?_;refine EvC.a ?_ (by simp only [go_sem, traceC] <;> rfl);refine EvC.z 0 ?_;refine EvC.seq ?_;by_cases c1 : (r.length : Int) = w.length;rotate_left
 ·apply EvC.s1
  ·apply Tr.run
   ·simp only [go_sem, List.length_map, decide_eq_false c1] <;> rfl
   ·simp
   apply Tr.cons
   ·exact .skipv (.sc (.bool true)) rfl rfl (by simp only [go_sem] <;> rfl) (by simp only [go_sem] <;> rfl)
   apply Tr.done
   ·simp only [go_sem] <;> rfl
   ·simp
  refine EvC.ct ?_;refine EvC.a ?_;refine EvC.rz ?_;simp only [go_sem];unfold trOk;rw [decide_eq_false (show ¬ r.length = w.length by omega)]; rfl
 have c1' : r.length = w.length := by omega
 refine EvC.k1 ?_ (h1 := by simp only [go_sem, List.length_map, decide_eq_true c1] <;> rfl) (c1 := .cg q);obtain hb | hb : badW i w = true ∨ badW i w = false := by cases badW i w <;> simp
 ·refine EvC.ct ?_ (by simp only [go_sem, hb] <;> rfl);refine EvC.a ?_;refine EvC.rz ?_;simp only [go_sem];unfold trOk;rw [hb, Bool.not_true, Bool.false_and, Bool.and_false]
 refine EvC.cs ?_ (by simp only [go_sem, hb] <;> rfl);have hT : trOk i o ⟨w, r, wn, rn⟩ = respOk o false r := by
  unfold trOk;rw [hb, decide_eq_true c1']; rfl
 rw [hT];refine EvC.a ?_;refine EvC.seq ?_;refine EvC.a ?_ (by simp only [go_sem, List.length_map] <;> rfl);refine EvC.block ?_;refine EvC.loopS (σ := Nat × Bool) (fun p => ⟨[(2, .sc (.int .i64 o)), (7, .sc (.bool p.2)), (25, .sl rn (r.map intC) .unk), (26, .sc (.int .i64 r.length)), (27, .sc (.int .i64 p.1))], [], [], 0⟩) (fun p => r.length - p.1) (fun p => p.1 ≤ r.length ∧ respOk o false r = respOk o p.2 (r.drop p.1)) [2, 7, 25, 26, 27] 0 ?_ ?_
 ·exact ⟨[], (0, false), rfl, (by simp only [go_sem, Int.natCast_zero] <;> rfl), Nat.zero_le _, rfl⟩
 rintro ⟨k, e⟩ ⟨h1, h2⟩;simp only at h1 h2 ⊢;refine EvC.a ?_;refine EvC.seq ?_;refine EvC.cond (by simp only [go_sem] <;> rfl) (fun hc => ?_) (fun hc => ?_);rotate_left
 ·refine EvC.exit ?_;obtain rfl : k = r.length := by have : ¬ k < r.length := (by simpa using hc); omega
  rw [List.drop_length] at h2;refine EvC.a ?_;refine EvC.rz ?_;simp only [go_sem];rw [h2]; cases e <;> rfl
 have hkl : k < r.length := by simpa using hc
 clear hc;have he : r[k]? = some r[k] := List.getElem?_eq_getElem hkl;have hd : r.drop k = r[k] :: r.drop (k + 1) := List.drop_eq_getElem_cons hkl;generalize r[k] = x at he hd;rw [hd, respOk] at h2;have hkt : ((k : Int)).toNat = k := Int.toNat_natCast k;refine EvC.skip ?_;refine EvC.seq ?_;refine EvC.block ?_;refine EvC.a ?_ (by simp only [go_sem, he, intC, hkt, List.length_map] <;> rfl) (by simp; try omega);refine EvC.seq ?_;by_cases d1 : x < -1
 ·rw [if_pos (.inl d1)] at h2;refine EvC.g ?_ (h := by simp only [go_sem, decide_eq_true d1] <;> rfl);refine EvC.ct ?_;refine EvC.a ?_;refine EvC.rz ?_;simp only [go_sem];rw [h2]
 by_cases d2 : o ≤ x
 ·rw [if_pos (.inr (.inl d2))] at h2;refine EvC.g ?_ (h := by simp only [go_sem, decide_eq_false d1, decide_eq_true d2] <;> rfl);refine EvC.ct ?_;refine EvC.a ?_;refine EvC.rz ?_;simp only [go_sem];rw [h2]
 cases e with
 | false =>
   rw [if_neg (by simp; omega)] at h2;refine EvC.g ?_ (h := by simp only [go_sem, decide_eq_false d1, decide_eq_false d2] <;> rfl);refine EvC.cs ?_;refine EvC.b ?_;refine EvC.b ?_ (hok := by exact inI64_of (by omega) (by omega));exact ⟨[], (k + 1, decide (x = -1)), rfl, (by simp only [go_sem, Int.natCast_add, Int.natCast_one] <;> rfl), ⟨hkl, h2⟩, by simp only; omega⟩
 | true =>
   by_cases d3 : x = -1
   ·rw [if_neg (by simp [d3]; omega)] at h2;refine EvC.g ?_ (h := by simp only [go_sem, decide_eq_false d1, decide_eq_false d2, decide_eq_true d3] <;> rfl);refine EvC.cs ?_;refine EvC.b ?_;refine EvC.b ?_ (hok := by exact inI64_of (by omega) (by omega));exact ⟨[], (k + 1, decide (x = -1)), rfl, (by simp only [go_sem, Int.natCast_add, Int.natCast_one] <;> rfl), ⟨hkl, h2⟩, by simp only; omega⟩
   ·rw [if_pos (.inr (.inr ⟨rfl, d3⟩))] at h2;refine EvC.g ?_ (h := by simp only [go_sem, decide_eq_false d1, decide_eq_false d2, decide_eq_false d3] <;> rfl);refine EvC.ct ?_;refine EvC.a ?_;refine EvC.rz ?_;simp only [go_sem];rw [h2]
def sumT (L : List TR) : Nat := (L.map fun t => t.w.length).sum
def withinB (i o : Int) (L : List TR) : Bool := decide (i ≤ 16) && (decide (o ≤ 16) && (decide (L.length ≤ 1024) && (L.all (fun t => decide (t.w.length ≤ 256)) && decide (sumT L ≤ 65536))))
theorem sumT_next {L : List TR} {i : Nat} {t : TR} (h : L[i]? = some t) : sumT (L.take (i + 1)) = sumT (L.take i) + t.w.length := by
 obtain ⟨hi, he⟩ := List.getElem?_eq_some_iff.1 h;rw [List.take_succ_eq_append_getElem hi, he]; simp [sumT]
theorem sumT_take (L : List TR) (i : Nat) : sumT (L.take i) ≤ sumT L := by
 have h : L.take i ++ L.drop i = L := List.take_append_drop i L;have : sumT L = sumT (L.take i) + sumT (L.drop i) := by
  conv => lhs; rw [← h]
  simp only [sumT, List.map_append, List.sum_append]
 omega
structure LogSm (L : List TR) : Prop where
 len : L.length < 1000000
 w : ∀ t ∈ L, t.w.length < 1000000
 r : ∀ t ∈ L, t.r.length < 1000000
def logC (i o : Int) (ln : Bool) (L : List TR) : List AV := [.sc (.int .i64 i), .sc (.int .i64 o), .sl ln (L.map traceC) .unk]
theorem within98_is (i o : Int) (ln : Bool) (L : List TR) (hL : LogSm L) : PureIs prog 93 [.ag (logC i o ln L)] (.sc (.bool (withinB i o L))) := by
 have h1 := hL.len;refine PureIs.of1 6 [7, 8, 9, 10, 30] func93 ntmps93 results93 fun _ => ?_;refine EvC.a ?_ (by simp only [go_sem, logC] <;> rfl);refine EvC.z 0 ?_;refine EvC.a ?_;refine EvC.seq ?_;refine EvC.a ?_ (by simp only [go_sem, List.length_map] <;> rfl);refine EvC.block ?_;refine EvC.loopS (σ := Nat) (fun k => ⟨[(1, .ia [.sc (.int .i64 i), .sc (.int .i64 o), .sl ln (L.map traceC) .unk]), (3, .sc (.int .i64 (sumT (L.take k) : Nat))), (7, .sl ln (L.map traceC) .unk), (8, .sc (.int .i64 L.length)), (9, .sc (.int .i64 k))], [], [], 0⟩) (fun k => L.length - k) (fun k => k ≤ L.length ∧ k ≤ 1024 ∧ sumT (L.take k) ≤ 65536 ∧ ∀ t ∈ L.take k, t.w.length ≤ 256) [1, 3, 7, 8, 9] 0 ?_ ?_
 ·exact ⟨[], 0, rfl, (by simp only [go_sem, Int.natCast_zero, List.take_zero, sumT, List.map_nil, List.sum_nil] <;> rfl), Nat.zero_le _, Nat.zero_le _, Nat.zero_le _, fun t h => by cases h⟩
 rintro k ⟨h2, h3, h4, h5⟩;refine EvC.a ?_;refine EvC.seq ?_;refine EvC.cond (by simp only [go_sem] <;> rfl) (fun hc => ?_) (fun hc => ?_);rotate_left
 ·refine EvC.exit ?_;obtain rfl : k = L.length := by have : ¬ k < L.length := (by simpa using hc); omega
  rw [List.take_length] at h4 h5;have hw : withinB i o L = (decide (i ≤ 16) && decide (o ≤ 16)) := by
   unfold withinB;rw [decide_eq_true h3, decide_eq_true h4, List.all_eq_true.2 fun t ht => decide_eq_true (h5 t ht)]; simp
  by_cases c1 : i ≤ 16
  ·refine EvC.g ?_ (h := by simp only [go_sem, decide_eq_true c1] <;> rfl);refine EvC.rz ?_;simp only [go_sem];rw [hw, decide_eq_true c1]; rfl
  ·refine EvC.g ?_ (h := by simp only [go_sem, decide_eq_false c1] <;> rfl);refine EvC.rz ?_;simp only [go_sem];rw [hw, decide_eq_false c1]; rfl
 have hkl : k < L.length := by simpa using hc
 clear hc;have he : L[k]? = some L[k] := List.getElem?_eq_getElem hkl;have hm := List.getElem_mem hkl;have htm : L.take (k + 1) = L.take k ++ [L[k]] := List.take_succ_eq_append_getElem hkl;generalize L[k] = t at he hm htm;have hwl := hL.w t hm;have hs := sumT_next he;have hle := sumT_take L (k + 1);obtain ⟨kZ, hkZ⟩ : ∃ z : Int, z = (k : Int) := ⟨_, rfl⟩;have hkt : kZ.toNat = k := by omega
 have hsi : ((sumT (L.take k) : Nat) : Int) + (t.w.length : Int) = ((sumT (L.take (k + 1)) : Nat) : Int) := by omega
 have hI : inI64 ((sumT (L.take (k + 1)) : Nat) : Int) = true := inI64_of (by omega) (by omega);rw [← hkZ];refine EvC.skip ?_;refine EvC.seq ?_;refine EvC.block ?_;refine EvC.a ?_ (by simp only [go_sem, he, hkt, traceC, List.length_map] <;> rfl) (by simp; try omega);refine EvC.z 4 ?_;refine EvC.a ?_ (by simp only [go_sem, List.length_map, hsi] <;> rfl) (by simp [hI]);have hno : ¬ withinB i o L = true → withinB i o L = false := fun h => Bool.eq_false_iff.2 h;by_cases c1 : (1024 : Int) ≤ kZ
 ·refine EvC.g ?_ (h := by simp only [go_sem, decide_eq_true c1, List.length_map] <;> rfl);refine EvC.ct ?_;refine EvC.a ?_;refine EvC.rz ?_;simp only [go_sem];rw [hno fun h => by simp only [withinB, Bool.and_eq_true, decide_eq_true_eq] at h; omega]
 by_cases c2 : (256 : Int) < t.w.length
 ·refine EvC.g ?_ (h := by simp only [go_sem, decide_eq_false c1, decide_eq_true c2, List.length_map] <;> rfl);refine EvC.ct ?_;refine EvC.a ?_;refine EvC.rz ?_;simp only [go_sem];rw [hno fun h => by
   simp only [withinB, Bool.and_eq_true, decide_eq_true_eq, List.all_eq_true] at h;have := h.2.2.2.1 t hm; omega]
 by_cases c3 : (65536 : Int) < ((sumT (L.take (k + 1)) : Nat) : Int)
 ·refine EvC.g ?_ (h := by simp only [go_sem, decide_eq_false c1, decide_eq_false c2, decide_eq_true c3, List.length_map] <;> rfl);refine EvC.ct ?_;refine EvC.a ?_;refine EvC.rz ?_;simp only [go_sem];rw [hno fun h => by simp only [withinB, Bool.and_eq_true, decide_eq_true_eq] at h; omega]
 refine EvC.g ?_ (h := by simp only [go_sem, decide_eq_false c1, decide_eq_false c2, decide_eq_false c3, List.length_map] <;> rfl);refine EvC.cs ?_;refine EvC.b ?_ (hok := by exact inI64_of (by omega) (by omega));refine ⟨[], k + 1, rfl, (by rw [hkZ]; simp only [go_sem, Int.natCast_add, Int.natCast_one] <;> rfl), ⟨hkl, by omega, by omega, fun u hu => ?_⟩, by omega⟩;rw [htm] at hu;rcases List.mem_append.1 hu with hu | hu
 ·exact h5 u hu
 ·rw [List.mem_singleton] at hu; subst hu; omega
def checkL (i o : Int) (L : List TR) : Int := if withinB i o L = false then 3 else if i < 1 ∨ o < 1 then 1 else if L.all (trOk i o) = true then 0 else 1
theorem check74_is (i o : Int) (ln : Bool) (L : List TR) (hL : LogSm L) : PureIs prog 73 [.ag (logC i o ln L)] (.sc (.int .i64 (checkL i o L))) := by
 have h1 := hL.len;have hW := within98_is i o ln L hL;unfold logC at hW;unfold checkL;refine PureIs.of1 3 [4, 7, 15, 17, 18, 19, 20, 29] func73 ntmps73 results73 fun _ => ?_;refine EvC.a ?_ (by simp only [go_sem, logC] <;> rfl);refine EvC.z 0 ?_;refine EvC.seq ?_;refine EvC.k1 ?_ (c1 := .ca hW);obtain hb | hb : withinB i o L = false ∨ withinB i o L = true := by cases withinB i o L <;> simp
 ·rw [if_pos hb];refine EvC.ct ?_ (by simp only [go_sem, hb] <;> rfl);refine EvC.a ?_;refine EvC.rz ?_;simp only [go_sem]
 rw [if_neg (show ¬ withinB i o L = false by rw [hb]; simp)];refine EvC.cs ?_ (by simp only [go_sem, hb] <;> rfl);refine EvC.seq ?_;by_cases c1 : i < 1
 ·rw [if_pos (show i < 1 ∨ o < 1 from .inl c1)];refine EvC.g ?_ (h := by simp only [go_sem, decide_eq_true c1] <;> rfl);refine EvC.ct ?_;refine EvC.a ?_;refine EvC.rz ?_;simp only [go_sem]
 by_cases c2 : o < 1
 ·rw [if_pos (show i < 1 ∨ o < 1 from .inr c2)];refine EvC.g ?_ (h := by simp only [go_sem, decide_eq_false c1, decide_eq_true c2] <;> rfl);refine EvC.ct ?_;refine EvC.a ?_;refine EvC.rz ?_;simp only [go_sem]
 rw [if_neg (show ¬ (i < 1 ∨ o < 1) by omega)];refine EvC.g ?_ (h := by simp only [go_sem, decide_eq_false c1, decide_eq_false c2] <;> rfl);refine EvC.cs ?_;refine EvC.seq ?_;refine EvC.a ?_ (by simp only [go_sem, List.length_map] <;> rfl);refine EvC.block ?_;refine EvC.loopS (σ := Nat) (fun k => ⟨[(1, .ia [.sc (.int .i64 i), .sc (.int .i64 o), .sl ln (L.map traceC) .unk]), (17, .sl ln (L.map traceC) .unk), (18, .sc (.int .i64 L.length)), (19, .sc (.int .i64 k))], [], [], 0⟩) (fun k => L.length - k) (fun k => k ≤ L.length ∧ L.all (trOk i o) = (L.drop k).all (trOk i o)) [1, 17, 18, 19] 0 ?_ ?_
 ·exact ⟨[], 0, rfl, (by simp only [go_sem, List.length_map, Int.natCast_zero] <;> rfl), Nat.zero_le _, rfl⟩
 rintro k ⟨h2, h3⟩;refine EvC.a ?_;refine EvC.seq ?_;refine EvC.cond (by simp only [go_sem] <;> rfl) (fun hc => ?_) (fun hc => ?_);rotate_left
 ·refine EvC.exit ?_;obtain rfl : k = L.length := by have : ¬ k < L.length := (by simpa using hc); omega
  rw [List.drop_length] at h3;refine EvC.a ?_;refine EvC.rz ?_;simp only [go_sem];rw [h3]; rfl
 have hkl : k < L.length := by simpa using hc
 clear hc;have he : L[k]? = some L[k] := List.getElem?_eq_getElem hkl;have hd : L.drop k = L[k] :: L.drop (k + 1) := List.drop_eq_getElem_cons hkl;have hm := List.getElem_mem hkl;generalize L[k] = t at he hd hm;rw [hd, List.all_cons] at h3;have hV := trvalid_is t i o (hL.w t hm) (hL.r t hm);unfold traceC at hV;have hkt : ((k : Int)).toNat = k := Int.toNat_natCast k;refine EvC.skip ?_;refine EvC.seq ?_;refine EvC.block ?_;refine EvC.a ?_ (by simp only [go_sem, he, hkt, traceC, List.length_map] <;> rfl) (by simp; try omega);refine EvC.z 3 ?_;refine EvC.k1 ?_ (c1 := .ca hV);obtain hx | hx : trOk i o t = false ∨ trOk i o t = true := by cases trOk i o t <;> simp
 ·refine EvC.ct ?_ (by simp only [go_sem, hx] <;> rfl);refine EvC.a ?_;refine EvC.rz ?_;simp only [go_sem];rw [h3, hx]; rfl
 refine EvC.cs ?_ (by simp only [go_sem, hx] <;> rfl);refine EvC.b ?_ (hok := by exact inI64_of (by omega) (by omega));exact ⟨[], k + 1, rfl, (by simp only [go_sem, Int.natCast_add, Int.natCast_one] <;> rfl), ⟨hkl, by rw [h3, hx]; rfl⟩, by omega⟩
theorem one_is (wn : Bool) (w : List Int) (wc : Cp) (rn : Bool) (r : List Int) (rc : Cp) : PureIs prog 22 [.sl wn (w.map intC) wc, .sl rn (r.map intC) rc] (.ag [.sc (.int .i64 2), .sc (.int .i64 2), .sl false [[.sl wn (w.map intC) wc, .sl rn (r.map intC) rc]] .full]) := by
 refine PureIs.of1 2 [4] func22 ntmps22 results22 fun _ => ?_;refine EvC.a ?_;refine EvC.a ?_;refine EvC.rz ?_;simp only [go_sem]
instance : DecidableEq FA := fun a b => decidable_of_iff (a.kind = b.kind ∧ a.state = b.state ∧ a.input = b.input ∧ a.to = b.to ∧ a.at' = b.at' ∧ a.out = b.out) ⟨fun h => by obtain ⟨a1, a2, a3, a4, a5, a6⟩ := a; obtain ⟨b1, b2, b3, b4, b5, b6⟩ := b; simp only at h; obtain ⟨rfl, rfl, rfl, rfl, rfl, rfl⟩ := h; rfl, fun h => by subst h; exact ⟨rfl, rfl, rfl, rfl, rfl, rfl⟩⟩
theorem eq_FA (x y : FA) : (decide (x.kind = y.kind) && (decide (x.state = y.state) && (decide (x.input = y.input) && (decide (x.to = y.to) && (decide (x.at' = y.at') && decide (x.out = y.out)))))) = decide (x = y) := by
 obtain ⟨a1, a2, a3, a4, a5, a6⟩ := x;obtain ⟨b1, b2, b3, b4, b5, b6⟩ := y;simp
theorem sameF_is (an : Bool) (a : List FA) (ac : Cp) (bn : Bool) (b : List FA) (bc : Cp) (hl : a.length < 1000000) : PureIs prog 24 [.sl an (a.map FA.cells) ac, .sl bn (b.map FA.cells) bc] (.sc (.bool (decide (a = b)))) := by
 refine PureIs.of1 2 [4, 5, 10, 14, 25] func24 ntmps24 results24 fun _ => ?_;refine EvC.a ?_;refine EvC.seq ?_;refine EvC.a ?_ (by simp only [go_sem, List.length_map] <;> rfl);by_cases c1 : a.length = b.length;rotate_left
 ·refine EvC.ct ?_ (by simp only [go_sem, decide_eq_false (show ¬ (a.length : Int) = b.length by omega)] <;> rfl);refine EvC.a ?_;refine EvC.rz ?_;simp only [go_sem];rw [decide_eq_false (fun e => c1 (by rw [e]))]
 refine EvC.cs ?_ (by simp only [go_sem, decide_eq_true (show (a.length : Int) = b.length by omega)] <;> rfl);refine EvC.seq ?_;refine EvC.a ?_;refine EvC.block ?_;refine EvC.loopS (σ := Nat) (fun k => ⟨[(0, .sl an (a.map FA.cells) ac), (1, .sl bn (b.map FA.cells) bc), (5, .sc (.int .i64 k))], [], [], 0⟩) (fun k => a.length - k) (fun k => k ≤ a.length ∧ a.take k = b.take k) [0, 1, 5] 0 ?_ ?_
 ·exact ⟨[], 0, rfl, (by simp only [go_sem, Int.natCast_zero] <;> rfl), Nat.zero_le _, rfl⟩
 rintro k ⟨h1, h2⟩;refine EvC.seq ?_;refine EvC.a ?_ (by simp only [go_sem, List.length_map] <;> rfl);refine EvC.cond (by simp only [go_sem] <;> rfl) (fun hc => ?_) (fun hc => ?_);rotate_left
 ·refine EvC.exit ?_;obtain rfl : k = a.length := by have : ¬ k < a.length := (by simpa using hc); omega
  rw [List.take_length, c1, List.take_length] at h2;refine EvC.a ?_;refine EvC.rz ?_;simp only [go_sem];rw [decide_eq_true h2]
 have hkl : k < a.length := by simpa using hc
 clear hc;have he : a[k]? = some a[k] := List.getElem?_eq_getElem hkl;have hf : b[k]? = some b[k] := List.getElem?_eq_getElem (by omega);have hd : a.take (k + 1) = a.take k ++ [a[k]] := List.take_succ_eq_append_getElem hkl;have hd2 : b.take (k + 1) = b.take k ++ [b[k]] := List.take_succ_eq_append_getElem (by omega);generalize a[k] = x at he hd;generalize b[k] = y at hf hd2;have hkt : ((k : Int)).toNat = k := Int.toNat_natCast k;refine EvC.skip ?_;refine EvC.seq ?_;refine EvC.block ?_;have heq := eq_FA x y;refine EvC.d mixed ?_ (h := by simp only [go_sem, he, hf, FA.cells, hkt, heq, List.length_map] <;> rfl) (hok := by simp; try omega);by_cases hxy : x = y;rotate_left
 ·refine EvC.ct ?_ (by simp only [go_sem, heq, decide_eq_false hxy] <;> rfl);refine EvC.a ?_;refine EvC.rz ?_;simp only [go_sem];rw [decide_eq_false (fun e => hxy (by subst e; rw [he] at hf; exact Option.some.inj hf))]
 refine EvC.cs ?_ (by simp only [go_sem, heq, decide_eq_true hxy] <;> rfl);refine EvC.b ?_ (hok := by exact inI64_of (by omega) (by omega));exact ⟨[], k + 1, rfl, (by simp only [go_sem, Int.natCast_add, Int.natCast_one] <;> rfl), ⟨hkl, by rw [hd, hd2, h2, hxy]⟩, by omega⟩
def agA (m : Mach) (i o : Int) (L : List TR) : AV :=
 if checkM m ≠ 0 then .tu [.ag [.sc (.int .i64 0), .sc (.int .i64 0)], .sc (.bool false), .sc (.int .i64 (checkM m))]
 else if checkL i o L ≠ 0 then .tu [.ag [.sc (.int .i64 0), .sc (.int .i64 0)], .sc (.bool false), .sc (.int .i64 (checkL i o L))]
 else if m.ins ≠ i then .tu [.ag [.sc (.int .i64 0), .sc (.int .i64 0)], .sc (.bool false), .sc (.int .i64 5)]
 else .tu [.ag [.sc (.int .i64 (agst m L 0).1), .sc (.int .i64 (agst m L 0).2.1)], .sc (.bool (!(agst m L 0).2.2)), .sc (.int .i64 0)]
theorem checkL_ok {i o : Int} {L : List TR} (h : checkL i o L = 0) : withinB i o L = true ∧ 1 ≤ i ∧ 1 ≤ o ∧ ∀ t ∈ L, trOk i o t = true := by
 unfold checkL at h;split at h
 ·cases h
 ·rename_i h1;split at h
  ·cases h
  ·rename_i h2;split at h
   ·rename_i h3;exact ⟨by simpa using h1, by omega, by omega, List.all_eq_true.1 h3⟩
   ·cases h
theorem trOk_ok {i o : Int} {t : TR} (h : trOk i o t = true) : t.r.length = t.w.length ∧ ∀ a ∈ t.w, 0 ≤ a ∧ a < i := by
 unfold trOk at h;simp only [Bool.and_eq_true, decide_eq_true_eq, Bool.not_eq_true'] at h;refine ⟨h.1, fun a ha => ?_⟩;have h2 := h.2.1;unfold badW at h2;rw [List.any_eq_false] at h2;have := h2 a ha;simp at this; omega
theorem withinB_ok {i o : Int} {L : List TR} (h : withinB i o L = true) : i ≤ 16 ∧ o ≤ 16 ∧ L.length ≤ 1024 ∧ ∀ t ∈ L, t.w.length ≤ 256 := by
 simp only [withinB, Bool.and_eq_true, decide_eq_true_eq, List.all_eq_true] at h;exact ⟨h.1, h.2.1, h.2.2.1, h.2.2.2.1⟩
set_option maxHeartbeats 4000000 in
theorem against37_is (m : Mach) (hm : ∀ r ∈ m.rows, r.2.length < 1000000) (i o : Int) (ln : Bool) (L : List TR) (hL : LogSm L) : PureIs prog 42 [.ag m.cells, .ag (logC i o ln L)] (agA m i o L) := by
 have h1 := hL.len;have q0 := check_is m hm;have q1 := check74_is i o ln L hL;unfold logC at q1;unfold agA;refine PureIs.of1 12 [13, 14, 18, 24, 31, 34, 35, 36, 37, 48, 49, 50, 51, 61] func42 ntmps42 results42 fun _ => ?_;refine EvC.a ?_ (by simp only [go_sem, Mach.cells, logC] <;> rfl);refine EvC.z 0 ?_;refine EvC.z 1 ?_;refine EvC.seq ?_;refine EvC.k1 ?_ (h1 := by simp only [go_sem, Mach.cells] <;> rfl) (c1 := .ca q0);refine EvC.a ?_;by_cases c0 : checkM m = 0;rotate_left
 ·rw [if_pos c0];refine EvC.ct ?_ (by simp only [go_sem, decide_eq_false c0] <;> rfl);refine EvC.a ?_;refine EvC.rz ?_;simp only [go_sem]
 rw [if_neg (show ¬ checkM m ≠ 0 from fun h => h c0)];have hv := Valid.of c0;refine EvC.cs ?_ (by simp only [go_sem, decide_eq_true c0] <;> rfl);refine EvC.seq ?_;refine EvC.k1 ?_ (c1 := .ca q1);refine EvC.a ?_;by_cases c1 : checkL i o L = 0;rotate_left
 ·rw [if_pos c1];refine EvC.ct ?_ (by simp only [go_sem, decide_eq_false c1] <;> rfl);refine EvC.a ?_;refine EvC.rz ?_;simp only [go_sem]
 rw [if_neg (show ¬ checkL i o L ≠ 0 from fun h => h c1)];refine EvC.cs ?_ (by simp only [go_sem, decide_eq_true c1] <;> rfl);refine EvC.seq ?_;refine EvC.a ?_ (by simp only [go_sem, Mach.cells] <;> rfl);by_cases c2 : m.ins = i;rotate_left
 ·rw [if_pos c2];refine EvC.ct ?_ (by simp only [go_sem, decide_eq_false c2] <;> rfl);refine EvC.a ?_;refine EvC.rz ?_;simp only [go_sem]
 rw [if_neg (show ¬ m.ins ≠ i from fun h => h c2)];refine EvC.cs ?_ (by simp only [go_sem, decide_eq_true c2] <;> rfl);obtain ⟨hwi, _, _, hto⟩ := checkL_ok c1;obtain ⟨w1, w2, w3, w4⟩ := withinB_ok hwi;refine EvC.seq ?_;refine EvC.a ?_ (by simp only [go_sem, List.length_map] <;> rfl);refine EvC.block ?_;refine EvC.loopS (σ := Nat) (fun k => ⟨[(2, .ia m.cells), (4, .rf 0 0), (34, .sl ln (L.map traceC) .unk), (35, .sc (.int .i64 L.length)), (36, .sc (.int .i64 k))], [], [(0, .cells [.sc (.int .i64 0), .sc (.int .i64 0)])], 1⟩) (fun k => L.length - k) (fun k => k ≤ L.length ∧ agst m L 0 = agst m (L.drop k) k) [2, 4, 34, 35, 36] 1 ?_ ?_
 ·exact ⟨[(2, 0)], 0, rfl, (by simp only [go_sem, Mach.cells, Int.natCast_zero] <;> rfl), Nat.zero_le _, rfl⟩
 rintro k ⟨h2, h3⟩;refine EvC.a ?_;refine EvC.seq ?_;refine EvC.cond (by simp only [go_sem] <;> rfl) (fun hc => ?_) (fun hc => ?_);rotate_left
 ·refine EvC.exit ?_;obtain rfl : k = L.length := by have : ¬ k < L.length := (by simpa using hc); omega
  rw [List.drop_length, agst] at h3;rw [h3];refine EvC.a ?_;refine EvC.rz ?_;simp only [go_sem]
 have hkl : k < L.length := by simpa using hc
 clear hc;have he : L[k]? = some L[k] := List.getElem?_eq_getElem hkl;have hm := List.getElem_mem hkl;generalize L[k] = t at he hm;have hag := agst_drop (m := m) he;have htk := trOk_ok (hto t hm);have hw4 := w4 t hm;obtain ⟨w, r, wn, rn⟩ := t;simp only at htk hw4 hag;obtain ⟨kZ, hkZ⟩ : ∃ z : Int, z = (k : Int) := ⟨_, rfl⟩;have hkt : kZ.toNat = k := by omega
 have hins := hv.ins;have hrw := hv.rows;have q3 := run52_is hv 0 ⟨by omega, by omega⟩ wn w .unk (wordErr_of hins (by omega) fun a ha => by have := htk.2 a ha; omega) (by omega);have hxl := runR_len m 0 w;generalize runR m 0 w = x at q3 hxl hag;rw [← hkZ];refine EvC.skip ?_;refine EvC.seq ?_;refine EvC.block ?_;refine EvC.a ?_ (by simp only [go_sem, he, hkt, traceC, List.length_map] <;> rfl) (by simp; try omega);refine EvC.z 5 ?_;refine EvC.k1 ?_ (h1 := by simp only [go_sem, Mach.cells] <;> rfl) (c1 := .ca q3);refine EvC.a ?_ (by simp only [go_sem, List.length_map] <;> rfl);refine EvC.block ?_;refine EvC.loopS (σ := Nat) (fun j => ⟨[(2, .ia m.cells), (4, .rf 0 0), (9, .sc (.int .i64 kZ)), (10, .ia [.sl wn (w.map intC) .unk, .sl rn (r.map intC) .unk]), (34, .sl ln (L.map traceC) .unk), (35, .sc (.int .i64 L.length)), (36, .sc (.int .i64 kZ)), (48, .sl false (x.map intC) .unk), (49, .sc (.int .i64 x.length)), (50, .sc (.int .i64 j))], [], [(0, .cells [.sc (.int .i64 0), .sc (.int .i64 0)])], 1⟩) (fun j => x.length - j) (fun j => j ≤ x.length ∧ diffK x r 0 = diffK (x.drop j) (r.drop j) j) [2, 4, 9, 10, 34, 35, 36, 48, 49, 50] 1 ?_ ?_
 ·exact ⟨[(0, 0)], 0, rfl, (by simp only [go_sem, Mach.cells, List.length_map, Int.natCast_zero] <;> rfl), Nat.zero_le _, rfl⟩
 rintro j ⟨j1, j2⟩;refine EvC.a ?_;refine EvC.seq ?_;refine EvC.cond (by simp only [go_sem] <;> rfl) (fun hc => ?_) (fun hc => ?_);rotate_left
 ·refine EvC.exit ?_;obtain rfl : j = x.length := by have : ¬ j < x.length := (by simpa using hc); omega
  rw [List.drop_length] at j2;have j2 : diffK x r 0 = none := by rw [j2]; cases r.drop x.length <;> rfl
  rw [j2] at hag;simp only at hag;refine EvC.b ?_ (hok := by exact inI64_of (by omega) (by omega));exact ⟨[(0, 0)], k + 1, rfl, (by rw [hkZ]; simp only [go_sem, Mach.cells, Int.natCast_add, Int.natCast_one] <;> rfl), ⟨hkl, by rw [h3, hag]⟩, by omega⟩
 have hjl : j < x.length := by simpa using hc
 clear hc;have hjx : x[j]? = some x[j] := List.getElem?_eq_getElem hjl;have hjr : r[j]? = some (r[j]'(by omega)) := List.getElem?_eq_getElem (by omega);generalize x[j] = a at hjx;generalize r[j]'(by omega) = b at hjr;have hdk := diffK_drop hjx hjr;obtain ⟨jZ, hjZ⟩ : ∃ z : Int, z = (j : Int) := ⟨_, rfl⟩;have hjt : jZ.toNat = j := by omega
 rw [← hjZ];refine EvC.skip ?_;refine EvC.seq ?_;refine EvC.block ?_;refine EvC.a ?_ (by simp only [go_sem, hjx, intC, hjt, List.length_map] <;> rfl) (by simp; try omega);refine EvC.a ?_ (by simp only [go_sem, hjr, intC, hjt, List.length_map] <;> rfl) (by simp; try omega);by_cases hab : a = b
 ·rw [if_neg (fun h => h hab)] at hdk;refine EvC.cs ?_ (by simp only [go_sem, decide_eq_true hab] <;> rfl);refine EvC.b ?_ (hok := by exact inI64_of (by omega) (by omega));exact ⟨[(0, 0)], j + 1, rfl, (by rw [hjZ]; simp only [go_sem, Mach.cells, Int.natCast_add, Int.natCast_one] <;> rfl), ⟨hjl, by rw [j2, hdk]⟩, by omega⟩
 ·rw [if_pos hab] at hdk;rw [j2, hdk] at hag;simp only at hag;refine EvC.ct ?_ (by simp only [go_sem, decide_eq_false hab] <;> rfl);refine EvC.a ?_;refine EvC.rz ?_;simp only [go_sem];rw [h3, hag, hkZ, hjZ]; rfl
def fltT {α : Type} (p : α → Bool) (L : List α) (k : Nat) : List α := (L.take k).filter p
theorem fltT_yes {α : Type} {p : α → Bool} {L : List α} {k : Nat} {x : α} (h : L[k]? = some x) (hp : p x = true) : fltT p L k ++ [x] = fltT p L (k + 1) := by
 obtain ⟨hi, he⟩ := List.getElem?_eq_some_iff.1 h;unfold fltT;rw [List.take_succ_eq_append_getElem hi, he, List.filter_append]; simp [hp]
theorem fltT_no {α : Type} {p : α → Bool} {L : List α} {k : Nat} {x : α} (h : L[k]? = some x) (hp : p x = false) : fltT p L k = fltT p L (k + 1) := by
 obtain ⟨hi, he⟩ := List.getElem?_eq_some_iff.1 h;unfold fltT;rw [List.take_succ_eq_append_getElem hi, he, List.filter_append]; simp [hp]
theorem fltT_all {α : Type} (p : α → Bool) (L : List α) : fltT p L L.length = L.filter p := by rw [fltT, List.take_length]
theorem fltT_len {α : Type} (p : α → Bool) (L : List α) (k : Nat) : (fltT p L k).length ≤ L.length := by
 have h1 := List.length_filter_le p (L.take k);have h2 : (L.take k).length ≤ L.length := by simp; omega
 unfold fltT; omega
def agErr (m : Mach) (i o : Int) (L : List TR) : Int := if checkM m ≠ 0 then checkM m else if checkL i o L ≠ 0 then checkL i o L else if m.ins ≠ i then 5 else 0
theorem agA_ok {m : Mach} {i o : Int} {L : List TR} (h : agErr m i o L = 0) : checkM m = 0 ∧ checkL i o L = 0 ∧ m.ins = i := by
 unfold agErr at h;split at h
 ·rename_i h1; exact absurd h h1
 ·rename_i h1;split at h
  ·rename_i h2; exact absurd h h2
  ·rename_i h2;split at h
   ·cases h
   ·rename_i h3; exact ⟨by simpa using h1, by simpa using h2, by simpa using h3⟩
theorem agA_err (m : Mach) (i o : Int) (L : List TR) : agA m i o L = .tu [.ag [.sc (.int .i64 (if agErr m i o L = 0 then (agst m L 0).1 else 0)), .sc (.int .i64 (if agErr m i o L = 0 then (agst m L 0).2.1 else 0))], .sc (.bool (decide (agErr m i o L = 0) && !(agst m L 0).2.2)), .sc (.int .i64 (agErr m i o L))] := by
 unfold agA agErr;by_cases h1 : checkM m = 0
 ·by_cases h2 : checkL i o L = 0
  ·by_cases h3 : m.ins = i <;> simp [h1, h2, h3]
  ·simp [h1, h2]
 ·simp [h1]
def fitB2 (m : Mach) (L : List TR) (f : FA) : Bool := !(agst (mutF m f) L 0).2.2
def suspA (m : Mach) (ks : List Int) (i o : Int) (L : List TR) (most : Int) : AV :=
 if agErr m i o L ≠ 0 then .tu [.sl true [] .unk, .sc (.bool false), .sc (.int .i64 (agErr m i o L))]
 else if allR m ks most ≠ 0 then .tu [.sl true [] .unk, .sc (.bool false), .sc (.int .i64 (allR m ks most))]
 else .tu [.sl ((alF m ks).filter (fitB2 m L)).isEmpty (((alF m ks).filter (fitB2 m L)).map FA.cells) .full, .sc (.bool (!(agst m L 0).2.2)), .sc (.int .i64 0)]
theorem fas_norefs (l : List FA) : (l.map FA.cells).all AV.norefs = true := by simp [List.all_eq_true, FA.cells, AV.norefs, AV.noref]
theorem allR_ready {m : Mach} {ks : List Int} {most : Int} (h : allR m ks most = 0) : readyR m ks most = 0 := by
 unfold allR at h;split at h
 ·rename_i h1; exact absurd h h1
 ·rename_i h1; simpa using h1
set_option maxHeartbeats 4000000 in
theorem suspects_is (m : Mach) (hm : ∀ r ∈ m.rows, r.2.length < 1000000) (hnn : NoNil m) (kn : Bool) (ks : List Int) (kc : Cp) (hks : ks.length < 1000) (i o : Int) (ln : Bool) (L : List TR) (hL : LogSm L) (most : Int) :
  PureIs prog 21 [.ag m.cells, .sl kn (ks.map intC) kc, .ag (logC i o ln L), .sc (.int .i64 most)] (suspA m ks i o L most) := by
 have q0 := against37_is m hm i o ln L hL;rw [agA_err] at q0;unfold logC at q0;unfold suspA;refine PureIs.of1 5 [6, 8, 9, 10, 12, 13, 14, 15, 17, 18, 19, 21, 31, 41, 43, 44, 45, 46, 56, 65] func21 ntmps21 results21 fun _ => ?_;refine EvC.a ?_ (by simp only [go_sem, Mach.cells, logC] <;> rfl);refine EvC.z 0 ?_;refine EvC.z 1 ?_;refine EvC.k1 ?_ (h1 := by simp only [go_sem, Mach.cells] <;> rfl) (c1 := .ca q0);refine EvC.seq ?_;refine EvC.a ?_;by_cases h0 : agErr m i o L = 0;rotate_left
 ·rw [if_pos h0];refine EvC.ct ?_ (by simp only [go_sem, decide_eq_false h0] <;> rfl);refine EvC.a ?_;refine EvC.rz ?_;simp only [go_sem]
 rw [if_neg (show ¬ agErr m i o L ≠ 0 from fun h => h h0)];refine EvC.cs ?_ (by simp only [go_sem, decide_eq_true h0] <;> rfl);have q1 := allF_is m hm kn ks kc hks most;unfold allA at q1;by_cases h1 : allR m ks most = 0;rotate_left
 ·rw [if_pos h1] at q1 ⊢;refine EvC.k1 ?_ (h1 := by simp only [go_sem, Mach.cells] <;> rfl) (c1 := .ca q1);refine EvC.seq ?_;refine EvC.a ?_;refine EvC.ct ?_ (by simp only [go_sem, decide_eq_false h1] <;> rfl);refine EvC.a ?_;refine EvC.rz ?_;simp only [go_sem]
 rw [if_neg (show ¬ allR m ks most ≠ 0 from fun h => h h1)] at q1 ⊢;obtain ⟨c1, c2, c3⟩ := agA_ok h0;have hv := Valid.of c1;have hok := alF_ok (allR_ready h1);have hal := alF_len hv ks;have hna := fas_norefs (alF m ks);have hla : ((alF m ks).map FA.cells).length = (alF m ks).length := List.length_map _;have hal2 : (alF m ks).length < 300000000 := by
  have : ks.length * 262144 ≤ 1000 * 262144 := Nat.mul_le_mul_right _ (by omega);omega
 generalize alF m ks = A at q1 hok hal2 hna hla ⊢;apply EvC.s1
 ·apply Tr.run
  ·simp only [go_sem, Mach.cells] <;> rfl
  ·simp
  apply Tr.cons
  ·exact .call rfl rfl (by simp only [go_sem] <;> rfl) (by simp only [go_sem] <;> rfl) (by simp only [go_sem] <;> rfl) (by simp only [go_sem, hna] <;> rfl) (by simp only [go_sem] <;> rfl) (q1)
  apply Tr.done
  ·simp only [go_sem, Mach.cells] <;> rfl
  ·simp
 refine EvC.seq ?_;refine EvC.a ?_;refine EvC.cs ?_;refine EvC.a ?_;refine EvC.seq ?_;refine EvC.a ?_ (by simp only [go_sem, hla] <;> rfl);refine EvC.block ?_;have hinn : (decide (agErr m i o L = 0) && !(agst m L 0).2.2) = !(agst m L 0).2.2 := by rw [decide_eq_true h0, Bool.true_and]
 rw [hinn];generalize (agst m L 0).2.2 = inn;have hfl := fltT_len (fitB2 m L) A;refine EvC.loopS (σ := Nat) (fun k => ⟨[(4, .ia m.cells), (6, .ia (logC i o ln L)), (12, .sc (.bool !inn)), (15, .tl 0 (fltT (fitB2 m L) A k).length (fltT (fitB2 m L) A k).isEmpty), (43, .sl A.isEmpty (A.map FA.cells) .full), (44, .sc (.int .i64 A.length)), (45, .sc (.int .i64 k))], [], [(0, .arr 6 ((fltT (fitB2 m L) A k).map FA.cells) true)], 1⟩) (fun k => A.length - k) (fun k => k ≤ A.length) [4, 6, 12, 15, 43, 44, 45] 1 ?_ ?_
 ·exact ⟨[(29, 0)], 0, rfl, (by simp only [go_sem, Mach.cells, logC, Int.natCast_zero, fltT, List.take_zero, List.filter_nil, List.map_nil, List.length_nil, List.isEmpty_nil] <;> rfl), Nat.zero_le _⟩
 intro k hk;refine EvC.a ?_;refine EvC.seq ?_;refine EvC.cond (by simp only [go_sem] <;> rfl) (fun hc => ?_) (fun hc => ?_);rotate_left
 ·refine EvC.exit ?_;obtain rfl : k = A.length := by have : ¬ k < A.length := (by simpa using hc); omega
  rw [fltT_all];have hn2 := fas_norefs (A.filter (fitB2 m L));have hl2 : ((A.filter (fitB2 m L)).map FA.cells).length = (A.filter (fitB2 m L)).length := List.length_map _;have h6 := fa_six (A.filter (fitB2 m L));generalize A.filter (fitB2 m L) = S at hn2 hl2 h6 ⊢;refine EvC.frz 0 (by simp only [go_sem, hn2, hl2] <;> rfl) ?_;refine EvC.k1 ?_ (h1 := by simp only [go_sem, hl2] <;> rfl) (c1 := .ca (clipF_is _ _ _ h6));refine EvC.rz ?_;simp only [go_sem]
 have hkl : k < A.length := by simpa using hc
 clear hc;have he : A[k]? = some A[k] := List.getElem?_eq_getElem hkl;have hf0 := hok _ (List.getElem_mem hkl);generalize A[k] = f at he hf0;have q2 := apply71_is hv c1 hnn f;rw [applyR, if_pos hf0] at q2;have hmv := mutF_valid hv hf0;obtain ⟨M, hM⟩ : ∃ M, M = mutF m f := ⟨_, rfl⟩;have hMi : M.ins = m.ins := by rw [hM]; rfl
 rw [← hM] at q2 hmv;have q3 := against37_is M hmv.small i o ln L hL;unfold agA at q3;rw [if_neg (show ¬ checkM M ≠ 0 from fun h => h (checkM_of hmv)), if_neg (show ¬ checkL i o L ≠ 0 from fun h => h c2), if_neg (show ¬ M.ins ≠ i from fun h => h (by rw [hMi, c3]))] at q3;have hyes := fun h => fltT_yes (p := fitB2 m L) he h;have hno := fun h => fltT_no (p := fitB2 m L) he h;have hfb : fitB2 m L f = !(agst M L 0).2.2 := by rw [hM]; rfl
 have hfa := he;obtain ⟨f1, f2, f3, f4, f5, f6⟩ := f;have hfc : (A.map FA.cells)[k]? = some [.sc (.int .i64 f1), .sc (.int .i64 f2), .sc (.int .i64 f3), .sc (.int .i64 f4), .sc (.int .i64 f5), .sc (.int .i64 f6)] := by rw [List.getElem?_map, he]; rfl
 obtain ⟨kZ, hkZ⟩ : ∃ z : Int, z = (k : Int) := ⟨_, rfl⟩;have hkt : kZ.toNat = k := by omega
 rw [← hkZ];refine EvC.skip ?_;refine EvC.seq ?_;refine EvC.block ?_;refine EvC.a ?_ (by simp only [go_sem, hfc, hkt, hla] <;> rfl) (by simp; try omega);have hMn := norefs_mcells M;refine EvC.k1 ?_ (h1 := by simp only [go_sem, Mach.cells, FA.cells] <;> rfl) (c1 := .ca q2) (h2 := by simp only [go_sem, Mach.cells] <;> rfl);refine EvC.z 12 ?_;refine EvC.seq ?_;refine EvC.a ?_;refine EvC.cs ?_;unfold logC at q3;refine EvC.k1 ?_ (h1 := by simp only [go_sem, Mach.cells, logC] <;> rfl) (c1 := .ca q3);refine EvC.a ?_;obtain ⟨T, hT⟩ : ∃ T, T = fltT (fitB2 m L) A (k + 1) := ⟨_, rfl⟩;have hfl1 := hfl (k + 1);rw [← hT] at hyes hno hfl1;obtain ⟨b, hb⟩ : ∃ b, (agst M L 0).2.2 = b := ⟨_, rfl⟩;rw [hb] at hfb ⊢;cases b
 ·have hy := hyes hfb;generalize fltT (fitB2 m L) A k = T0 at hy ⊢;have hl1 : (T0.map FA.cells).length = T0.length := List.length_map _;have hsn : T0.map FA.cells ++ [[.sc (.int .i64 f1), .sc (.int .i64 f2), .sc (.int .i64 f3), .sc (.int .i64 f4), .sc (.int .i64 f5), .sc (.int .i64 f6)]] = T.map FA.cells := by rw [← hy]; simp [FA.cells]
  have hTl : T.length = T0.length + 1 := by rw [← hy]; simp
  have hTe : T.isEmpty = false := by rw [← hy]; simp
  have hTm : (T.map FA.cells).length = T.length := List.length_map _;have hTn := fas_norefs T;have hr : room (T0.length + 1) 48 = true := by simp only [room_eq, decide_eq_true_eq]; omega
  refine EvC.ct ?_;refine EvC.b ?_ (by simp only [go_sem, hl1, hsn] <;> rfl) (by simp [hr]);refine EvC.b ?_ (hok := by exact inI64_of (by omega) (by omega));exact ⟨[(0, 0)], k + 1, rfl, (by rw [hkZ, ← hT]; simp only [go_sem, hTm, hTe, hTn, Mach.cells, logC, Int.natCast_add, Int.natCast_one] <;> rfl), hkl, by omega⟩
 ·have hy := hno hfb;rw [hy];refine EvC.cs ?_;refine EvC.b ?_ (hok := by exact inI64_of (by omega) (by omega));exact ⟨[(0, 0)], k + 1, rfl, (by rw [hkZ, ← hT]; simp only [go_sem, Mach.cells, logC, Int.natCast_add, Int.natCast_one] <;> rfl), hkl, by omega⟩
theorem refmutants_is (m : Mach) (hv : Valid m) (fn : Bool) (fs : List FA) (fc : Cp) (hf : ∀ f ∈ fs, faultB m f = true) (hfl : fs.length < 1000000) :
  PureIs prog 28 [.ag m.cells, .sl fn (fs.map FA.cells) fc] (.sl fs.isEmpty ((fs.map (mutF m)).map Mach.cells) .unk) := by
 refine PureIs.of1 3 [4, 5, 6, 10] func28 ntmps28 results28 fun _ => ?_;refine EvC.a ?_ (by simp only [go_sem, Mach.cells] <;> rfl);refine EvC.z 0 ?_;refine EvC.a ?_;refine EvC.seq ?_;refine EvC.a ?_;refine EvC.block ?_;refine EvC.loopS (σ := Nat) (fun k => ⟨[(1, .sl fn (fs.map FA.cells) fc), (2, .ia m.cells), (5, .tl 0 k (k == 0)), (6, .sc (.int .i64 k))], [], [(0, .arr 3 (mutC m fs k) true)], 1⟩) (fun k => fs.length - k) (fun k => k ≤ fs.length) [1, 2, 5, 6] 1 ?_ ?_
 ·exact ⟨[(2, 0)], 0, rfl, (by simp only [go_sem, Mach.cells, Int.natCast_zero, mutC, List.take_zero, List.map_nil] <;> rfl), Nat.zero_le _⟩
 intro k hk;have hml := mutC_len (m := m) hk;refine EvC.seq ?_;refine EvC.a ?_ (by simp only [go_sem, List.length_map] <;> rfl);refine EvC.cond (by simp only [go_sem] <;> rfl) (fun hc => ?_) (fun hc => ?_);rotate_left
 ·refine EvC.exit ?_;obtain rfl : k = fs.length := by have : ¬ k < fs.length := (by simpa using hc); omega
  have hmc : (fs.map (mutF m)).map Mach.cells = mutC m fs fs.length := by rw [mutC, List.take_length]
  rw [hmc];have hn := norefs_mutC m fs fs.length;have hie : (fs.length == 0) = fs.isEmpty := by cases fs <;> rfl
  rw [hie];generalize mutC m fs fs.length = L at hml hn;refine EvC.frz 0 (by simp only [go_sem, hn, hml] <;> rfl) ?_;refine EvC.a ?_;refine EvC.rz ?_;simp only [go_sem]
 have hkl : k < fs.length := by simpa using hc
 clear hc;have he : fs[k]? = some fs[k] := List.getElem?_eq_getElem hkl;have hfb := hf _ (List.getElem_mem hkl);generalize fs[k] = f at he hfb;have q := apply55_is hv f hfb;have hs := mutC_succ (m := m) he;have hml2 := mutC_len (m := m) (k := k + 1) hkl;have hr2 : room (k + 1) 40 = true := by simp only [room_eq, decide_eq_true_eq]; omega
 generalize mutF m f = mf at q hs;have hmr : AV.norefs mf.cells = true := norefs_mcells mf;have hfc : (fs.map FA.cells)[k]? = some f.cells := by rw [List.getElem?_map, he]; rfl
 simp only [FA.cells] at hfc;simp only [Mach.cells] at hs hmr;obtain ⟨kZ, hkZ⟩ : ∃ z : Int, z = (k : Int) := ⟨_, rfl⟩;have hkt : kZ.toNat = k := by omega
 rw [← hkZ];refine EvC.skip ?_;refine EvC.seq ?_;refine EvC.block ?_;refine EvC.k1LD mixed ?_ (h1 := by simp only [go_sem, hfc, hkt, List.length_map, Mach.cells, FA.cells] <;> rfl) (k1 := by simp; try omega) (c1 := .ca q) (h2 := by simp only [go_sem, hml, hr2, hs, Mach.cells, hmr] <;> rfl) (k2 := by simp [hr2, hmr]);refine EvC.b ?_ (hok := by exact inI64_of (by omega) (by omega));have hne : (k + 1 == 0) = false := rfl;exact ⟨[(0, 0)], k + 1, rfl, (by rw [hkZ]; simp only [go_sem, Mach.cells, hne, Int.natCast_add, Int.natCast_one, hml2] <;> rfl), hkl, by omega⟩
theorem alike50_is {a b : Mach} (ha : Valid a) (hb : Valid b) (hab : a.ins = b.ins) : PureIs prog 30 [.ag a.cells, .ag b.cells] (.sc (.bool (diffO a b).isNone)) := by
 have q := ref10_is ha hb hab;refine PureIs.of1 5 [6] func30 ntmps30 results30 fun _ => ?_;refine EvC.a ?_ (by simp only [go_sem, Mach.cells] <;> rfl);refine EvC.z 0 ?_;refine EvC.z 1 ?_;refine EvC.k1 ?_ (h1 := by simp only [go_sem, Mach.cells] <;> rfl) (c1 := .ca q);refine EvC.a ?_;refine EvC.rz ?_;simp only [go_sem];cases diffO a b <;> rfl
theorem everybody57_is (n : Nat) (hn : n < 1000000) : PureIs prog 29 [.sc (.int .i64 n)] (.sl (n == 0) ((idL n).map intC) .unk) := by
 refine PureIs.of1 1 [2, 3, 4, 7] func29 ntmps29 results29 fun _ => ?_;refine EvC.a ?_;refine EvC.a ?_;refine EvC.seq ?_;refine EvC.a ?_;refine EvC.block ?_;refine EvC.loopS (σ := Nat) (fun k => ⟨[(0, .sc (.int .i64 n)), (3, .tl 0 k (k == 0)), (4, .sc (.int .i64 k))], [], [(0, .arr 1 ((idL k).map intC) true)], 1⟩) (fun k => n - k) (fun k => k ≤ n) [0, 3, 4] 1 ?_ ?_
 ·exact ⟨[(1, 0)], 0, rfl, (by simp only [go_sem, Int.natCast_zero, idL, List.range_zero, List.map_nil] <;> rfl), Nat.zero_le _⟩
 intro k hk;have hl : ((idL k).map intC).length = k := by simp [idL]
 refine EvC.seq ?_;refine EvC.a ?_;refine EvC.cond (by simp only [go_sem] <;> rfl) (fun hc => ?_) (fun hc => ?_);rotate_left
 ·refine EvC.exit ?_;obtain rfl : k = n := by have : ¬ k < n := (by simpa using hc); omega
  have hnn := norefs_intC (idL k);refine EvC.frz 0 (by simp only [go_sem, hl, hnn] <;> rfl) ?_;refine EvC.a ?_;refine EvC.rz ?_;simp only [go_sem]
 have hkl : k < n := by simpa using hc
 clear hc;have hs : (idL k).map intC ++ [[.sc (.int .i64 (k : Int))]] = (idL (k + 1)).map intC := by simp [idL, List.range_succ, intC]
 have hl2 : ((idL (k + 1)).map intC).length = k + 1 := by simp [idL]
 have hn2 := norefs_intC (idL (k + 1));have hr : room (k + 1) 8 = true := by simp only [room_eq, decide_eq_true_eq]; omega
 obtain ⟨kZ, hkZ⟩ : ∃ z : Int, z = (k : Int) := ⟨_, rfl⟩;rw [← hkZ] at hs ⊢;generalize (idL k).map intC = T0 at hs hl ⊢;obtain ⟨T1, hT1⟩ : ∃ T, T = (idL (k + 1)).map intC := ⟨_, rfl⟩;rw [← hT1] at hs hl2 hn2;refine EvC.skip ?_;refine EvC.seq ?_;refine EvC.block ?_;refine EvC.b ?_ (by simp only [go_sem, hl, hs] <;> rfl) (by simp [hr]);refine EvC.b ?_ (hok := by exact inI64_of (by omega) (by omega));have hne : (k + 1 == 0) = false := rfl;exact ⟨[(0, 0)], k + 1, rfl, (by rw [hkZ, ← hT1]; simp only [go_sem, hl2, hn2, hne, Int.natCast_add, Int.natCast_one] <;> rfl), hkl, by omega⟩
end Go.Avl
