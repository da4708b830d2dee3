/-
  Lemmas.
  Lemmas.
  Lemmas.
  From a law's row to its contract: arguments opened, and read again behind the call.
  How the arguments of the merges' laws read.
-/
import Derived.ProofKit
import Derived.OpenShut
import Derived.Test.YtkfpnkpomjmpeaaRows
import Derived.Test.YtkfpnkpomjmpeaaPart8
set_option linter.unusedSimpArgs false
set_option linter.unusedVariables false
set_option linter.unnecessarySimpa false
set_option linter.deprecated false
namespace Go.Avl
open Go Go.Proofs.Try
set_option maxRecDepth 10000
set_option linter.unusedSimpArgs false
inductive LR
 | done (c : List Nat) (k fuel : Nat)
 | spent
 | limit
def leastL (t : Mach) : Nat → Nat → Nat → LR
 | 0, _, _ => .limit
 | n + 1, k, fuel => match srch t k t.rows.length [] 0 fuel with
   | .found c f => .done c k f
   | .spent => .spent
   | .fail f => leastL t n (k + 1) f
def leastRes (t : Mach) (fuel : Int) : AV :=
 if nodesE t [] ≠ 0 then .tu [zeroM, .sc (.int .i64 0), .sc (.int .i64 (nodesE t []))]
 else if fuel < 1 then .tu [zeroM, .sc (.int .i64 0), .sc (.int .i64 17)]
 else match leastL t 64 1 fuel.toNat with
  | .done c k f => .tu [colRes t c k, .sc (.int .i64 f), .sc (.int .i64 0)]
  | .spent => .tu [zeroM, .sc (.int .i64 0), .sc (.int .i64 17)]
  | .limit => .tu [zeroM, .sc (.int .i64 0), .sc (.int .i64 3)]
def frW (t : Mach) (n i : Nat) (k : Nat) : Nat × Nat := if (parT t k).1 < n ∨ ((parT t k).1 = n ∧ (parT t k).2 < i) then parT t k else (0, 0)
def frP (t : Mach) (n i : Nat) : List (Nat × Nat) := (List.range t.rows.length).map (frW t n i)
theorem srch_spec (t : Mach) (k : Nat) : ∀ (d : Nat) (c : List Nat) (used fuel : Nat) (c' : List Nat) (f' : Nat), srch t k d c used fuel = .found c' f' → c'.length = c.length + d ∧ ((∀ x ∈ c, x < k) → ∀ x ∈ c', x < k)
 | 0, c, used, fuel, c', f', h => by
   rw [srch] at h; cases h
   exact ⟨rfl, id⟩
 | d + 1, c, used, fuel, c', f', h => by
   rw [srch] at h
   have key : ∀ (l : List Nat) (r : SR), (∀ x ∈ l, x < k) → (∀ c' f', r = .found c' f' → c'.length = c.length + (d + 1) ∧ ((∀ x ∈ c, x < k) → ∀ x ∈ c', x < k)) → ∀ c' f', l.foldl (stepS t (srch t k d) c used) r = .found c' f' → c'.length = c.length + (d + 1) ∧ ((∀ x ∈ c, x < k) → ∀ x ∈ c', x < k) := fun l => by
    induction l with
    | nil => intro r _ h; exact h
    | cons x l ih =>
      intro r hl h
      rw [List.foldl_cons]
      refine ih _ (fun y hy => hl y (List.mem_cons_of_mem _ hy)) fun c' f' he => ?_
      unfold stepS at he
      cases r with
      | found c2 f2 => exact h c' f' he
      | spent => cases he
      | fail f =>
        simp only at he
        split at he
        ·cases he
        ·split at he
         ·obtain ⟨h1, h2⟩ := srch_spec t k d _ _ _ _ _ he
          refine ⟨by rw [h1]; simp; omega, fun h3 => h2 fun y hy => ?_⟩
          rcases List.mem_append.1 hy with hy | hy
          ·exact h3 y hy
          ·rw [List.mem_singleton.1 hy]; exact hl x (by simp)
         ·cases he
   exact key _ _ (fun x hx => by have := List.mem_range.1 hx; omega) (fun c' f' he => by cases he) c' f' h
theorem ColOk.ren2 {cv : AV} {E c : List Nat} (h : ColOk cv E c) : AV.deep (renLeaf [(0, 0), (1, 1), (2, 2)]) cv = cv := by
 rcases h with ⟨_, _, rfl⟩ | ⟨rfl, _⟩ <;> rfl
theorem ColOk.framed {t : Mach} {cv : AV} {E c : List Nat} (h : ColOk cv E c) (fuel : Int) (sp b : Bool) (o : RObj) : Framed [(2, o)] (.sc (.bool b)) (coM t cv E fuel sp) 3 := by
 have hren := h.ren
 have hnr := h.noref
 exact ⟨[(0, 0), (1, 1)], rfl, by simp only [go_sem, coM, coO, norefs_natC, hnr, hren] <;> rfl, rfl, rfl⟩
theorem parT_edge {t : Mach} (tp : TP t) {k : Nat} (h1 : 1 ≤ k) (h2 : k < t.rows.length) : (eT t (parT t k).1 (parT t k).2).1 = (k : Int) := by
 obtain ⟨p, i, k1, k2, k3⟩ := tp.has k h1 h2
 rw [parT_eq tp k1 k2 k3]; exact k3
theorem frP_len (t : Mach) (n i : Nat) : (frP t n i).length = t.rows.length := by simp [frP]
theorem frP_get {t : Mach} {n i k : Nat} (h : k < t.rows.length) : (frP t n i)[k]? = some (frW t n i k) := by rw [frP, List.getElem?_map, List.getElem?_range h]; rfl
theorem frP_zero (t : Mach) : (frP t 0 0).map prC = List.replicate t.rows.length [.sc (.int .i64 0), .sc (.int .i64 0)] := by
 rw [List.eq_replicate_iff]
 refine ⟨by simp [frP], fun b hb => ?_⟩
 obtain ⟨x, hx, rfl⟩ := List.mem_map.1 hb
 obtain ⟨k, _, rfl⟩ := List.mem_map.1 hx
 unfold frW
 rw [if_neg (by omega)]; rfl
theorem frP_keep {t : Mach} (tp : TP t) {n i : Nat} (he : (eT t n i).1 = -1) : frP t n (i + 1) = frP t n i := by
 unfold frP
 refine List.map_congr_left fun k hk => ?_
 have hk := List.mem_range.1 hk
 unfold frW
 by_cases h0 : k = 0
 ·subst h0; rw [parT_zero]; split <;> split <;> rfl
 ·have h := parT_edge tp (by omega) hk
  by_cases h1 : (parT t k).1 < n ∨ (parT t k).1 = n ∧ (parT t k).2 < i
  ·rw [if_pos h1, if_pos (by omega)]
  ·rw [if_neg h1, if_neg]
   intro h2
   have h3 : (parT t k).1 = n ∧ (parT t k).2 = i := by omega
   rw [h3.1, h3.2, he] at h
   omega
theorem frP_set {t : Mach} (v : TV t) (tp : TP t) {n i q : Nat} (hn : n < t.rows.length) (hi : (i : Int) < t.ins) (he : (eT t n i).1 = (q : Int)) : (frP t n i).set q (n, i) = frP t n (i + 1) := by
 have hq : n < q ∧ q < t.rows.length := by have := v.edge hn hi; omega
 refine List.ext_getElem? fun k => ?_
 rw [List.getElem?_set]
 by_cases hkq : q = k
 ·subst hkq
  rw [if_pos rfl, if_pos (by rw [frP_len]; exact hq.2), frP_get hq.2, frW, parT_eq tp hq.1 hi he, if_pos (by simp)]
 ·rw [if_neg hkq]
  by_cases hk : k < t.rows.length
  ·rw [frP_get hk, frP_get hk]
   congr 1
   unfold frW
   by_cases h0 : k = 0
   ·subst h0; rw [parT_zero]; split <;> split <;> rfl
   ·have h := parT_edge tp (by omega) hk
    by_cases h1 : (parT t k).1 < n ∨ (parT t k).1 = n ∧ (parT t k).2 < i
    ·rw [if_pos h1, if_pos (by omega)]
    ·rw [if_neg h1, if_neg]
     intro h2
     have h3 : (parT t k).1 = n ∧ (parT t k).2 = i := by omega
     rw [h3.1, h3.2, he] at h
     omega
  ·rw [List.getElem?_eq_none (by rw [frP_len]; omega), List.getElem?_eq_none (by rw [frP_len]; omega)]
theorem frP_next {t : Mach} (v : TV t) (tp : TP t) {n i : Nat} (hi : (i : Int) = t.ins) : frP t n i = frP t (n + 1) 0 := by
 unfold frP
 refine List.map_congr_left fun k hk => ?_
 have hk := List.mem_range.1 hk
 have := parT_in v tp hk
 unfold frW
 by_cases h1 : (parT t k).1 < n ∨ (parT t k).1 = n ∧ (parT t k).2 < i
 ·rw [if_pos h1, if_pos (by omega)]
 ·rw [if_neg h1, if_neg (by omega)]
theorem frP_all {t : Mach} (v : TV t) (tp : TP t) : frP t t.rows.length 0 = frT t := by
 unfold frP frT
 refine List.map_congr_left fun k hk => ?_
 have hk := List.mem_range.1 hk
 have := parT_in v tp hk
 unfold frW
 rw [if_pos (by omega)]
set_option maxHeartbeats 8000000 in
theorem least31_is (t : Mach) (hr : ∀ r ∈ t.rows, r.2.length < 1000000) (fuel : Int) (hfu : fuel ≤ 1000000) : PureIs prog 31 [.ag t.cells, .sc (.int .i64 fuel)] (leastRes t fuel) := by
 have hN := nodes37_is t hr true [] .zer (by simp)
 rw [show ([] : List Int).map intC = [] from rfl] at hN
 unfold leastRes zeroM
 generalize hne : nodesE t [] = e at hN
 refine PureIs.of (nv := 3) (hid := [4, 5, 6, 7, 8, 9, 10, 11, 12, 13, 17, 21, 27, 32, 33, 34, 35, 39, 40, 41, 42, 48, 62, 65, 66, 67, 78]) func31 rfl (by kernel_rfl) (by simp [ntmps31]) fun _ => ?_
 rw [ntmps31, results31]
 refine EvC.seq (EvC.rg (by simp only [go_sem, Mach.cells] <;> rfl) (by simp) ?_)
 refine EvC.frzB 0 (by simp only [go_sem] <;> rfl) ?_
 rw [Mach.cells] at hN
 refine EvC.seq ?_
 apply EvC.seq
 apply EvC.tr
 ·apply Tr.run
  ·simp only [go_sem] <;> rfl
  ·simp
  apply Tr.cons
  ·exact .call rfl rfl (by simp only [go_sem] <;> rfl) (by simp only [go_sem] <;> rfl) (by simp only [go_sem] <;> rfl) (by simp only [go_sem] <;> rfl) (by simp only [go_sem] <;> rfl) (hN)
  apply Tr.done
  ·simp only [go_sem] <;> rfl
  ·simp
 refine EvC.seq (EvC.rg (by simp only [go_sem] <;> rfl) (by simp) ?_)
 by_cases he : e = 0
 rotate_left
 ·rw [if_pos he]
  refine EvC.cond_true (by simp only [go_sem, decide_eq_false he] <;> rfl) ?_
  refine EvC.seq (EvC.rg (by simp only [go_sem] <;> rfl) (by simp) ?_)
  refine EvC.ret ⟨.inl rfl, _, (by simp only [go_sem] <;> rfl), ?_, rfl⟩
  simp only [go_sem]
 rw [if_neg (fun h => h he)]
 subst he
 obtain ⟨v, _⟩ := nodesE_ok hne
 have hck : checkT t = 0 := by
  unfold nodesE at hne
  by_cases h : checkT t = 0
  ·exact h
  ·rw [if_pos h] at hne; exact absurd hne h
 have tp := TP.of hck
 have hin := v.ins
 have hrw := v.rows
 refine EvC.cond_false (by simp only [go_sem] <;> rfl) ?_
 refine EvC.skip ?_
 refine EvC.seq ?_
 refine EvC.seq (EvC.rg (by simp only [go_sem] <;> rfl) (by simp) ?_)
 by_cases hf1 : fuel < 1
 ·rw [if_pos hf1]
  refine EvC.cond_true (by simp only [go_sem, decide_eq_true hf1] <;> rfl) ?_
  refine EvC.seq (EvC.rg (by simp only [go_sem] <;> rfl) (by simp) ?_)
  refine EvC.ret ⟨.inl rfl, _, (by simp only [go_sem] <;> rfl), ?_, rfl⟩
  simp only [go_sem]
 rw [if_neg hf1]
 refine EvC.cond_false (by simp only [go_sem, decide_eq_false hf1] <;> rfl) ?_
 refine EvC.skip ?_
 obtain ⟨fu, rfl⟩ : ∃ f : Nat, fuel = f := ⟨fuel.toNat, by omega⟩
 rw [Int.toNat_natCast]
 obtain ⟨N, hNd⟩ : ∃ N, N = t.rows.length := ⟨_, rfl⟩
 have hNi : ((N : Int)).toNat = N := Int.toNat_natCast N
 have hrz : (List.replicate N [AV.sc (.int .i64 0), .sc (.int .i64 0)]).length = N := List.length_replicate
 apply EvC.seq
 apply EvC.drwA mixed
 ·apply Tr.done
  ·simp only [go_sem, List.length_map, hNd.symm, hNi, hrz] <;> rfl
  ·simp [room_eq]; omega
 ·kernel_rfl
 refine EvC.seq ?_
 refine EvC.seq (EvC.rg (by simp only [go_sem, List.length_map, hNd.symm] <;> rfl) (by simp) ?_)
 refine EvC.block ?_
 refine EvC.loopS (σ := Nat) (fun n => ⟨[(2, .ia [.sc (.int .i64 t.ins), .sc (.int .i64 t.outs), .sl t.nl (t.rows.map rowC) .unk]), (4, .rf 2 0), (8, .rf 0 0), (32, .sl t.nl (t.rows.map rowC) .unk), (33, .sc (.int .i64 N)), (34, .sc (.int .i64 n))], [], [(0, .cells [.sc (.int .i64 t.ins), .sc (.int .i64 t.outs), .sl t.nl (t.rows.map rowC) .unk, .tv 1 N 0 N (.val N), .sl true [] .zer, .sc (.int .i64 fu), .sc (.bool false)]), (1, .arr 2 ((frP t n 0).map prC) false), (2, .cells [.sc (.int .i64 0), .sc (.int .i64 0), .sl true [] .zer])], 3⟩) (fun n => N - n) (fun n => n ≤ N) [2, 4, 8, 32, 33, 34] 3 ?_ ?_
 ·have hz := frP_zero t
  rw [← hNd] at hz
  have hzn := prC_norefs (frP t 0 0)
  rw [hz] at hzn
  exact ⟨[(18, 0), (15, 1), (1, 2)], 0, rfl, (by simp only [go_sem, hz, hzn, Int.natCast_zero] <;> rfl), Nat.zero_le _⟩
 intro n hn
 have hnin : (n : Int).toNat = n := Int.toNat_natCast n
 refine EvC.seq (EvC.rg (by simp only [go_sem] <;> rfl) (by simp) ?_)
 refine EvC.seq ?_
 refine EvC.cond (by simp only [go_sem] <;> rfl) (fun hc => ?_) (fun hc => ?_)
 rotate_left
 ·
  obtain rfl : n = N := by have : ¬ n < N := by simpa using hc
                           omega
  refine EvC.exit ?_
  rw [show frP t n 0 = frT t by rw [hNd]; exact frP_all v tp]
  have hfrl : ((frT t).map prC).length = n := by simp [frT, hNd]
  refine EvC.frzD 1 (by simp only [go_sem, prC_norefs, hfrl] <;> rfl) ?_
  refine EvC.ownC 0 4 1 (by simp only [go_sem] <;> rfl) ?_
  refine EvC.thaw 4 (by simp only [go_sem] <;> rfl) ?_
  refine EvC.seq ?_
  refine EvC.seq (EvC.rg (by simp only [go_sem] <;> rfl) (by simp) ?_)
  refine EvC.block ?_
  obtain ⟨res, hres⟩ : ∃ r, r = leastL t 64 1 fu := ⟨_, rfl⟩
  rw [← hres]
  refine EvC.loopS (σ := Nat × AV × List Nat × Nat) (fun g => ⟨[(4, .rf 2 0), (8, .rf 0 0), (13, .sc (.int .i64 g.1))], [], coM t g.2.1 g.2.2.1 g.2.2.2 false ++ [(2, .cells [.sc (.int .i64 0), .sc (.int .i64 0), .sl true [] .zer])], 3⟩) (fun g => 65 - g.1)
   (fun g => 1 ≤ g.1 ∧ g.1 ≤ 65 ∧ ColOk g.2.1 g.2.2.1 [] ∧ g.2.2.1.length ≤ t.rows.length ∧ g.2.2.2 ≤ 1000000 ∧ leastL t (65 - g.1) g.1 g.2.2.2 = res) [4, 8, 13] 3 ?_ ?_
  ·exact ⟨[(0, 0), (4, 1), (2, 2)], (1, .tl 1 0 true, [], fu), rfl, (by simp only [go_sem, coM, coO, List.map_nil, List.cons_append, List.nil_append, Int.natCast_one] <;> rfl), by simp, by simp, .inl ⟨rfl, rfl, rfl⟩, by simp, by simp only; omega, hres.symm⟩
  rintro ⟨k, cv, E, f⟩ ⟨g1, g2, hv, hE, g4, g5⟩
  simp only at g1 g2 hv hE g4 g5 ⊢
  have hren := hv.ren2
  have hnr := hv.noref
  refine EvC.seq ?_
  refine EvC.seq (EvC.rg (by simp only [go_sem] <;> rfl) (by simp) ?_)
  refine EvC.cond (by simp only [go_sem] <;> rfl) (fun hc => ?_) (fun hc => ?_)
  rotate_left
  ·
   obtain rfl : k = 65 := by have : ¬ (k : Int) ≤ 64 := by simpa using hc
                             omega
   rw [show res = .limit from g5.symm]
   refine EvC.exit ?_
   refine EvC.seq (EvC.rg (by simp only [go_sem, coM, coO, List.cons_append, List.nil_append] <;> rfl) (by simp) ?_)
   refine EvC.ret ⟨.inl rfl, _, (by simp only [go_sem] <;> rfl), ?_, rfl⟩
   simp only [go_sem]
  have hk : k ≤ 64 := by have : (k : Int) ≤ 64 := by simpa using hc
                         omega
  clear hc
  refine EvC.skip ?_
  refine EvC.seq ?_
  refine EvC.block ?_
  obtain ⟨m, hm⟩ : ∃ m, 65 - k = m + 1 := ⟨64 - k, by omega⟩
  rw [hm, leastL] at g5
  refine EvC.seq ?_
  apply EvC.seq
  apply EvC.rs
  ·simp only [go_sem] <;> rfl
  ·simp
  refine XR.gcTo ⟨[(4, .rf 2 0), (8, .rf 0 0), (13, .sc (.int .i64 k)), (65, .rf 0 0), (66, .sc (.int .i64 k))], [], coM t cv E f false ++ [(2, .cells [.sc (.int .i64 0), .sc (.int .i64 0), .sl true [] .zer])], 3⟩ [4, 8, 13, 65, 66] [(0, 0), (1, 1), (2, 2)] rfl (by simp only [go_sem, coM, coO, norefs_natC, hnr, hren, List.cons_append, List.nil_append] <;> rfl) ?_
  refine XR.callF (coM t cv E f false) [(2, .cells [.sc (.int .i64 0), .sc (.int .i64 0), .sl true [] .zer])] (xs := [.rf 0 0, .sc (.int .i64 k), .sc (.int .i64 (0 : Nat))]) rfl rfl (by simp only [go_sem] <;> rfl) (by simp only [go_sem] <;> rfl) (by simp only [go_sem, coM, coO, Int.natCast_zero] <;> rfl) (by simp only [go_sem] <;> rfl) rfl ?_
  refine search64_body v tp k hk n [] E cv 0 f (by simp; omega) hv hE (by omega) g4 ?_
  clear hv hE hren hnr
  intro b cv E f' sp hok
  obtain ⟨hE, hok⟩ := hok
  have hfl := srch_fuel t k n [] 0 f
  have hsp := srch_spec t k n [] 0 f
  cases hsr : srch t k n [] 0 f with
  | found c f2 =>
    rw [show t.rows.length = n from hNd.symm, hsr] at g5
    rw [hsr] at hok hfl
    obtain ⟨rfl, hv, rfl, rfl⟩ := hok
    obtain ⟨l1, l2⟩ := hsp c f' hsr
    have l2 := l2 (fun x hx => by cases hx)
    have hcn : c.length = n := by rw [l1]; simp
    refine ⟨by simp, hv.framed _ _ _ _, ?_⟩
    rw [show res = .done c k f' from g5.symm]
    rcases hv with ⟨h0, _⟩ | ⟨rfl, hE1, hE2, hE3⟩
    ·rw [h0] at hcn; simp at hcn; omega
    refine XR.nil ?_
    refine EvC.cond_true (by simp only [go_sem] <;> rfl) ?_
    have hMc := machine65_is v (by omega) ⟨g1, hk⟩ l2 f' false
    have hElen : (E.map natC).length = E.length := List.length_map _
    have hEt : (if c.length = E.length then E.map natC else List.take c.length (E.map natC)) = c.map natC := by
     split
     ·rename_i h
      rw [← hE1, List.take_of_length_le (by omega)]
     ·rw [← List.map_take, hE1]
    refine EvC.frzD 1 (by simp only [go_sem, coM, coO, List.cons_append, List.nil_append, norefs_natC, hElen, hEt] <;> rfl) ?_
    refine EvC.frzB 0 (by simp only [go_sem] <;> rfl) ?_
    unfold colA at hMc
    have hcl : ∃ A, colRes t c k = .ag [.sc (.int .i64 t.ins), .sc (.int .i64 t.outs), .sl false A .full] := ⟨_, rfl⟩
    obtain ⟨A, hcA⟩ := hcl
    rw [hcA] at hMc
    apply EvC.seq
    apply EvC.drw mixed
    ·apply Tr.run
     ·simp only [go_sem] <;> rfl
     ·simp
     apply Tr.cons
     ·exact .call rfl rfl (by simp only [go_sem] <;> rfl) (by simp only [go_sem] <;> rfl) (by simp only [go_sem] <;> rfl) (by simp only [go_sem] <;> rfl) (by simp only [go_sem] <;> rfl) (hMc)
     apply Tr.done
     ·simp only [go_sem] <;> rfl
     ·simp
    ·kernel_rfl
    refine EvC.ret ⟨.inl rfl, _, (by simp only [go_sem] <;> rfl), ?_, rfl⟩
    simp only [go_sem]
    rw [hcA]
  | spent =>
    rw [show t.rows.length = n from hNd.symm, hsr] at g5
    rw [hsr] at hok
    obtain ⟨rfl, rfl, ⟨c, hv⟩, rfl⟩ := hok
    refine ⟨by simp, hv.framed _ _ _ _, ?_⟩
    rw [show res = .spent from g5.symm]
    refine XR.nil ?_
    refine EvC.cond_false (by simp only [go_sem] <;> rfl) ?_
    refine EvC.skip ?_
    refine EvC.seq (EvC.rg (by simp only [go_sem, coM, coO, List.cons_append, List.nil_append] <;> rfl) (by simp) ?_)
    refine EvC.cond_true (by simp only [go_sem] <;> rfl) ?_
    refine EvC.seq (EvC.rg (by simp only [go_sem] <;> rfl) (by simp) ?_)
    refine EvC.ret ⟨.inl rfl, _, (by simp only [go_sem] <;> rfl), ?_, rfl⟩
    simp only [go_sem]
  | fail f2 =>
    rw [show t.rows.length = n from hNd.symm, hsr] at g5
    rw [hsr] at hok hfl
    obtain ⟨rfl, hv, rfl, rfl⟩ := hok
    have hfl : f' ≤ f := hfl
    have hren := hv.ren2
    have hnr := hv.noref
    refine ⟨by simp, hv.framed _ _ _ _, ?_⟩
    refine XR.nil ?_
    refine EvC.cond_false (by simp only [go_sem] <;> rfl) ?_
    refine EvC.skip ?_
    refine EvC.seq (EvC.rg (by simp only [go_sem, coM, coO, List.cons_append, List.nil_append] <;> rfl) (by simp) ?_)
    refine EvC.cond_false (by simp only [go_sem] <;> rfl) ?_
    refine EvC.skip ?_
    refine EvC.rg (by simp only [go_sem] <;> rfl) (by exact inI64_of (by omega) (by omega)) ?_
    exact ⟨[(0, 0), (1, 1), (2, 2)], (k + 1, cv, E, f'), rfl, (by simp only [go_sem, coM, coO, norefs_natC, hnr, hren, List.cons_append, List.nil_append, Int.natCast_add, Int.natCast_one] <;> rfl), ⟨by simp only; omega, by simp only; omega, hv, hE, by simp only; omega, by simp only; rw [show 65 - (k + 1) = m by omega]; exact g5⟩, by simp only; omega⟩
 have hnN : n < N := by simpa using hc
 clear hc
 refine EvC.skip ?_
 refine EvC.seq ?_
 refine EvC.block ?_
 obtain ⟨A, hA⟩ : ∃ A, t.rows[n]? = some A := ⟨_, List.getElem?_eq_getElem (by omega)⟩
 have hAl := (v.row n A hA).1
 refine EvC.seq (EvC.rg (by simp only [go_sem, hA, hnin, rowC, List.length_map] <;> rfl) (by simp) ?_)
 refine EvC.seq (EvC.rg (by simp only [go_sem, List.length_map] <;> rfl) (by simp) ?_)
 refine EvC.block ?_
 refine EvC.loopS (σ := Nat) (fun i => ⟨[(2, .ia [.sc (.int .i64 t.ins), .sc (.int .i64 t.outs), .sl t.nl (t.rows.map rowC) .unk]), (4, .rf 2 0), (8, .rf 0 0), (9, .sc (.int .i64 n)), (32, .sl t.nl (t.rows.map rowC) .unk), (33, .sc (.int .i64 N)), (34, .sc (.int .i64 n)), (39, .sl A.1 (A.2.map edgeC) .unk), (40, .sc (.int .i64 A.2.length)), (41, .sc (.int .i64 i))], [], [(0, .cells [.sc (.int .i64 t.ins), .sc (.int .i64 t.outs), .sl t.nl (t.rows.map rowC) .unk, .tv 1 N 0 N (.val N), .sl true [] .zer, .sc (.int .i64 fu), .sc (.bool false)]), (1, .arr 2 ((frP t n i).map prC) false), (2, .cells [.sc (.int .i64 0), .sc (.int .i64 0), .sl true [] .zer])], 3⟩) (fun i => t.ins.toNat - i) (fun i => (i : Int) ≤ t.ins) [2, 4, 8, 9, 32, 33, 34, 39, 40, 41] 3 ?_ ?_
 ·exact ⟨[(0, 0), (1, 1), (2, 2)], 0, rfl, (by simp only [go_sem, prC_norefs, Int.natCast_zero] <;> rfl), by omega⟩
 intro i hi
 have hiin : (i : Int).toNat = i := Int.toNat_natCast i
 refine EvC.seq (EvC.rg (by simp only [go_sem] <;> rfl) (by simp) ?_)
 refine EvC.seq ?_
 refine EvC.cond (by simp only [go_sem] <;> rfl) (fun hc => ?_) (fun hc => ?_)
 rotate_left
 ·
  have hiI : ¬ i < A.2.length := by simpa using hc
  refine EvC.exit ?_
  rw [frP_next v tp (show (i : Int) = t.ins by omega)]
  refine EvC.rg (by simp only [go_sem] <;> rfl) (by exact inI64_of (by omega) (by omega)) ?_
  exact ⟨[(0, 0), (1, 1), (2, 2)], n + 1, rfl, (by simp only [go_sem, prC_norefs, Int.natCast_add, Int.natCast_one] <;> rfl), hnN, by omega⟩
 have hi : (i : Int) < t.ins := by have : i < A.2.length := by simpa using hc
                                   omega
 clear hc
 refine EvC.skip ?_
 refine EvC.seq ?_
 refine EvC.block ?_
 have hAi : A.2[i]? = some (eT t n i) := by
  obtain ⟨A', h1, _, h2⟩ := row_get v (n := n) (i := i) (by omega) hi
  rw [hA] at h1; cases h1; exact h2
 have eA := v.edge (n := n) (i := i) (by omega) hi
 have hkeep := fun h => frP_keep tp (n := n) (i := i) h
 have hset := fun q h => frP_set v tp (n := n) (i := i) (q := q) (by omega) hi h
 generalize eT t n i = e at hAi eA hkeep hset
 obtain ⟨e1, e2⟩ := e
 simp only at eA hkeep hset
 have hnr := prC_norefs (frP t n i)
 refine EvC.seq (EvC.rg (by simp only [go_sem, hAi, hiin, edgeC, List.length_map] <;> rfl) (by simp; try omega) ?_)
 refine EvC.frzB 7 (by simp only [go_sem, hnr] <;> rfl) ?_
 refine EvC.seq (EvC.rg (by simp only [go_sem] <;> rfl) (by simp) ?_)
 by_cases he : e1 = -1
 ·refine EvC.cond_false (by simp only [go_sem, decide_eq_true he] <;> rfl) ?_
  refine EvC.skip ?_
  rw [← hkeep he]
  refine EvC.rg (by simp only [go_sem] <;> rfl) (by exact inI64_of (by omega) (by omega)) ?_
  exact ⟨[(0, 0), (1, 1), (2, 2)], i + 1, rfl, (by simp only [go_sem, prC_norefs, Int.natCast_add, Int.natCast_one] <;> rfl), by omega, by omega⟩
 refine EvC.cond_true (by simp only [go_sem, decide_eq_false he] <;> rfl) ?_
 obtain ⟨q, rfl⟩ : ∃ q : Nat, e1 = q := ⟨e1.toNat, by omega⟩
 have hqin : (q : Int).toNat = q := Int.toNat_natCast q
 have hset := hset q rfl
 have hgq := frP_get (t := t) (n := n) (i := i) (k := q) (by omega)
 have hfl : ((frP t n i).map prC).length = N := by rw [List.length_map, frP_len, hNd]
 have hm3 : ((frP t n i).map prC).set q [.sc (.int .i64 n), .sc (.int .i64 i)] = (frP t n (i + 1)).map prC := by rw [← hset, List.map_set]; rfl
 apply EvC.drwA mixed
 ·apply Tr.done
  ·simp only [go_sem, hqin, hgq, hfl, hm3, prC, List.drop_succ_cons, List.drop_zero] <;> rfl
  ·simp [hfl]; try omega
 ·kernel_rfl
 refine EvC.rg (by simp only [go_sem] <;> rfl) (by exact inI64_of (by omega) (by omega)) ?_
 exact ⟨[(0, 0), (1, 1), (2, 2)], i + 1, rfl, (by simp only [go_sem, prC_norefs, Int.natCast_add, Int.natCast_one] <;> rfl), by omega, by omega⟩
end Go.Avl
namespace Go.Avl
open Go Go.Proofs.Try
set_option maxRecDepth 10000
set_option linter.unusedSimpArgs false
def exT : Mach := ⟨1, 2, false, [(false, [(1, 0)]), (false, [(2, 1)]), (false, [(3, 0)]), (false, [(4, 1)]), (false, [(-1, -1)])]⟩
def exO : Mach := ⟨1, 2, false, [(false, [(1, 0)]), (false, [(2, 0)]), (false, [(-1, -1)])]⟩
def oneM : Mach := ⟨1, 2, false, [(false, [(0, 0)])]⟩
theorem exT_eq : treeM 1 2 (okLog [⟨List.replicate 4 0, [0, 1, 0, 1]⟩]) = exT := by kernel_rfl
theorem exO_eq : treeM 1 2 (okLog [⟨List.replicate 2 0, [0, 0]⟩]) = exO := by kernel_rfl
theorem exT_nodes (l : List Int) (h : l.all (inT 5) = true) : nodesE exT l = 0 := by
 have h1 : checkT exT = 0 := by kernel_rfl
 unfold nodesE
 rw [h1]
 have : exT.rows.length = 5 := rfl
 rw [this, h]; rfl
theorem exT_c01 : compAns exT 0 1 = .tu [.sc (.bool false), .sc (.int .i64 0)] := by kernel_rfl
theorem exT_c02 : compAns exT 0 2 = .tu [.sc (.bool true), .sc (.int .i64 0)] := by kernel_rfl
theorem exT_c34 : compAns exT 3 4 = .tu [.sc (.bool true), .sc (.int .i64 0)] := by kernel_rfl
theorem exT_f02 : foldC exT (List.range 5) 0 2 = some [0, 1, 0, 1, 0] := by kernel_rfl
theorem exT_f04 : foldC exT (List.range 5) 0 4 = some [0, 1, 2, 3, 0] := by kernel_rfl
theorem exT_f14 : foldC exT (List.range 5) 1 4 = some [0, 1, 2, 3, 1] := by kernel_rfl
theorem exT_merge : mergeT exT = some [[(1, 0)], [(0, 1)]] := by kernel_rfl
theorem exO_merge : mergeT exO = some [[(0, 0)]] := by kernel_rfl
theorem exT_least : leastL exT 64 1 100 = .done [0, 1, 0, 1, 0] 2 91 := by kernel_rfl
theorem ex_chain : PureIs prog 36 [.sc (.int .i64 2), .sl false [[.sc (.int .i64 0)], [.sc (.int .i64 1)], [.sc (.int .i64 0)], [.sc (.int .i64 1)]] .full] (.ag exT.cells) := by
 have := chain36_is 2 [0, 1, 0, 1] .full (by simp)
 rw [show [(0 : Int), 1, 0, 1].length = 4 from rfl, exT_eq] at this
 exact this
theorem ex_chain2 : PureIs prog 36 [.sc (.int .i64 2), .sl false [[.sc (.int .i64 0)], [.sc (.int .i64 0)]] .full] (.ag exO.cells) := by
 have := chain36_is 2 [0, 0] .full (by simp)
 rw [show [(0 : Int), 0].length = 2 from rfl, exO_eq] at this
 exact this
theorem exT_rows : ∀ r ∈ exT.rows, r.2.length < 1000000 := by decide
theorem exO_rows : ∀ r ∈ exO.rows, r.2.length < 1000000 := by decide
theorem exT_rowsF : RowsF exT := by
 intro r hr _
 simp [exT] at hr
 rcases hr with rfl | rfl | rfl | rfl | rfl <;> rfl
theorem exO_rowsF : RowsF exO := by
 intro r hr _
 simp [exO] at hr
 rcases hr with rfl | rfl | rfl <;> rfl
theorem ex_comp (a b : Int) (x : Bool) (h : compAns exT a b = .tu [.sc (.bool x), .sc (.int .i64 0)]) : PureIs prog 13 [.ag exT.cells, .sc (.int .i64 a), .sc (.int .i64 b)] (.tu [.sc (.bool x), .sc (.int .i64 0)]) := by
 rw [← h]; exact comp13_is exT exT_rows a b
theorem ex_fold (a b : Nat) (l : List Int) (c : List Nat) (hl : c.map natC = l.map intC) (hn : nodesE exT [(a : Int), (b : Int)] = 0) (h : foldC exT (List.range 5) a b = some c) : PureIs prog 16 [.ag exT.cells, .sc (.int .i64 a), .sc (.int .i64 b)] (.tu [.sl false (l.map intC) .full, .sc (.bool true), .sc (.int .i64 0)]) := by
 have := fold16_is exT exT_rows exT_rowsF a b
 unfold foldRes at this
 rw [hn, if_neg (by simp), Int.toNat_natCast, Int.toNat_natCast, show exT.rows.length = 5 from rfl, h] at this
 simp only at this
 rw [hl] at this
 exact this
def twoA : AV := .ag [.sc (.int .i64 1), .sc (.int .i64 2), .sl false [[.sl false [[.sc (.int .i64 1), .sc (.int .i64 0)]] .full], [.sl false [[.sc (.int .i64 0), .sc (.int .i64 1)]] .full]] .full]
def oneA : AV := .ag [.sc (.int .i64 1), .sc (.int .i64 2), .sl false [[.sl false [[.sc (.int .i64 0), .sc (.int .i64 0)]] .full]] .full]
theorem ex_merge : PureIs prog 20 [.ag exT.cells] (.tu [twoA, .sc (.int .i64 0)]) := by
 have := merge20_is exT exT_rows exT_rowsF
 unfold mergeRes at this
 rw [exT_nodes [] rfl, if_neg (by simp), exT_merge] at this
 exact this
theorem exO_nodes : nodesE exO [] = 0 := by
 have h1 : checkT exO = 0 := by kernel_rfl
 unfold nodesE
 rw [h1]; rfl
theorem ex_one : PureIs prog 20 [.ag exO.cells] (.tu [oneA, .sc (.int .i64 0)]) := by
 have := merge20_is exO exO_rows exO_rowsF
 unfold mergeRes at this
 rw [exO_nodes, if_neg (by simp), exO_merge] at this
 exact this
def twoU : AV := .ag [.sc (.int .i64 1), .sc (.int .i64 2), .sl false [[.sl false [[.sc (.int .i64 1), .sc (.int .i64 0)]] .unk], [.sl false [[.sc (.int .i64 0), .sc (.int .i64 1)]] .unk]] .full]
theorem ex_col : colRes exT [0, 1, 0, 1, 0] 2 = twoU := by kernel_rfl
theorem ex_least : PureIs prog 31 [.ag exT.cells, .sc (.int .i64 100)] (.tu [twoU, .sc (.int .i64 91), .sc (.int .i64 0)]) := by
 have := least31_is exT exT_rows 100 (by omega)
 unfold leastRes at this
 rw [exT_nodes [] rfl, if_neg (by simp), if_neg (by omega), show (100 : Int).toNat = 100 from rfl, exT_least] at this
 simp only at this
 rw [ex_col] at this
 exact this
theorem ex_fitB : fitB exT oneM = false := by
 classical
 unfold fitB
 rw [decide_eq_false_iff_not]
 rintro ⟨h, h0, hk⟩
 have k0 := hk 0 0 (by decide) (by decide)
 have k1 := hk 1 0 (by decide) (by decide)
 rw [h0] at k0
 have e1 := k0.2 (by decide)
 have e2 : h 1 = 0 := by
  have : ((0 : Nat) : Int) = (h 1 : Nat) := e1
  omega
 rw [e2] at k1
 have := k1.1
 revert this
 decide
theorem ex_fits : PureIs prog 23 [oneA, .ag exT.cells] (.tu [.sc (.bool false), .sc (.int .i64 0)]) := by
 have := fits23_is exT oneM exT_rows (by decide)
 rw [ex_fitB] at this
 have e : fitAns exT false oneM = .tu [.sc (.bool false), .sc (.int .i64 0)] := by kernel_rfl
 rw [e] at this
 refine PureIs.weak ?_
 exact this
theorem ex_same1 : PureIs prog 22 [twoA, .ag twoM.cells] (.sc (.bool true)) := by
 refine PureIs.weak ?_
 exact sameM_is (a := twoM) (b := twoM) rfl rfl rfl (by decide) (by decide)
theorem ex_same2 : PureIs prog 22 [twoU, .ag twoM.cells] (.sc (.bool true)) := by
 refine PureIs.weak ?_
 exact sameM_is (a := twoM) (b := twoM) rfl rfl rfl (by decide) (by decide)
theorem ex_same3 : PureIs prog 22 [oneA, oneA] (.sc (.bool true)) := by
 refine PureIs.weak ?_
 exact sameM_is (a := oneM) (b := oneM) rfl rfl rfl (by decide) (by decide)
end Go.Avl
namespace Go.Avl
open Go Go.Proofs.Try
set_option maxRecDepth 10000
set_option linter.unusedSimpArgs false
set_option maxHeartbeats 8000000 in
theorem lives15_is : PureIs prog 15 [] (.sc (.bool true)) := by
 have hc := ex_chain
 have c01 := ex_comp 0 1 false exT_c01
 have c02 := ex_comp 0 2 true exT_c02
 have c34 := ex_comp 3 4 true exT_c34
 have f02 := ex_fold 0 2 [0, 1, 0, 1, 0] _ rfl (exT_nodes _ rfl) exT_f02
 have f04 := ex_fold 0 4 [0, 1, 2, 3, 0] _ rfl (exT_nodes _ rfl) exT_f04
 have f14 := ex_fold 1 4 [0, 1, 2, 3, 1] _ rfl (exT_nodes _ rfl) exT_f14
 have hsm := fun l : List Int => fun h : l.length < 1000000 => same_is false l .full false l .full h
 have s1 := hsm [0, 1, 0, 1, 0] (by simp)
 have s2 := hsm [0, 1, 2, 3, 0] (by simp)
 have s3 := hsm [0, 1, 2, 3, 1] (by simp)
 have hm := ex_merge
 have hl := ex_least
 have hc2 := ex_chain2
 have ho := ex_one
 have hf := ex_fits
 have m1 := ex_same1
 have m2 := ex_same2
 have m3 := ex_same3
 have ht := two41_is
 rw [Mach.cells] at hc c01 c02 c34 f02 f04 f14 hm hl hc2 ho hf m1 m2 ht
 simp only [List.map_cons, List.map_nil, intC, decide_true] at f02 f04 f14 s1 s2 s3
 unfold twoA at hm m1
 unfold twoU at hl m2
 unfold oneA at ho hf m3
 refine PureIs.of (nv := 17) (hid := [11, 12, 14, 54, 112]) func15 rfl (by kernel_rfl) (by simp [ntmps15]) fun _ => ?_
 rw [ntmps15, results15]
 refine EvC.seq (EvC.rg (by simp only [go_sem] <;> rfl) (by simp) ?_)
 apply EvC.seq
 apply EvC.tr
 ·apply Tr.run
  ·simp only [go_sem] <;> rfl
  ·simp
  apply Tr.cons
  ·exact .call rfl rfl (by simp only [go_sem] <;> rfl) (by simp only [go_sem] <;> rfl) (by simp only [go_sem] <;> rfl) (by simp only [go_sem] <;> rfl) (by simp only [go_sem] <;> rfl) (hc)
  apply Tr.done
  ·simp only [go_sem] <;> rfl
  ·simp
 refine EvC.frzB 3 (by simp only [go_sem] <;> rfl) ?_
 apply EvC.seq
 apply EvC.tr
 ·apply Tr.run
  ·simp only [go_sem] <;> rfl
  ·simp
  apply Tr.cons
  ·exact .call rfl rfl (by simp only [go_sem] <;> rfl) (by simp only [go_sem] <;> rfl) (by simp only [go_sem] <;> rfl) (by simp only [go_sem] <;> rfl) (by simp only [go_sem] <;> rfl) (c01)
  apply Tr.done
  ·simp only [go_sem] <;> rfl
  ·simp
 apply EvC.seq
 apply EvC.tr
 ·apply Tr.run
  ·simp only [go_sem] <;> rfl
  ·simp
  apply Tr.cons
  ·exact .call rfl rfl (by simp only [go_sem] <;> rfl) (by simp only [go_sem] <;> rfl) (by simp only [go_sem] <;> rfl) (by simp only [go_sem] <;> rfl) (by simp only [go_sem] <;> rfl) (c02)
  apply Tr.done
  ·simp only [go_sem] <;> rfl
  ·simp
 apply EvC.seq
 apply EvC.tr
 ·apply Tr.run
  ·simp only [go_sem] <;> rfl
  ·simp
  apply Tr.cons
  ·exact .call rfl rfl (by simp only [go_sem] <;> rfl) (by simp only [go_sem] <;> rfl) (by simp only [go_sem] <;> rfl) (by simp only [go_sem] <;> rfl) (by simp only [go_sem] <;> rfl) (c34)
  apply Tr.done
  ·simp only [go_sem] <;> rfl
  ·simp
 refine EvC.seq ?_
 apply EvC.seq
 apply EvC.trd
 ·simp only [go_sem] <;> rfl
 ·simp
 refine EvC.cond_false (by simp only [go_sem] <;> rfl) ?_
 refine EvC.skip ?_
 apply EvC.seq
 apply EvC.tr
 ·apply Tr.run
  ·simp only [go_sem] <;> rfl
  ·simp
  apply Tr.cons
  ·exact .call rfl rfl (by simp only [go_sem] <;> rfl) (by simp only [go_sem] <;> rfl) (by simp only [go_sem] <;> rfl) (by simp only [go_sem] <;> rfl) (by simp only [go_sem] <;> rfl) (f02)
  apply Tr.done
  ·simp only [go_sem] <;> rfl
  ·simp
 apply EvC.seq
 apply EvC.tr
 ·apply Tr.run
  ·simp only [go_sem] <;> rfl
  ·simp
  apply Tr.cons
  ·exact .call rfl rfl (by simp only [go_sem] <;> rfl) (by simp only [go_sem] <;> rfl) (by simp only [go_sem] <;> rfl) (by simp only [go_sem] <;> rfl) (by simp only [go_sem] <;> rfl) (f04)
  apply Tr.done
  ·simp only [go_sem] <;> rfl
  ·simp
 apply EvC.seq
 apply EvC.tr
 ·apply Tr.run
  ·simp only [go_sem] <;> rfl
  ·simp
  apply Tr.cons
  ·exact .call rfl rfl (by simp only [go_sem] <;> rfl) (by simp only [go_sem] <;> rfl) (by simp only [go_sem] <;> rfl) (by simp only [go_sem] <;> rfl) (by simp only [go_sem] <;> rfl) (f14)
  apply Tr.done
  ·simp only [go_sem] <;> rfl
  ·simp
 refine EvC.seq ?_
 apply EvC.seq
 apply EvC.tr
 ·apply Tr.run
  ·simp only [go_sem] <;> rfl
  ·simp
  apply Tr.cons
  ·exact .callG rfl rfl (by simp only [go_sem] <;> rfl) rfl (by simp only [go_sem] <;> rfl) (by simp only [go_sem] <;> rfl) (by simp only [go_sem] <;> rfl) (by simp only [go_sem] <;> rfl) (by simp only [go_sem] <;> rfl) (s1)
  apply Tr.run
  ·simp only [go_sem] <;> rfl
  ·simp
  apply Tr.cons
  ·exact .callG rfl rfl (by simp only [go_sem] <;> rfl) rfl (by simp only [go_sem] <;> rfl) (by simp only [go_sem] <;> rfl) (by simp only [go_sem] <;> rfl) (by simp only [go_sem] <;> rfl) (by simp only [go_sem] <;> rfl) (s2)
  apply Tr.run
  ·simp only [go_sem] <;> rfl
  ·simp
  apply Tr.cons
  ·exact .callG rfl rfl (by simp only [go_sem] <;> rfl) rfl (by simp only [go_sem] <;> rfl) (by simp only [go_sem] <;> rfl) (by simp only [go_sem] <;> rfl) (by simp only [go_sem] <;> rfl) (by simp only [go_sem] <;> rfl) (s3)
  apply Tr.done
  ·simp only [go_sem] <;> rfl
  ·simp
 refine EvC.cond_false (by simp only [go_sem] <;> rfl) ?_
 refine EvC.skip ?_
 refine EvC.gc [0, 1] [] 0 rfl ?_
 apply EvC.seq
 apply EvC.tr
 ·apply Tr.run
  ·simp only [go_sem] <;> rfl
  ·simp
  apply Tr.cons
  ·exact .call rfl rfl (by simp only [go_sem] <;> rfl) (by simp only [go_sem] <;> rfl) (by simp only [go_sem] <;> rfl) (by simp only [go_sem] <;> rfl) (by simp only [go_sem] <;> rfl) (hm)
  apply Tr.done
  ·simp only [go_sem] <;> rfl
  ·simp
 refine EvC.frzB 5 (by simp only [go_sem] <;> rfl) ?_
 refine EvC.gc [0, 1, 3, 11] [] 0 rfl ?_
 apply EvC.seq
 apply EvC.tr
 ·apply Tr.run
  ·simp only [go_sem] <;> rfl
  ·simp
  apply Tr.cons
  ·exact .call rfl rfl (by simp only [go_sem] <;> rfl) (by simp only [go_sem] <;> rfl) (by simp only [go_sem] <;> rfl) (by simp only [go_sem] <;> rfl) (by simp only [go_sem] <;> rfl) (hl)
  apply Tr.done
  ·simp only [go_sem] <;> rfl
  ·simp
 refine EvC.frzB 6 (by simp only [go_sem] <;> rfl) ?_
 refine EvC.gc [0, 1, 3, 5, 11, 12, 13] [] 0 rfl ?_
 apply EvC.seq
 apply EvC.tr
 ·apply Tr.run
  ·simp only [go_sem] <;> rfl
  ·simp
  apply Tr.cons
  ·exact .call rfl rfl (by simp only [go_sem] <;> rfl) (by simp only [go_sem] <;> rfl) (by simp only [go_sem] <;> rfl) (by simp only [go_sem] <;> rfl) (by simp only [go_sem] <;> rfl) (hc2)
  apply Tr.run
  ·simp only [go_sem] <;> rfl
  ·simp
  apply Tr.cons
  ·exact .call rfl rfl (by simp only [go_sem] <;> rfl) (by simp only [go_sem] <;> rfl) (by simp only [go_sem] <;> rfl) (by simp only [go_sem] <;> rfl) (by simp only [go_sem] <;> rfl) (ho)
  apply Tr.done
  ·simp only [go_sem] <;> rfl
  ·simp
 refine EvC.frzB 6 (by simp only [go_sem] <;> rfl) ?_
 refine EvC.gc [0, 1, 3, 5, 7, 11, 12, 13, 14] [] 0 rfl ?_
 apply EvC.seq
 apply EvC.tr
 ·apply Tr.run
  ·simp only [go_sem] <;> rfl
  ·simp
  apply Tr.cons
  ·exact .call rfl rfl (by simp only [go_sem] <;> rfl) (by simp only [go_sem] <;> rfl) (by simp only [go_sem] <;> rfl) (by simp only [go_sem] <;> rfl) (by simp only [go_sem] <;> rfl) (hf)
  apply Tr.done
  ·simp only [go_sem] <;> rfl
  ·simp
 apply EvC.seq
 apply EvC.drw mixed
 ·apply Tr.run
  ·simp only [go_sem] <;> rfl
  ·simp
  apply Tr.cons
  ·exact .callG rfl rfl (by simp only [go_sem] <;> rfl) rfl (by simp only [go_sem] <;> rfl) (by simp only [go_sem] <;> rfl) (by simp only [go_sem] <;> rfl) (by simp only [go_sem] <;> rfl) (by simp only [go_sem] <;> rfl) (ht)
  apply Tr.run
  ·simp only [go_sem] <;> rfl
  ·simp
  apply Tr.cons
  ·exact .callG rfl rfl (by simp only [go_sem] <;> rfl) rfl (by simp only [go_sem] <;> rfl) (by simp only [go_sem] <;> rfl) (by simp only [go_sem] <;> rfl) (by simp only [go_sem] <;> rfl) (by simp only [go_sem] <;> rfl) (m1)
  apply Tr.run
  ·simp only [go_sem] <;> rfl
  ·simp
  apply Tr.cons
  ·exact .callG rfl rfl (by simp only [go_sem] <;> rfl) rfl (by simp only [go_sem] <;> rfl) (by simp only [go_sem] <;> rfl) (by simp only [go_sem] <;> rfl) (by simp only [go_sem] <;> rfl) (by simp only [go_sem] <;> rfl) (ht)
  apply Tr.run
  ·simp only [go_sem] <;> rfl
  ·simp
  apply Tr.cons
  ·exact .callG rfl rfl (by simp only [go_sem] <;> rfl) rfl (by simp only [go_sem] <;> rfl) (by simp only [go_sem] <;> rfl) (by simp only [go_sem] <;> rfl) (by simp only [go_sem] <;> rfl) (by simp only [go_sem] <;> rfl) (m2)
  apply Tr.run
  ·simp only [go_sem] <;> rfl
  ·simp
  apply Tr.cons
  ·exact .callG rfl rfl (by simp only [go_sem] <;> rfl) rfl (by simp only [go_sem] <;> rfl) (by simp only [go_sem] <;> rfl) (by simp only [go_sem] <;> rfl) (by simp only [go_sem] <;> rfl) (by simp only [go_sem] <;> rfl) (m3)
  apply Tr.done
  ·simp only [go_sem] <;> rfl
  ·simp
 ·kernel_rfl
 refine EvC.ret ⟨.inl rfl, _, (by simp only [go_sem] <;> rfl), ?_, rfl⟩
 simp only [go_sem]
end Go.Avl
namespace Go.Avl
open Go Go.ChangeShapes Go.RowKit
def Live (w : World) : Nat → Nat → Prop := fun b _ => b < w.heap.size
section
variable {H : Type} {enc : TypeId × Value → H} {P : Program} {w : World} {α β : Type}
def Fits (P : Program) (t : TypeId) (d : DataW H) : Prop := ∀ n ∈ d.weights P t, n ≤ reachBytes
theorem fits_all {P : Program} {e : TypeId} : ∀ {l : List (DataW H)}, (∀ n ∈ DataW.weightsAll P e l, n ≤ reachBytes) → ∀ d ∈ l, Fits P e d
 | [], _, d, hd => by cases hd
 | a :: l, h, d, hd => by
   simp only [DataW.weightsAll, List.mem_append] at h
   rcases List.mem_cons.1 hd with rfl | hd
   ·exact fun n hn => h n (.inl hn)
   ·exact fits_all (fun n hn => h n (.inr hn)) d hd
theorem fits_each {P : Program} : ∀ {ts : List TypeId} {l : List (DataW H)}, (∀ n ∈ DataW.weightsEach P ts l, n ≤ reachBytes) → ∀ (i : Nat) t d, ts[i]? = some t → l[i]? = some d → Fits P t d
 | [], _, _, i, t, d, h1, _ => by simp at h1
 | _ :: _, [], _, i, t, d, _, h2 => by simp at h2
 | a :: ts, b :: l, h, i, t, d, h1, h2 => by
   simp only [DataW.weightsEach, List.mem_append] at h
   cases i with
   | zero =>
     simp only [List.getElem?_cons_zero, Option.some.injEq] at h1 h2
     subst h1; subst h2
     exact fun n hn => h n (.inl hn)
   | succ i => exact fits_each (fun n hn => h n (.inr hn)) i t d (by simpa using h1) (by simpa using h2)
def Reads (enc : TypeId × Value → H) (P : Program) (w : World) (t : TypeId) (f : α → List AV) (Ok : α → Prop) : Prop :=
 ∀ fuel cs x, Fits P t x.1 → DataW.trod enc P w 0 (fun _ => true) true fuel t cs = some x →
   ∃ a, Ok a ∧ Imms (Live w) w cs (f a) ∧ ∀ v ∈ cs, v.oneCell' = true
theorem Imms.one {F : Nat → Nat → Prop} {v : Value} {x : AV} (h : Imm F w v x) : Imms F w [v] [x] :=
 ⟨rfl, fun i h1 _ => by have : i = 0 := by simpa using h1
                        subst this; exact h⟩
theorem Imms.append {F : Nat → Nat → Prop} {vs vs' : List Value} {xs xs' : List AV} (h : Imms F w vs xs) (h' : Imms F w vs' xs') : Imms F w (vs ++ vs') (xs ++ xs') := by
 have e := h.1
 have e' := h'.1
 refine ⟨by simp [e, e'], fun i h1 h2 => ?_⟩
 by_cases hi : i < vs.length
 ·rw [List.getElem_append_left hi, List.getElem_append_left (by omega)]; exact h.2 i _ _
 ·rw [List.getElem_append_right (by omega), List.getElem_append_right (by omega)]
  have := h'.2 (i - vs.length) (by simp at h1; omega) (by simp at h2; omega)
  simpa only [e] using this
theorem Reads.mono {t : TypeId} {f : α → List AV} {Ok : α → Prop} {g : β → List AV} {Ok' : β → Prop} (h : Reads enc P w t f Ok) (hq : ∀ a, Ok a → ∃ b, Ok' b ∧ g b = f a) : Reads enc P w t g Ok' :=
 fun fuel cs x hs ht => let ⟨a, h1, h2, h3⟩ := h fuel cs x hs ht; let ⟨b, k1, k2⟩ := hq a h1; ⟨b, k1, by rw [k2]; exact h2, h3⟩
theorem Reads.int {t : TypeId} {k : IntKind} (ht : P.underlying t = some (.int k)) : Reads enc P w t (fun n : Int => [.sc (.int k n)]) (fun n => (Lit.int k n).wf = true) := fun fuel cs x _ h => by
 obtain ⟨n, rfl, rfl, hw⟩ := DataW.trod_int ht h
 exact ⟨n, hw, .one (.sc _), by simp [Value.oneCell']⟩
theorem Reads.bool {t : TypeId} (ht : P.underlying t = some .bool) : Reads enc P w t (fun b : Bool => [.sc (.bool b)]) (fun _ => True) := fun fuel cs x _ h => by
 obtain ⟨b, rfl, rfl⟩ := DataW.trod_bool ht h
 exact ⟨b, trivial, .one (.sc _), by simp [Value.oneCell']⟩
theorem pick {α : Type} {p : Nat → α → Prop} (n : Nat) (h : ∀ i, i < n → ∃ a, p i a) : ∃ l : List α, l.length = n ∧ ∀ i (hi : i < l.length), p i l[i] := by
 induction n with
 | zero => exact ⟨[], rfl, fun i hi => by simp at hi⟩
 | succ n ih =>
   obtain ⟨l, h1, h2⟩ := ih fun i hi => h i (by omega)
   obtain ⟨a, ha⟩ := h n (by omega)
   refine ⟨l ++ [a], by simp [h1], fun i hi => ?_⟩
   by_cases h3 : i < l.length
   ·rw [List.getElem_append_left h3]; exact h2 i h3
   ·have : i = l.length := by simp at hi; omega
    subst this
    rw [List.getElem_append_right (Nat.le_refl _)]
    simpa [h1] using ha
theorem Reads.slice {t e : TypeId} {f : α → List AV} {Ok : α → Prop} (ht : P.underlying t = some (.slice e)) (he : Reads enc P w e f Ok) (hz : ∀ a, (f a).length = P.cellsOf e) (hz0 : 0 < P.cellsOf e) :
  Reads enc P w t (fun x : Bool × List α => [.sl x.1 (x.2.map f) .unk]) (fun x => (∀ y ∈ x.2, Ok y) ∧ (x.1 = true → x.2 = []) ∧ x.2.length * P.bytesOf e ≤ reachBytes) := fun fuel cs x hs h => by
 rcases DataW.trod_slice ht h with ⟨rfl, rfl⟩ | ⟨a, len, cap, elems, rest, n, rfl, rfl, rfl, _, hlc, hcm, hlen, hel, hrest, _⟩
 ·exact ⟨(true, []), ⟨by simp, fun _ => rfl, by simp⟩, .one (.nil _ (.inl rfl)), by simp [Value.oneCell']⟩
 unfold Fits at hs
 simp only [DataW.weights, ht, List.mem_cons, List.mem_append, List.length_map] at hs
 have hbytes : len * P.bytesOf e ≤ reachBytes := by
  have := hs _ (.inl rfl)
  rw [hlen, Nat.add_mul] at this; omega
 have hfit : ∀ i (hi : i < elems.length), Fits P e elems[i].1 := fun i hi =>
  fits_all (l := elems.map (·.1)) (fun n hn => hs n (.inr (.inl hn))) _ (List.mem_map.2 ⟨_, List.getElem_mem hi, rfl⟩)
 by_cases hc0 : cap = 0
 ·have hl0 : len = 0 := by omega
  subst hc0; subst hl0
  exact ⟨(false, []), ⟨by simp, by simp, by simp⟩, .one (.sz a _ (.inl rfl)), by simp [Value.oneCell']⟩
 have hfirst : ∃ v, w.cell? a = some v := by
  have hcells : ∃ cs', w.cells? 0 a (P.cellsOf e) = some cs' := by
   by_cases hl0 : len = 0
   ·subst hl0
    have h1 := (hrest rfl).2 0 (by omega)
    rw [List.getElem?_eq_getElem (by rw [(hrest rfl).1]; omega)] at h1
    obtain ⟨cs', h2, _⟩ := Option.bind_eq_some_iff.1 h1
    refine ⟨cs', ?_⟩
    simpa [Addr.add] using h2
   ·have h1 := hel 0 (by omega)
    rw [List.getElem?_eq_getElem (by omega)] at h1
    obtain ⟨cs', h2, _⟩ := Option.bind_eq_some_iff.1 h1
    refine ⟨cs', ?_⟩
    simpa [Addr.add] using h2
  obtain ⟨cs', h2⟩ := hcells
  obtain ⟨_, q1, q2⟩ := World.cells?_some h2
  have := q2 0 hz0
  rw [List.getElem?_eq_getElem (by omega)] at this
  exact ⟨_, by simpa [Addr.add] using this⟩
 have hsp : a.spot = none := by
  obtain ⟨v, hv⟩ := hfirst
  unfold World.cell? at hv
  cases hsp : a.spot with
  | none => rfl
  | some k =>
    rw [hsp] at hv
    split at hv <;> simp at hv
 obtain ⟨b, off, spt⟩ := a
 cases hsp
 have key : ∀ i, i < len → ∃ y : α, Ok y ∧ ∃ cs', cs'.length = P.cellsOf e ∧ (∀ j (hj : j < cs'.length), w.cell? ⟨b, off + i * P.cellsOf e + j, none⟩ = some cs'[j]) ∧ Imms (Live w) w cs' (f y) ∧ ∀ v ∈ cs', v.oneCell' = true := fun i hi => by
  have h1 := hel i hi
  rw [List.getElem?_eq_getElem (by omega)] at h1
  obtain ⟨cs', h2, h3⟩ := Option.bind_eq_some_iff.1 h1
  obtain ⟨y, k1, k2, k3⟩ := he _ _ _ (hfit i (by omega)) h3
  obtain ⟨_, q1, q2⟩ := World.cells?_some h2
  refine ⟨y, k1, cs', q1, fun j hj => ?_, k2, k3⟩
  have := q2 j (by omega)
  rw [List.getElem?_eq_getElem hj] at this
  rw [← this]
  congr 1
  unfold Addr.add
  by_cases e1 : i * P.cellsOf e = 0
  ·rw [if_pos e1]
   by_cases e2 : j = 0
   ·subst e2; simp [e1]
   ·rw [if_neg e2]; simp [e1]
  ·rw [if_neg e1]
   by_cases e2 : j = 0
   ·subst e2; simp
   ·rw [if_neg e2]
 obtain ⟨l, hl, hp⟩ := pick len key
 refine ⟨(false, l), ⟨fun y hy => ?_, by simp, by rw [hl]; exact hbytes⟩, .one ?_, by simp [Value.oneCell']⟩
 ·obtain ⟨i, hi, rfl⟩ := List.getElem_of_mem hy
  exact (hp i hi).1
 ·
  have hcell : ∀ i j, i < len → j < P.cellsOf e → ∃ v, w.cell? ⟨b, off + i * P.cellsOf e + j, none⟩ = some v ∧ v.oneCell' = true ∧ ∀ (h : i < l.length) (h' : j < (f l[i]).length), Imm (Live w) w v (f l[i])[j] := fun i j hi hj => by
   obtain ⟨_, cs', q1, q2, q3, q4⟩ := hp i (by omega)
   exact ⟨cs'[j], q2 j (by omega), q4 _ (List.getElem_mem _), fun h h' => q3.2 j (by omega) h'⟩
  have hv := fun i j => show ∃ v, i < len → j < P.cellsOf e → w.cell? ⟨b, off + i * P.cellsOf e + j, none⟩ = some v ∧ v.oneCell' = true ∧ ∀ (h : i < l.length) (h' : j < (f l[i]).length), Imm (Live w) w v (f l[i])[j] from by
   by_cases h : i < len ∧ j < P.cellsOf e
   ·obtain ⟨v, hv⟩ := hcell i j h.1 h.2; exact ⟨v, fun _ _ => hv⟩
   ·exact ⟨undef, fun h1 h2 => absurd ⟨h1, h2⟩ h⟩
  have hvs : ∀ i j, ∃ v, v = Classical.choose (hv i j) := fun i j => ⟨_, rfl⟩
  have e0 : (l.map f).length = len := by simp [hl]
  have := Imm.sl (F := Live w) (w := w) b off cap (P.cellsOf e) (l.map f) .unk (fun i j => Classical.choose (hv i j)) (by rw [e0]; exact hlc) (.inl rfl) (fun i hi => by rw [List.getElem_map]; exact hz _)
   (fun i j hi hj => by
    obtain ⟨k1, k2, _⟩ := Classical.choose_spec (hv i j) (by rw [← e0]; exact hi) hj
    refine ⟨?_, k1, k2⟩
    unfold World.cell? at k1
    show b < w.heap.size
    cases hb : w.heap[b]? with
    | none => simp [hb] at k1
    | some o => exact (Array.getElem?_eq_some_iff.1 hb).1)
   (fun i j h h' => by
    have h'2 := h'
    rw [List.getElem_map, hz] at h'2
    have := (Classical.choose_spec (hv i j) (by rw [← e0]; exact h) h'2).2.2 (by simpa using h) (by rw [hz]; exact h'2)
    simpa only [List.getElem_map] using this)
  rw [e0] at this
  exact this
def RdF (enc : TypeId × Value → H) (P : Program) (w : World) (L : List Field) (k tot : Nat) (f : α → List AV) (Ok : α → Prop) : Prop :=
 ∀ (n : Nat) (cs : List Value), cs.length = tot → (∀ fd ∈ L, ∃ y, DataW.trod enc P w 0 (fun _ => true) true n fd.type ((cs.drop fd.offset).take (P.cellsOf fd.type)) = some y ∧ Fits P fd.type y.1) →
   ∃ a, Ok a ∧ Imms (Live w) w (cs.drop k) (f a) ∧ ∀ v ∈ cs.drop k, v.oneCell' = true
theorem RdF.nil {tot : Nat} : RdF enc P w [] tot tot (fun _ : Unit => []) (fun _ => True) := fun n cs hl _ => by
 have : cs.drop tot = [] := by rw [List.drop_eq_nil_iff]; omega
 rw [this]
 exact ⟨(), trivial, ⟨rfl, fun i h => by simp at h⟩, by simp⟩
theorem RdF.cons {fd : Field} {fs : List Field} {k k' sz tot : Nat} {f : α → List AV} {Ok : α → Prop} {g : β → List AV} {Ok' : β → Prop} (ho : fd.offset = k) (hz : P.cellsOf fd.type = sz) (hk : k + sz = k')
  (h : Reads enc P w fd.type f Ok) (hs : RdF enc P w fs k' tot g Ok') : RdF enc P w (fd :: fs) k tot (fun x : α × β => f x.1 ++ g x.2) (fun x => Ok x.1 ∧ Ok' x.2) := fun n cs hl hf => by
 obtain ⟨y, hy, hyf⟩ := hf fd List.mem_cons_self
 obtain ⟨a, h1, h2, h3⟩ := h _ _ _ hyf hy
 obtain ⟨b, k1, k2, k3⟩ := hs n cs hl fun fd' h' => hf fd' (List.mem_cons_of_mem _ h')
 have e : cs.drop k = (cs.drop k).take sz ++ cs.drop k' := by
  rw [← hk, ← List.drop_drop, List.take_append_drop]
 rw [ho, hz] at h2 h3
 refine ⟨(a, b), ⟨h1, k1⟩, by rw [e]; exact h2.append k2, fun v hv => ?_⟩
 rw [e, List.mem_append] at hv
 rcases hv with hv | hv
 ·exact h3 v hv
 ·exact k3 v hv
theorem Reads.struct {t : TypeId} {fs : Array Field} {tot : Nat} {f : α → List AV} {Ok : α → Prop} (ht : P.underlying t = some (.struct fs)) (hz : P.cellsOf t = tot) (h : RdF enc P w fs.toList 0 tot f Ok) : Reads enc P w t f Ok := fun fuel cs x hs hx => by
 obtain ⟨xs, n, _, rfl, hl, hlen, hf⟩ := DataW.trod_struct ht hx
 unfold Fits at hs
 simp only [DataW.weights, ht] at hs
 obtain ⟨a, h1, h2, h3⟩ := h n cs (hl.trans hz) fun fd hfd => by
  obtain ⟨i, hi, rfl⟩ := List.getElem_of_mem hfd
  have := hf i fs.toList[i] (by simp)
  have hix : i < xs.length := by simp at hi; omega
  rw [List.getElem?_eq_getElem hix] at this
  exact ⟨_, this, fits_each hs i _ _ (by rw [List.getElem?_map, List.getElem?_eq_getElem hi]; rfl) (by rw [List.getElem?_map, List.getElem?_eq_getElem hix]; rfl)⟩
 exact ⟨a, h1, by simpa using h2, by simpa using h3⟩
theorem arr_go {sz : Nat} {f : α → List AV} {Ok : α → Prop} : ∀ (n : Nat) (cs : List Value), cs.length = n * sz →
  (∀ i, i < n → ∃ a, Ok a ∧ Imms (Live w) w ((cs.drop (i * sz)).take sz) (f a) ∧ ∀ v ∈ (cs.drop (i * sz)).take sz, v.oneCell' = true) →
  ∃ l : List α, l.length = n ∧ (∀ a ∈ l, Ok a) ∧ Imms (Live w) w cs (l.map f).flatten ∧ ∀ v ∈ cs, v.oneCell' = true
 | 0, cs, hl, _ => by
   have : cs = [] := by cases cs with
    | nil => rfl
    | cons a l => simp at hl
   subst this
   exact ⟨[], rfl, by simp, ⟨rfl, fun i h => by simp at h⟩, by simp⟩
 | n + 1, cs, hl, h => by
   obtain ⟨a, h1, h2, h3⟩ := h 0 (by omega)
   obtain ⟨l, k1, k2, k3, k4⟩ := arr_go (sz := sz) n (cs.drop sz) (by rw [List.length_drop, hl, Nat.add_mul]; omega) fun i hi => by
    have := h (i + 1) (by omega)
    rwa [List.drop_drop, show sz + i * sz = (i + 1) * sz by rw [Nat.add_mul]; omega]
   simp only [Nat.zero_mul, List.drop_zero] at h2 h3
   have e := List.take_append_drop sz cs
   refine ⟨a :: l, by simp [k1], fun b hb => ?_, ?_, fun v hv => ?_⟩
   ·rcases List.mem_cons.1 hb with rfl | hb
    ·exact h1
    ·exact k2 b hb
   ·rw [← e]; simpa using h2.append k3
   ·rw [← e, List.mem_append] at hv
    rcases hv with hv | hv
    ·exact h3 v hv
    ·exact k4 v hv
theorem Reads.array {t e : TypeId} {n sz : Nat} {f : α → List AV} {Ok : α → Prop} (ht : P.underlying t = some (.array n e)) (hz : P.cellsOf e = sz) (ha : P.cellsOf t = n * sz) (h : Reads enc P w e f Ok) :
  Reads enc P w t (fun l : List α => (l.map f).flatten) (fun l => l.length = n ∧ ∀ a ∈ l, Ok a) := fun fuel cs x hs hx => by
 obtain ⟨xs, m, _, rfl, hl, hlen, hf⟩ := DataW.trod_array ht hx
 rw [ha] at hl
 rw [hz] at hf
 unfold Fits at hs
 simp only [DataW.weights, ht] at hs
 obtain ⟨l, h1, h2, h3, h4⟩ := arr_go n cs hl fun i hi => by
  have := hf i hi
  rw [List.getElem?_eq_getElem (by omega)] at this
  exact h _ _ _ (fits_all hs _ (List.mem_map.2 ⟨_, List.getElem_mem _, rfl⟩)) this
 exact ⟨l, ⟨h1, h2⟩, h3, h4⟩
theorem Grown.below {F F' : Nat → Nat → Prop} {w' : World} (g : Avl.Grown F w F' w') : Below w.heap.size w w' := ⟨g.kept.os, g.kept.tape, g.kept.output, g.size, g.old⟩
theorem trodAll_stays (hl : laidOutB P = true) {w' : World} (hb : Below w.heap.size w w') {spf : Nat → Bool} : ∀ {ts : List TypeId} {vs : List Value} {ds : List (DataW H)} {ps : List MemPlace}, (∀ t ∈ ts, P.readableRec t = true ∧ t < P.types.size) →
  DataW.TrodAll enc P w 0 (fun _ => true) true ts vs ds ps → (∀ p ∈ ps, p.block < w.heap.size) → (∀ p ∈ ps, spf p.block = true) → DataW.TrodAll enc P w' 0 spf true ts vs ds ps
 | [], [], [], _, _, h, _, _ => h
 | t :: ts, v :: vs, d :: ds, _, hr, ⟨p, q, h1, h2, e⟩, hlt, hsp => by
   subst e
   refine ⟨p, q, ?_, trodAll_stays hl hb (fun t ht => hr t (List.mem_cons_of_mem _ ht)) h2 (fun x hx => hlt x (List.mem_append_right _ hx)) fun x hx => hsp x (List.mem_append_right _ hx), rfl⟩
   have := hr t List.mem_cons_self
   exact WideElems.Trod_stays hl this.1 this.2 h1 (fun x hx => hb.same (hlt x (List.mem_append_left _ hx))) fun x hx => hsp x (List.mem_append_left _ hx)
 | [], _ :: _, _, _, _, h, _, _ => h.elim
 | [], [], _ :: _, _, _, h, _, _ => h.elim
 | _ :: _, [], _, _, _, h, _, _ => h.elim
 | _ :: _, _ :: _, [], _, _, h, _, _ => h.elim
theorem law_calls {f : FuncId} {fn : Func} {s : ChangeSpec} {apart fresh handsOn again : Bool} {args : Array Value} {avs : List AV} {ds : List (DataW H)} {before : List MemPlace} {tb : TypeId}
  (hl : laidOutB P = true) (hrd : (fn.params.toList.all fun t => P.readableRec t && decide (t < P.types.size)) = true) (hrt : fn.resultTypes = #[tb]) (htb : P.underlying tb = some .bool) (hvars : s.vars = [])
  (hs : s.fn H (ds ++ []) = { results := [.lit (.bool true)], args := ds })
  (h : PureIs P f avs (.sc (.bool true))) (hi : Imms (Live w) w args.toList avs) (hW : DataW.Whole enc P fn.params.toList s.vars apart w args.toList ds [] before) (hgl : Globs (Live w) w := by exact fun g vs hg => by cases hg) :
  Calls P f args w fun e W' => ∃ v, e = .returned v ∧ s.post enc P fn apart fresh handsOn again w args v W' := by
 have hW' := hW
 obtain ⟨p, q, hA, hV, rfl, hfz, hnd⟩ := hW
 rw [hvars] at hV
 obtain ⟨_, rfl⟩ := trodVars_none hV
 have hc := callsIn_wide.1 (h.2 (Live w) w args.toList ⟨fun _ _ h => h, hgl⟩ hi)
 rw [Array.toArray_toList] at hc
 refine hc.mono fun e W' ⟨v, F', he, hr, g⟩ => ?_
 have hv : v = .bool true := by cases hr; rfl
 subst hv
 have hb := Grown.below g
 refine ⟨_, he, post_of_same (pa := p) (pv := []) (by simpa using hW') (fun _ _ _ => ?_) (fun sp hsp => ?_) (fun _ _ => ?_) (by simp) (hb.frame _) g.kept.froz ?_⟩
 ·rw [hs, hrt]; exact trodAll_mk1 (shut_bool htb true)
 ·rw [hs]
  refine trodAll_stays hl hb (fun t ht => ?_) hA (fun x hx => hW'.lt x (by simpa using hx)) fun x hx => hsp x (by simpa using hx)
  have := List.all_eq_true.1 hrd t ht
  simpa using this
 ·rw [hvars, hs]; exact rfl
 ·exact ok_one hrt rfl (okWide_bool_mk htb true)
end
end Go.Avl
namespace Go.Avl
open Go Go.Proofs
end Go.Avl
namespace Go.Proofs.Ytkfpnkpomjmpeaa
open Go Go.Avl Go.Proofs Go.ChangeShapes Go.RowKit
theorem Try.own : ownKnob Try.prog.godebug = none := by kernel_rfl
theorem Try.laidOut : laidOutB Try.prog = true := by kernel_rfl
section
variable {H : Type} {enc : TypeId × Value → H} {w : World}
end
end Go.Proofs.Ytkfpnkpomjmpeaa
